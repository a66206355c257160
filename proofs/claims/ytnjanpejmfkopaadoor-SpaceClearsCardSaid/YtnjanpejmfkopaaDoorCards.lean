/-
  DERIVED. GIVEN WITH THE SEED: THE CARDS: each row of YtnjanpejmfkopaaDoorRows.lean that lists a variable, with what it lists TIED to the program's text (the seventh form; the later family's looks); each row that meets fmt, with fmt's text TOLD by the authors' own Lean function (tested against real Go, not proved from fmt's source: count such statements apart). THE CARD IS WHAT COUNTS. Prove the row's statement (the work); the ties are given (YtnjanpejmfkopaaDoorTie.lean); close each card by the builder's one call (the guide's Derived/Test/ToyasCard.lean, 'card_holds'). Laid BY PROGRAM, IN A SANDBOX (cutbox-door.mjs). By AI agents, Wed Nov 11 2026. No macro, syntax, notation, axiom, sorry.
-/
import Derived.Test.YtnjanpejmfkopaaDoorRows
import GoSem.ClaimSeven
namespace Go.Proofs.YtnjanpejmfkopaaDoor
namespace Rows

/-- THE TIED CARD OF 'redactorlaw19.SpaceLines'. -/
def spaceLinesCard : Claim7 := { stood := { row := spaceLinesRow, standIns := [], harness := (true, "3f73ed1e207ee674265931fdcf1f9f54f564f579f1214e959b82ed83e2fb6026"), looks := false }, kinds := [], alts := [], laidByText := true, laidKinds := [.data, .pinned], laidTests := true, laidLooks := .later }
def SpaceLinesCardSaid : Prop := Claim7.holds Tryd.pinned (.plain (OpenSpec.ofChange spaceLinesSpec)) spaceLinesCard

/-- THE TIED CARD OF 'redactorlaw19.SpaceClears'. -/
def spaceClearsCard : Claim7 := { stood := { row := spaceClearsRow, standIns := [], harness := (true, "3f73ed1e207ee674265931fdcf1f9f54f564f579f1214e959b82ed83e2fb6026"), looks := false }, kinds := [], alts := [], laidByText := true, laidKinds := [.data, .pinned], laidTests := true, laidLooks := .later }
def SpaceClearsCardSaid : Prop := Claim7.holds Tryd.pinned (.plain (OpenSpec.ofChange spaceClearsSpec)) spaceClearsCard

/-- THE TIED CARD OF 'redactorlaw19.SpaceNil'. -/
def spaceNilCard : Claim7 := { stood := { row := spaceNilRow, standIns := [], harness := (true, "3f73ed1e207ee674265931fdcf1f9f54f564f579f1214e959b82ed83e2fb6026"), looks := false }, kinds := [], alts := [], laidByText := true, laidKinds := [.data, .pinned], laidTests := true, laidLooks := .later }
def SpaceNilCardSaid : Prop := Claim7.holds Tryd.pinned (.plain (OpenSpec.ofChange spaceNilSpec)) spaceNilCard

/-- THE SECOND FORM's CARD OF 'redactorlaw19.SpaceLines'. -/
def spaceLinesUptoCard : Claim7 := { stood := { row := spaceLinesUptoRow, standIns := [], harness := (true, "3f73ed1e207ee674265931fdcf1f9f54f564f579f1214e959b82ed83e2fb6026"), looks := false }, kinds := [], alts := [], laidByText := true, laidKinds := [.data, .pinned], laidTests := true, laidLooks := .later }
def SpaceLinesUptoCardSaid : Prop := Claim7.holds Tryd.pinned (.plain (OpenSpec.upto spaceLinesSpec)) spaceLinesUptoCard

/-- THE SECOND FORM's CARD OF 'redactorlaw19.SpaceClears'. -/
def spaceClearsUptoCard : Claim7 := { stood := { row := spaceClearsUptoRow, standIns := [], harness := (true, "3f73ed1e207ee674265931fdcf1f9f54f564f579f1214e959b82ed83e2fb6026"), looks := false }, kinds := [], alts := [], laidByText := true, laidKinds := [.data, .pinned], laidTests := true, laidLooks := .later }
def SpaceClearsUptoCardSaid : Prop := Claim7.holds Tryd.pinned (.plain (OpenSpec.upto spaceClearsSpec)) spaceClearsUptoCard

/-- THE SECOND FORM's CARD OF 'redactorlaw19.SpaceNil'. -/
def spaceNilUptoCard : Claim7 := { stood := { row := spaceNilUptoRow, standIns := [], harness := (true, "3f73ed1e207ee674265931fdcf1f9f54f564f579f1214e959b82ed83e2fb6026"), looks := false }, kinds := [], alts := [], laidByText := true, laidKinds := [.data, .pinned], laidTests := true, laidLooks := .later }
def SpaceNilUptoCardSaid : Prop := Claim7.holds Tryd.pinned (.plain (OpenSpec.upto spaceNilSpec)) spaceNilUptoCard
end Rows
end Go.Proofs.YtnjanpejmfkopaaDoor
