/-
  DERIVED. GIVEN WITH THE SEED: THE CARDS: each row of YtilnccjdbdcklaaDoorRows.lean that lists a variable, with what it lists TIED to the program's text (the seventh form; the later family's looks); each row that meets fmt, with fmt's text TOLD by the authors' own Lean function (tested against real Go, not proved from fmt's source: count such statements apart). THE CARD IS WHAT COUNTS. Prove the row's statement (the work); the ties are given (YtilnccjdbdcklaaDoorTie.lean); close each card by the builder's one call (the guide's Derived/Test/ToyasCard.lean, 'card_holds'). Laid BY PROGRAM, IN A SANDBOX (cutbox-door.mjs). By AI agents, Wed Nov 11 2026. No macro, syntax, notation, axiom, sorry.
-/
import Derived.Test.YtilnccjdbdcklaaDoorRows
import GoSem.ClaimSeven
namespace Go.Proofs.YtilnccjdbdcklaaDoor
namespace Rows

/-- THE TIED CARD OF 'redactorlaw13.LexerNumbers'. -/
def lexerNumbersCard : Claim7 := { stood := { row := lexerNumbersRow, standIns := [], harness := (true, "01fe6e46b6503349f70fd9cf026ecb24d1566debebd317fb36506a43cfa136de"), looks := false }, kinds := [], alts := [], laidByText := true, laidKinds := [.data, .pinned], laidTests := true, laidLooks := .later }
def LexerNumbersCardSaid : Prop := Claim7.holds Tryd.pinned (.plain (OpenSpec.ofChange lexerNumbersSpec)) lexerNumbersCard

/-- THE TIED CARD OF 'redactorlaw13.LexerPlays'. -/
def lexerPlaysCard : Claim7 := { stood := { row := lexerPlaysRow, standIns := [], harness := (true, "01fe6e46b6503349f70fd9cf026ecb24d1566debebd317fb36506a43cfa136de"), looks := false }, kinds := [], alts := [], laidByText := true, laidKinds := [.data, .pinned], laidTests := true, laidLooks := .later }
def LexerPlaysCardSaid : Prop := Claim7.holds Tryd.pinned (.plain (OpenSpec.ofChange lexerPlaysSpec)) lexerPlaysCard

/-- THE TIED CARD OF 'redactorlaw13.LexerNil'. -/
def lexerNilCard : Claim7 := { stood := { row := lexerNilRow, standIns := [], harness := (true, "01fe6e46b6503349f70fd9cf026ecb24d1566debebd317fb36506a43cfa136de"), looks := false }, kinds := [], alts := [], laidByText := true, laidKinds := [.data, .pinned], laidTests := true, laidLooks := .later }
def LexerNilCardSaid : Prop := Claim7.holds Tryd.pinned (.plain (OpenSpec.ofChange lexerNilSpec)) lexerNilCard

/-- THE SECOND FORM's CARD OF 'redactorlaw13.LexerNumbers'. -/
def lexerNumbersUptoCard : Claim7 := { stood := { row := lexerNumbersUptoRow, standIns := [], harness := (true, "01fe6e46b6503349f70fd9cf026ecb24d1566debebd317fb36506a43cfa136de"), looks := false }, kinds := [], alts := [], laidByText := true, laidKinds := [.data, .pinned], laidTests := true, laidLooks := .later }
def LexerNumbersUptoCardSaid : Prop := Claim7.holds Tryd.pinned (.plain (OpenSpec.upto lexerNumbersSpec)) lexerNumbersUptoCard

/-- THE SECOND FORM's CARD OF 'redactorlaw13.LexerPlays'. -/
def lexerPlaysUptoCard : Claim7 := { stood := { row := lexerPlaysUptoRow, standIns := [], harness := (true, "01fe6e46b6503349f70fd9cf026ecb24d1566debebd317fb36506a43cfa136de"), looks := false }, kinds := [], alts := [], laidByText := true, laidKinds := [.data, .pinned], laidTests := true, laidLooks := .later }
def LexerPlaysUptoCardSaid : Prop := Claim7.holds Tryd.pinned (.plain (OpenSpec.upto lexerPlaysSpec)) lexerPlaysUptoCard

/-- THE SECOND FORM's CARD OF 'redactorlaw13.LexerNil'. -/
def lexerNilUptoCard : Claim7 := { stood := { row := lexerNilUptoRow, standIns := [], harness := (true, "01fe6e46b6503349f70fd9cf026ecb24d1566debebd317fb36506a43cfa136de"), looks := false }, kinds := [], alts := [], laidByText := true, laidKinds := [.data, .pinned], laidTests := true, laidLooks := .later }
def LexerNilUptoCardSaid : Prop := Claim7.holds Tryd.pinned (.plain (OpenSpec.upto lexerNilSpec)) lexerNilUptoCard
end Rows
end Go.Proofs.YtilnccjdbdcklaaDoor
