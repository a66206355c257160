/-
  NARROWER THAN 'FOR EVERY INPUT', by the rows' own cells (each row's printed sentence says how): TreeSame: loops · TreeJoins: loops · TreeFlat: loops · TreeForms: loops · MatchFinds: loops · MatchWithin: loops · MatchLeast: loops · MatchEither: loops · MatchGroup: loops · SubstItself: loops · SubstFirst: loops · SubstBeyond: loops.
  DERIVED. THE GIVEN ROWS OF THIS SEAT. 17 by the template 'for every input the law returns true; each argument reads behind the call as it read before'; 0 by the template 'total and deterministic' (their statements: YtkidjbfapldmbaaTotals.lean).
  GIVEN WITH THE SEED: the statements are not yours to turn. If you find one false, say at which input.
  Laid BY PROGRAM, IN A SANDBOX (cutbox-rows.mjs): the forced cells as the released guide's own fill.sh prints them over the translation 4372610c4b3f285d… (all of the seat's roots in one cut). By AI agents, Wed Nov 11 2026. No macro, syntax, notation, axiom, sorry.
-/
import Derived.Test.YtkidjbfapldmbaaChecked
import GoSem.Claim
import GoSem.ClaimJoined
import GoSem.ClaimMapViews
import Derived.JoinedTies
import Derived.KernelRfl
namespace Go.Proofs.Ytkidjbfapldmbaa
/- THE CELL 'sum', in the pinned program and in every row, IS THE sha256 OF THE DUMP (.gsa) THAT YtkidjbfapldmbaaProg.lean LOADS. Nothing in Lean hashes anything: it is a label: what it is worth is what the hold of that sum in a sandbox is worth. -/
noncomputable def Try.pinned : Pinned := { name := "ytkidjbfapldmbaa", sum := "4372610c4b3f285d749cdd021006afa817aa504bf1b57bc0e0e195a9352705fa", checked := Try.checked }
namespace Rows
def none {H : Type} : Left H := { results := [], args := [] }

/-- 'redactorlaw08.TreeSame': WHATEVER THE INPUT: true; the input reads as it did. -/
def treeSameSpec : ChangeSpec := { name := "treeSame", fn := fun _ => fun
  | [d1, d2] => { results := [.lit (.bool true)], args := [d1, d2] }
  | _ => none }
def treeSameRow : OpenClaim := { program := "ytkidjbfapldmbaa", sum := "4372610c4b3f285d749cdd021006afa817aa504bf1b57bc0e0e195a9352705fa", func := "redactor/redactorlaw08.TreeSame", spec := "treeSame", unfollowed := true, recurses := true, loops := true, apart := false }
def TreeSameSaid : Prop := treeSameRow.holds Try.pinned (OpenSpec.ofChange treeSameSpec)

/-- ITS FALSE NEIGHBOUR: 'it returns false'. Refute it at one input. -/
def treeSameWrong : ChangeSpec := { name := "treeSame", fn := fun _ => fun
  | [d1, d2] => { results := [.lit (.bool false)], args := [d1, d2] }
  | _ => none }
def TreeSameWrongFalsely : Prop := treeSameRow.holds Try.pinned (OpenSpec.ofChange treeSameWrong)

/-- 'redactorlaw08.TreeJoins': WHATEVER THE INPUT: true; the input reads as it did. -/
def treeJoinsSpec : ChangeSpec := { name := "treeJoins", fn := fun _ => fun
  | [d] => { results := [.lit (.bool true)], args := [d] }
  | _ => none }
def treeJoinsRow : OpenClaim := { program := "ytkidjbfapldmbaa", sum := "4372610c4b3f285d749cdd021006afa817aa504bf1b57bc0e0e195a9352705fa", func := "redactor/redactorlaw08.TreeJoins", spec := "treeJoins", recurses := true, loops := true, apart := false }
def TreeJoinsSaid : Prop := treeJoinsRow.holds Try.pinned (OpenSpec.ofChange treeJoinsSpec)

/-- ITS FALSE NEIGHBOUR: 'it returns false'. Refute it at one input. -/
def treeJoinsWrong : ChangeSpec := { name := "treeJoins", fn := fun _ => fun
  | [d] => { results := [.lit (.bool false)], args := [d] }
  | _ => none }
def TreeJoinsWrongFalsely : Prop := treeJoinsRow.holds Try.pinned (OpenSpec.ofChange treeJoinsWrong)

/-- 'redactorlaw08.TreeFlat': WHATEVER THE INPUT: true; the input reads as it did. -/
def treeFlatSpec : ChangeSpec := { name := "treeFlat", fn := fun _ => fun
  | [d1, d2] => { results := [.lit (.bool true)], args := [d1, d2] }
  | _ => none }
def treeFlatRow : OpenClaim := { program := "ytkidjbfapldmbaa", sum := "4372610c4b3f285d749cdd021006afa817aa504bf1b57bc0e0e195a9352705fa", func := "redactor/redactorlaw08.TreeFlat", spec := "treeFlat", unfollowed := true, recurses := true, loops := true, apart := false }
def TreeFlatSaid : Prop := treeFlatRow.holds Try.pinned (OpenSpec.ofChange treeFlatSpec)

/-- ITS FALSE NEIGHBOUR: 'it returns false'. Refute it at one input. -/
def treeFlatWrong : ChangeSpec := { name := "treeFlat", fn := fun _ => fun
  | [d1, d2] => { results := [.lit (.bool false)], args := [d1, d2] }
  | _ => none }
def TreeFlatWrongFalsely : Prop := treeFlatRow.holds Try.pinned (OpenSpec.ofChange treeFlatWrong)

/-- 'redactorlaw08.TreeForms': WHATEVER THE INPUT: true; the input reads as it did. -/
def treeFormsSpec : ChangeSpec := { name := "treeForms", fn := fun _ => fun
  | [d] => { results := [.lit (.bool true)], args := [d] }
  | _ => none }
def treeFormsRow : OpenClaim := { program := "ytkidjbfapldmbaa", sum := "4372610c4b3f285d749cdd021006afa817aa504bf1b57bc0e0e195a9352705fa", func := "redactor/redactorlaw08.TreeForms", spec := "treeForms", recurses := true, loops := true, apart := false }
def TreeFormsSaid : Prop := treeFormsRow.holds Try.pinned (OpenSpec.ofChange treeFormsSpec)

/-- ITS FALSE NEIGHBOUR: 'it returns false'. Refute it at one input. -/
def treeFormsWrong : ChangeSpec := { name := "treeForms", fn := fun _ => fun
  | [d] => { results := [.lit (.bool false)], args := [d] }
  | _ => none }
def TreeFormsWrongFalsely : Prop := treeFormsRow.holds Try.pinned (OpenSpec.ofChange treeFormsWrong)

/-- 'redactorlaw12.MatchFinds': WHATEVER THE INPUT: true; the input reads as it did. -/
def matchFindsSpec : ChangeSpec := { name := "matchFinds", fn := fun _ => fun
  | [d1, d2, d3, d4] => { results := [.lit (.bool true)], args := [d1, d2, d3, d4] }
  | _ => none }
def matchFindsRow : OpenClaim := { program := "ytkidjbfapldmbaa", sum := "4372610c4b3f285d749cdd021006afa817aa504bf1b57bc0e0e195a9352705fa", func := "redactor/redactorlaw12.MatchFinds", spec := "matchFinds", inPlace := ["math.archTrunc", "math.Float64bits", "math.Float64frombits"], recurses := true, loops := true, apart := false }
def MatchFindsSaid : Prop := matchFindsRow.holds Try.pinned (OpenSpec.ofChange matchFindsSpec)

/-- ITS FALSE NEIGHBOUR: 'it returns false'. Refute it at one input. -/
def matchFindsWrong : ChangeSpec := { name := "matchFinds", fn := fun _ => fun
  | [d1, d2, d3, d4] => { results := [.lit (.bool false)], args := [d1, d2, d3, d4] }
  | _ => none }
def MatchFindsWrongFalsely : Prop := matchFindsRow.holds Try.pinned (OpenSpec.ofChange matchFindsWrong)

/-- 'redactorlaw12.MatchPatterns': WHATEVER THE INPUT: true; the input reads as it did. -/
def matchPatternsSpec : ChangeSpec := { name := "matchPatterns", fn := fun _ => fun
  | [d1, d2, d3, d4, d5] => { results := [.lit (.bool true)], args := [d1, d2, d3, d4, d5] }
  | _ => none }
def matchPatternsRow : OpenClaim := { program := "ytkidjbfapldmbaa", sum := "4372610c4b3f285d749cdd021006afa817aa504bf1b57bc0e0e195a9352705fa", func := "redactor/redactorlaw12.MatchPatterns", spec := "matchPatterns", inPlace := ["math.archTrunc", "math.Float64bits", "math.Float64frombits"], recurses := true, apart := false }
def MatchPatternsSaid : Prop := matchPatternsRow.holds Try.pinned (OpenSpec.ofChange matchPatternsSpec)

/-- ITS FALSE NEIGHBOUR: 'it returns false'. Refute it at one input. -/
def matchPatternsWrong : ChangeSpec := { name := "matchPatterns", fn := fun _ => fun
  | [d1, d2, d3, d4, d5] => { results := [.lit (.bool false)], args := [d1, d2, d3, d4, d5] }
  | _ => none }
def MatchPatternsWrongFalsely : Prop := matchPatternsRow.holds Try.pinned (OpenSpec.ofChange matchPatternsWrong)

/-- 'redactorlaw12.MatchWithin': WHATEVER THE INPUT: true; the input reads as it did. -/
def matchWithinSpec : ChangeSpec := { name := "matchWithin", fn := fun _ => fun
  | [d1, d2, d3] => { results := [.lit (.bool true)], args := [d1, d2, d3] }
  | _ => none }
def matchWithinRow : OpenClaim := { program := "ytkidjbfapldmbaa", sum := "4372610c4b3f285d749cdd021006afa817aa504bf1b57bc0e0e195a9352705fa", func := "redactor/redactorlaw12.MatchWithin", spec := "matchWithin", inPlace := ["math.archTrunc", "math.Float64bits", "math.Float64frombits"], recurses := true, loops := true, apart := false }
def MatchWithinSaid : Prop := matchWithinRow.holds Try.pinned (OpenSpec.ofChange matchWithinSpec)

/-- ITS FALSE NEIGHBOUR: 'it returns false'. Refute it at one input. -/
def matchWithinWrong : ChangeSpec := { name := "matchWithin", fn := fun _ => fun
  | [d1, d2, d3] => { results := [.lit (.bool false)], args := [d1, d2, d3] }
  | _ => none }
def MatchWithinWrongFalsely : Prop := matchWithinRow.holds Try.pinned (OpenSpec.ofChange matchWithinWrong)

/-- 'redactorlaw12.MatchLiteral': WHATEVER THE INPUT: true; the input reads as it did. -/
def matchLiteralSpec : ChangeSpec := { name := "matchLiteral", fn := fun _ => fun
  | [d1, d2] => { results := [.lit (.bool true)], args := [d1, d2] }
  | _ => none }
def matchLiteralRow : OpenClaim := { program := "ytkidjbfapldmbaa", sum := "4372610c4b3f285d749cdd021006afa817aa504bf1b57bc0e0e195a9352705fa", func := "redactor/redactorlaw12.MatchLiteral", spec := "matchLiteral", inPlace := ["math.archTrunc", "math.Float64bits", "math.Float64frombits"], recurses := true, apart := false }
def MatchLiteralSaid : Prop := matchLiteralRow.holds Try.pinned (OpenSpec.ofChange matchLiteralSpec)

/-- ITS FALSE NEIGHBOUR: 'it returns false'. Refute it at one input. -/
def matchLiteralWrong : ChangeSpec := { name := "matchLiteral", fn := fun _ => fun
  | [d1, d2] => { results := [.lit (.bool false)], args := [d1, d2] }
  | _ => none }
def MatchLiteralWrongFalsely : Prop := matchLiteralRow.holds Try.pinned (OpenSpec.ofChange matchLiteralWrong)

/-- 'redactorlaw12.MatchTexts': WHATEVER THE INPUT: true; the input reads as it did. -/
def matchTextsSpec : ChangeSpec := { name := "matchTexts", fn := fun _ => fun
  | [d1, d2, d3, d4] => { results := [.lit (.bool true)], args := [d1, d2, d3, d4] }
  | _ => none }
def matchTextsRow : OpenClaim := { program := "ytkidjbfapldmbaa", sum := "4372610c4b3f285d749cdd021006afa817aa504bf1b57bc0e0e195a9352705fa", func := "redactor/redactorlaw12.MatchTexts", spec := "matchTexts", inPlace := ["math.archTrunc", "math.Float64bits", "math.Float64frombits"], recurses := true, apart := false }
def MatchTextsSaid : Prop := matchTextsRow.holds Try.pinned (OpenSpec.ofChange matchTextsSpec)

/-- ITS FALSE NEIGHBOUR: 'it returns false'. Refute it at one input. -/
def matchTextsWrong : ChangeSpec := { name := "matchTexts", fn := fun _ => fun
  | [d1, d2, d3, d4] => { results := [.lit (.bool false)], args := [d1, d2, d3, d4] }
  | _ => none }
def MatchTextsWrongFalsely : Prop := matchTextsRow.holds Try.pinned (OpenSpec.ofChange matchTextsWrong)

/-- 'redactorlaw12.MatchLeast': WHATEVER THE INPUT: true; the input reads as it did. -/
def matchLeastSpec : ChangeSpec := { name := "matchLeast", fn := fun _ => fun
  | [d1, d2, d3, d4] => { results := [.lit (.bool true)], args := [d1, d2, d3, d4] }
  | _ => none }
def matchLeastRow : OpenClaim := { program := "ytkidjbfapldmbaa", sum := "4372610c4b3f285d749cdd021006afa817aa504bf1b57bc0e0e195a9352705fa", func := "redactor/redactorlaw12.MatchLeast", spec := "matchLeast", inPlace := ["math.archTrunc", "math.Float64bits", "math.Float64frombits"], recurses := true, loops := true, apart := false }
def MatchLeastSaid : Prop := matchLeastRow.holds Try.pinned (OpenSpec.ofChange matchLeastSpec)

/-- ITS FALSE NEIGHBOUR: 'it returns false'. Refute it at one input. -/
def matchLeastWrong : ChangeSpec := { name := "matchLeast", fn := fun _ => fun
  | [d1, d2, d3, d4] => { results := [.lit (.bool false)], args := [d1, d2, d3, d4] }
  | _ => none }
def MatchLeastWrongFalsely : Prop := matchLeastRow.holds Try.pinned (OpenSpec.ofChange matchLeastWrong)

/-- 'redactorlaw12.MatchEither': WHATEVER THE INPUT: true; the input reads as it did. -/
def matchEitherSpec : ChangeSpec := { name := "matchEither", fn := fun _ => fun
  | [d1, d2, d3, d4] => { results := [.lit (.bool true)], args := [d1, d2, d3, d4] }
  | _ => none }
def matchEitherRow : OpenClaim := { program := "ytkidjbfapldmbaa", sum := "4372610c4b3f285d749cdd021006afa817aa504bf1b57bc0e0e195a9352705fa", func := "redactor/redactorlaw12.MatchEither", spec := "matchEither", inPlace := ["math.archTrunc", "math.Float64bits", "math.Float64frombits"], recurses := true, loops := true, apart := false }
def MatchEitherSaid : Prop := matchEitherRow.holds Try.pinned (OpenSpec.ofChange matchEitherSpec)

/-- ITS FALSE NEIGHBOUR: 'it returns false'. Refute it at one input. -/
def matchEitherWrong : ChangeSpec := { name := "matchEither", fn := fun _ => fun
  | [d1, d2, d3, d4] => { results := [.lit (.bool false)], args := [d1, d2, d3, d4] }
  | _ => none }
def MatchEitherWrongFalsely : Prop := matchEitherRow.holds Try.pinned (OpenSpec.ofChange matchEitherWrong)

/-- 'redactorlaw12.MatchGroup': WHATEVER THE INPUT: true; the input reads as it did. -/
def matchGroupSpec : ChangeSpec := { name := "matchGroup", fn := fun _ => fun
  | [d1, d2, d3, d4] => { results := [.lit (.bool true)], args := [d1, d2, d3, d4] }
  | _ => none }
def matchGroupRow : OpenClaim := { program := "ytkidjbfapldmbaa", sum := "4372610c4b3f285d749cdd021006afa817aa504bf1b57bc0e0e195a9352705fa", func := "redactor/redactorlaw12.MatchGroup", spec := "matchGroup", inPlace := ["math.archTrunc", "math.Float64bits", "math.Float64frombits"], recurses := true, loops := true, apart := false }
def MatchGroupSaid : Prop := matchGroupRow.holds Try.pinned (OpenSpec.ofChange matchGroupSpec)

/-- ITS FALSE NEIGHBOUR: 'it returns false'. Refute it at one input. -/
def matchGroupWrong : ChangeSpec := { name := "matchGroup", fn := fun _ => fun
  | [d1, d2, d3, d4] => { results := [.lit (.bool false)], args := [d1, d2, d3, d4] }
  | _ => none }
def MatchGroupWrongFalsely : Prop := matchGroupRow.holds Try.pinned (OpenSpec.ofChange matchGroupWrong)

/-- 'redactorlaw18.SubstPatterns': WHATEVER THE INPUT: true; the input reads as it did. -/
def substPatternsSpec : ChangeSpec := { name := "substPatterns", fn := fun _ => fun
  | [d1, d2, d3, d4, d5, d6] => { results := [.lit (.bool true)], args := [d1, d2, d3, d4, d5, d6] }
  | _ => none }
def substPatternsRow : OpenClaim := { program := "ytkidjbfapldmbaa", sum := "4372610c4b3f285d749cdd021006afa817aa504bf1b57bc0e0e195a9352705fa", func := "redactor/redactorlaw18.SubstPatterns", spec := "substPatterns", inPlace := ["math.archTrunc", "math.Float64bits", "math.Float64frombits", "internal/abi.NoEscape"], recurses := true, apart := false }
def SubstPatternsSaid : Prop := substPatternsRow.holds Try.pinned (OpenSpec.ofChange substPatternsSpec)

/-- ITS FALSE NEIGHBOUR: 'it returns false'. Refute it at one input. -/
def substPatternsWrong : ChangeSpec := { name := "substPatterns", fn := fun _ => fun
  | [d1, d2, d3, d4, d5, d6] => { results := [.lit (.bool false)], args := [d1, d2, d3, d4, d5, d6] }
  | _ => none }
def SubstPatternsWrongFalsely : Prop := substPatternsRow.holds Try.pinned (OpenSpec.ofChange substPatternsWrong)

/-- 'redactorlaw18.SubstItself': WHATEVER THE INPUT: true; the input reads as it did. -/
def substItselfSpec : ChangeSpec := { name := "substItself", fn := fun _ => fun
  | [d1, d2] => { results := [.lit (.bool true)], args := [d1, d2] }
  | _ => none }
def substItselfRow : OpenClaim := { program := "ytkidjbfapldmbaa", sum := "4372610c4b3f285d749cdd021006afa817aa504bf1b57bc0e0e195a9352705fa", func := "redactor/redactorlaw18.SubstItself", spec := "substItself", inPlace := ["math.archTrunc", "math.Float64bits", "math.Float64frombits", "internal/abi.NoEscape"], recurses := true, loops := true, apart := false }
def SubstItselfSaid : Prop := substItselfRow.holds Try.pinned (OpenSpec.ofChange substItselfSpec)

/-- ITS FALSE NEIGHBOUR: 'it returns false'. Refute it at one input. -/
def substItselfWrong : ChangeSpec := { name := "substItself", fn := fun _ => fun
  | [d1, d2] => { results := [.lit (.bool false)], args := [d1, d2] }
  | _ => none }
def SubstItselfWrongFalsely : Prop := substItselfRow.holds Try.pinned (OpenSpec.ofChange substItselfWrong)

/-- 'redactorlaw18.SubstFirst': WHATEVER THE INPUT: true; the input reads as it did. -/
def substFirstSpec : ChangeSpec := { name := "substFirst", fn := fun _ => fun
  | [d1, d2, d3, d4] => { results := [.lit (.bool true)], args := [d1, d2, d3, d4] }
  | _ => none }
def substFirstRow : OpenClaim := { program := "ytkidjbfapldmbaa", sum := "4372610c4b3f285d749cdd021006afa817aa504bf1b57bc0e0e195a9352705fa", func := "redactor/redactorlaw18.SubstFirst", spec := "substFirst", inPlace := ["math.archTrunc", "math.Float64bits", "math.Float64frombits", "internal/abi.NoEscape"], recurses := true, loops := true, apart := false }
def SubstFirstSaid : Prop := substFirstRow.holds Try.pinned (OpenSpec.ofChange substFirstSpec)

/-- ITS FALSE NEIGHBOUR: 'it returns false'. Refute it at one input. -/
def substFirstWrong : ChangeSpec := { name := "substFirst", fn := fun _ => fun
  | [d1, d2, d3, d4] => { results := [.lit (.bool false)], args := [d1, d2, d3, d4] }
  | _ => none }
def SubstFirstWrongFalsely : Prop := substFirstRow.holds Try.pinned (OpenSpec.ofChange substFirstWrong)

/-- 'redactorlaw18.SubstBeyond': WHATEVER THE INPUT: true; the input reads as it did. -/
def substBeyondSpec : ChangeSpec := { name := "substBeyond", fn := fun _ => fun
  | [d1, d2, d3] => { results := [.lit (.bool true)], args := [d1, d2, d3] }
  | _ => none }
def substBeyondRow : OpenClaim := { program := "ytkidjbfapldmbaa", sum := "4372610c4b3f285d749cdd021006afa817aa504bf1b57bc0e0e195a9352705fa", func := "redactor/redactorlaw18.SubstBeyond", spec := "substBeyond", inPlace := ["math.archTrunc", "math.Float64bits", "math.Float64frombits", "internal/abi.NoEscape"], recurses := true, loops := true, apart := false }
def SubstBeyondSaid : Prop := substBeyondRow.holds Try.pinned (OpenSpec.ofChange substBeyondSpec)

/-- ITS FALSE NEIGHBOUR: 'it returns false'. Refute it at one input. -/
def substBeyondWrong : ChangeSpec := { name := "substBeyond", fn := fun _ => fun
  | [d1, d2, d3] => { results := [.lit (.bool false)], args := [d1, d2, d3] }
  | _ => none }
def SubstBeyondWrongFalsely : Prop := substBeyondRow.holds Try.pinned (OpenSpec.ofChange substBeyondWrong)

/-- 'redactorlaw18.SubstTurns': WHATEVER THE INPUT: true; the input reads as it did. -/
def substTurnsSpec : ChangeSpec := { name := "substTurns", fn := fun _ => fun
  | [d1, d2, d3] => { results := [.lit (.bool true)], args := [d1, d2, d3] }
  | _ => none }
def substTurnsRow : OpenClaim := { program := "ytkidjbfapldmbaa", sum := "4372610c4b3f285d749cdd021006afa817aa504bf1b57bc0e0e195a9352705fa", func := "redactor/redactorlaw18.SubstTurns", spec := "substTurns", inPlace := ["math.archTrunc", "math.Float64bits", "math.Float64frombits", "internal/abi.NoEscape"], recurses := true, apart := false }
def SubstTurnsSaid : Prop := substTurnsRow.holds Try.pinned (OpenSpec.ofChange substTurnsSpec)

/-- ITS FALSE NEIGHBOUR: 'it returns false'. Refute it at one input. -/
def substTurnsWrong : ChangeSpec := { name := "substTurns", fn := fun _ => fun
  | [d1, d2, d3] => { results := [.lit (.bool false)], args := [d1, d2, d3] }
  | _ => none }
def SubstTurnsWrongFalsely : Prop := substTurnsRow.holds Try.pinned (OpenSpec.ofChange substTurnsWrong)

/- THE SECOND FORM. 'bulk': how many values and letters a reading holds, each counted each time it is reached (what is shared counts as often as it is met; a slice's spare places count too). A statement '..UptoSaid' is the law's where the arguments, and the package variables that the reading takes, are together of bulk at most 1048576: NARROWER than '..Said'. Prove '..Said' where nothing that the law and all that it calls make is longer than what came in: it says more and counts as full. Else prove '..UptoSaid'. A law counts once. -/
mutual
def uptoBulk {H : Type} : DataW H → Nat
  | .lit (.string bytes) => bytes.length + 1
  | .lit _ => 1
  | .nil => 1
  | .ptr d => uptoBulk d + 1
  | .slice elems spare => uptoBulkAll elems + uptoBulkAll spare + 1
  | .agg parts => uptoBulkAll parts + 1
  | .iface _ d => uptoBulk d + 1
  | .map entries => uptoBulkEntries entries + 1
  | .held _ => 1
def uptoBulkAll {H : Type} : List (DataW H) → Nat
  | [] => 0
  | d :: r => uptoBulk d + uptoBulkAll r
def uptoBulkEntries {H : Type} : List (Lit × DataW H) → Nat
  | [] => 0
  | x :: r => uptoBulkEntry x + uptoBulkEntries r
def uptoBulkEntry {H : Type} : Lit × DataW H → Nat
  | (.string bytes, d) => bytes.length + uptoBulk d + 1
  | (_, d) => uptoBulk d + 1
 end
def uptoSmall : (H : Type) → List (DataW H) → Bool := fun _ ds => decide (uptoBulkAll ds ≤ 1048576)
def OpenSpec.upto (s : _root_.Go.ChangeSpec) : _root_.Go.OpenSpec := { _root_.Go.OpenSpec.ofChange s with cond := some uptoSmall }

/-- 'redactorlaw08.TreeSame', WHERE WHAT IT READS IS OF BULK AT MOST 1048576: true; the input reads as it did. -/
def treeSameUptoRow : OpenClaim := { program := "ytkidjbfapldmbaa", sum := "4372610c4b3f285d749cdd021006afa817aa504bf1b57bc0e0e195a9352705fa", func := "redactor/redactorlaw08.TreeSame", spec := "treeSame", unfollowed := true, recurses := true, loops := true, apart := false, narrowed := true }
def TreeSameUptoSaid : Prop := treeSameUptoRow.holds Try.pinned (OpenSpec.upto treeSameSpec)

/-- 'redactorlaw08.TreeJoins', WHERE WHAT IT READS IS OF BULK AT MOST 1048576: true; the input reads as it did. -/
def treeJoinsUptoRow : OpenClaim := { program := "ytkidjbfapldmbaa", sum := "4372610c4b3f285d749cdd021006afa817aa504bf1b57bc0e0e195a9352705fa", func := "redactor/redactorlaw08.TreeJoins", spec := "treeJoins", recurses := true, loops := true, apart := false, narrowed := true }
def TreeJoinsUptoSaid : Prop := treeJoinsUptoRow.holds Try.pinned (OpenSpec.upto treeJoinsSpec)

/-- 'redactorlaw08.TreeFlat', WHERE WHAT IT READS IS OF BULK AT MOST 1048576: true; the input reads as it did. -/
def treeFlatUptoRow : OpenClaim := { program := "ytkidjbfapldmbaa", sum := "4372610c4b3f285d749cdd021006afa817aa504bf1b57bc0e0e195a9352705fa", func := "redactor/redactorlaw08.TreeFlat", spec := "treeFlat", unfollowed := true, recurses := true, loops := true, apart := false, narrowed := true }
def TreeFlatUptoSaid : Prop := treeFlatUptoRow.holds Try.pinned (OpenSpec.upto treeFlatSpec)

/-- 'redactorlaw08.TreeForms', WHERE WHAT IT READS IS OF BULK AT MOST 1048576: true; the input reads as it did. -/
def treeFormsUptoRow : OpenClaim := { program := "ytkidjbfapldmbaa", sum := "4372610c4b3f285d749cdd021006afa817aa504bf1b57bc0e0e195a9352705fa", func := "redactor/redactorlaw08.TreeForms", spec := "treeForms", recurses := true, loops := true, apart := false, narrowed := true }
def TreeFormsUptoSaid : Prop := treeFormsUptoRow.holds Try.pinned (OpenSpec.upto treeFormsSpec)

/-- 'redactorlaw12.MatchFinds', WHERE WHAT IT READS IS OF BULK AT MOST 1048576: true; the input reads as it did. -/
def matchFindsUptoRow : OpenClaim := { program := "ytkidjbfapldmbaa", sum := "4372610c4b3f285d749cdd021006afa817aa504bf1b57bc0e0e195a9352705fa", func := "redactor/redactorlaw12.MatchFinds", spec := "matchFinds", inPlace := ["math.archTrunc", "math.Float64bits", "math.Float64frombits"], recurses := true, loops := true, apart := false, narrowed := true }
def MatchFindsUptoSaid : Prop := matchFindsUptoRow.holds Try.pinned (OpenSpec.upto matchFindsSpec)

/-- 'redactorlaw12.MatchPatterns', WHERE WHAT IT READS IS OF BULK AT MOST 1048576: true; the input reads as it did. -/
def matchPatternsUptoRow : OpenClaim := { program := "ytkidjbfapldmbaa", sum := "4372610c4b3f285d749cdd021006afa817aa504bf1b57bc0e0e195a9352705fa", func := "redactor/redactorlaw12.MatchPatterns", spec := "matchPatterns", inPlace := ["math.archTrunc", "math.Float64bits", "math.Float64frombits"], recurses := true, apart := false, narrowed := true }
def MatchPatternsUptoSaid : Prop := matchPatternsUptoRow.holds Try.pinned (OpenSpec.upto matchPatternsSpec)

/-- 'redactorlaw12.MatchWithin', WHERE WHAT IT READS IS OF BULK AT MOST 1048576: true; the input reads as it did. -/
def matchWithinUptoRow : OpenClaim := { program := "ytkidjbfapldmbaa", sum := "4372610c4b3f285d749cdd021006afa817aa504bf1b57bc0e0e195a9352705fa", func := "redactor/redactorlaw12.MatchWithin", spec := "matchWithin", inPlace := ["math.archTrunc", "math.Float64bits", "math.Float64frombits"], recurses := true, loops := true, apart := false, narrowed := true }
def MatchWithinUptoSaid : Prop := matchWithinUptoRow.holds Try.pinned (OpenSpec.upto matchWithinSpec)

/-- 'redactorlaw12.MatchLiteral', WHERE WHAT IT READS IS OF BULK AT MOST 1048576: true; the input reads as it did. -/
def matchLiteralUptoRow : OpenClaim := { program := "ytkidjbfapldmbaa", sum := "4372610c4b3f285d749cdd021006afa817aa504bf1b57bc0e0e195a9352705fa", func := "redactor/redactorlaw12.MatchLiteral", spec := "matchLiteral", inPlace := ["math.archTrunc", "math.Float64bits", "math.Float64frombits"], recurses := true, apart := false, narrowed := true }
def MatchLiteralUptoSaid : Prop := matchLiteralUptoRow.holds Try.pinned (OpenSpec.upto matchLiteralSpec)

/-- 'redactorlaw12.MatchTexts', WHERE WHAT IT READS IS OF BULK AT MOST 1048576: true; the input reads as it did. -/
def matchTextsUptoRow : OpenClaim := { program := "ytkidjbfapldmbaa", sum := "4372610c4b3f285d749cdd021006afa817aa504bf1b57bc0e0e195a9352705fa", func := "redactor/redactorlaw12.MatchTexts", spec := "matchTexts", inPlace := ["math.archTrunc", "math.Float64bits", "math.Float64frombits"], recurses := true, apart := false, narrowed := true }
def MatchTextsUptoSaid : Prop := matchTextsUptoRow.holds Try.pinned (OpenSpec.upto matchTextsSpec)

/-- 'redactorlaw12.MatchLeast', WHERE WHAT IT READS IS OF BULK AT MOST 1048576: true; the input reads as it did. -/
def matchLeastUptoRow : OpenClaim := { program := "ytkidjbfapldmbaa", sum := "4372610c4b3f285d749cdd021006afa817aa504bf1b57bc0e0e195a9352705fa", func := "redactor/redactorlaw12.MatchLeast", spec := "matchLeast", inPlace := ["math.archTrunc", "math.Float64bits", "math.Float64frombits"], recurses := true, loops := true, apart := false, narrowed := true }
def MatchLeastUptoSaid : Prop := matchLeastUptoRow.holds Try.pinned (OpenSpec.upto matchLeastSpec)

/-- 'redactorlaw12.MatchEither', WHERE WHAT IT READS IS OF BULK AT MOST 1048576: true; the input reads as it did. -/
def matchEitherUptoRow : OpenClaim := { program := "ytkidjbfapldmbaa", sum := "4372610c4b3f285d749cdd021006afa817aa504bf1b57bc0e0e195a9352705fa", func := "redactor/redactorlaw12.MatchEither", spec := "matchEither", inPlace := ["math.archTrunc", "math.Float64bits", "math.Float64frombits"], recurses := true, loops := true, apart := false, narrowed := true }
def MatchEitherUptoSaid : Prop := matchEitherUptoRow.holds Try.pinned (OpenSpec.upto matchEitherSpec)

/-- 'redactorlaw12.MatchGroup', WHERE WHAT IT READS IS OF BULK AT MOST 1048576: true; the input reads as it did. -/
def matchGroupUptoRow : OpenClaim := { program := "ytkidjbfapldmbaa", sum := "4372610c4b3f285d749cdd021006afa817aa504bf1b57bc0e0e195a9352705fa", func := "redactor/redactorlaw12.MatchGroup", spec := "matchGroup", inPlace := ["math.archTrunc", "math.Float64bits", "math.Float64frombits"], recurses := true, loops := true, apart := false, narrowed := true }
def MatchGroupUptoSaid : Prop := matchGroupUptoRow.holds Try.pinned (OpenSpec.upto matchGroupSpec)

/-- 'redactorlaw18.SubstPatterns', WHERE WHAT IT READS IS OF BULK AT MOST 1048576: true; the input reads as it did. -/
def substPatternsUptoRow : OpenClaim := { program := "ytkidjbfapldmbaa", sum := "4372610c4b3f285d749cdd021006afa817aa504bf1b57bc0e0e195a9352705fa", func := "redactor/redactorlaw18.SubstPatterns", spec := "substPatterns", inPlace := ["math.archTrunc", "math.Float64bits", "math.Float64frombits", "internal/abi.NoEscape"], recurses := true, apart := false, narrowed := true }
def SubstPatternsUptoSaid : Prop := substPatternsUptoRow.holds Try.pinned (OpenSpec.upto substPatternsSpec)

/-- 'redactorlaw18.SubstItself', WHERE WHAT IT READS IS OF BULK AT MOST 1048576: true; the input reads as it did. -/
def substItselfUptoRow : OpenClaim := { program := "ytkidjbfapldmbaa", sum := "4372610c4b3f285d749cdd021006afa817aa504bf1b57bc0e0e195a9352705fa", func := "redactor/redactorlaw18.SubstItself", spec := "substItself", inPlace := ["math.archTrunc", "math.Float64bits", "math.Float64frombits", "internal/abi.NoEscape"], recurses := true, loops := true, apart := false, narrowed := true }
def SubstItselfUptoSaid : Prop := substItselfUptoRow.holds Try.pinned (OpenSpec.upto substItselfSpec)

/-- 'redactorlaw18.SubstFirst', WHERE WHAT IT READS IS OF BULK AT MOST 1048576: true; the input reads as it did. -/
def substFirstUptoRow : OpenClaim := { program := "ytkidjbfapldmbaa", sum := "4372610c4b3f285d749cdd021006afa817aa504bf1b57bc0e0e195a9352705fa", func := "redactor/redactorlaw18.SubstFirst", spec := "substFirst", inPlace := ["math.archTrunc", "math.Float64bits", "math.Float64frombits", "internal/abi.NoEscape"], recurses := true, loops := true, apart := false, narrowed := true }
def SubstFirstUptoSaid : Prop := substFirstUptoRow.holds Try.pinned (OpenSpec.upto substFirstSpec)

/-- 'redactorlaw18.SubstBeyond', WHERE WHAT IT READS IS OF BULK AT MOST 1048576: true; the input reads as it did. -/
def substBeyondUptoRow : OpenClaim := { program := "ytkidjbfapldmbaa", sum := "4372610c4b3f285d749cdd021006afa817aa504bf1b57bc0e0e195a9352705fa", func := "redactor/redactorlaw18.SubstBeyond", spec := "substBeyond", inPlace := ["math.archTrunc", "math.Float64bits", "math.Float64frombits", "internal/abi.NoEscape"], recurses := true, loops := true, apart := false, narrowed := true }
def SubstBeyondUptoSaid : Prop := substBeyondUptoRow.holds Try.pinned (OpenSpec.upto substBeyondSpec)

/-- 'redactorlaw18.SubstTurns', WHERE WHAT IT READS IS OF BULK AT MOST 1048576: true; the input reads as it did. -/
def substTurnsUptoRow : OpenClaim := { program := "ytkidjbfapldmbaa", sum := "4372610c4b3f285d749cdd021006afa817aa504bf1b57bc0e0e195a9352705fa", func := "redactor/redactorlaw18.SubstTurns", spec := "substTurns", inPlace := ["math.archTrunc", "math.Float64bits", "math.Float64frombits", "internal/abi.NoEscape"], recurses := true, apart := false, narrowed := true }
def SubstTurnsUptoSaid : Prop := substTurnsUptoRow.holds Try.pinned (OpenSpec.upto substTurnsSpec)

end Rows
end Go.Proofs.Ytkidjbfapldmbaa
