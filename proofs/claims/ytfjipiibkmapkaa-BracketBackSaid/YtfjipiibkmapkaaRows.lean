/-
  No cell of these rows narrows 'for every input' (looked for: loops, veiled, ifaces, maps, wideKeys, modest, calm, conditions, laid).
  DERIVED. THE GIVEN ROWS OF THIS SEAT. 6 by the template 'for every input the law returns true; each argument reads behind the call as it read before'; 0 by the template 'total and deterministic' (their statements: YtfjipiibkmapkaaTotals.lean).
  GIVEN WITH THE SEED: the statements are not yours to turn. If you find one false, say at which input.
  Laid BY PROGRAM, IN A SANDBOX (cutbox-rows.mjs): the forced cells as the released guide's own fill.sh prints them over the translation f638a540fd0b895e… (all of the seat's roots in one cut). By AI agents, Wed Nov 11 2026. No macro, syntax, notation, axiom, sorry.
-/
import Derived.Test.YtfjipiibkmapkaaChecked
import GoSem.Claim
import GoSem.ClaimJoined
import GoSem.ClaimMapViews
import Derived.JoinedTies
import Derived.KernelRfl
namespace Go.Proofs.Ytfjipiibkmapkaa
/- THE CELL 'sum', in the pinned program and in every row, IS THE sha256 OF THE DUMP (.gsa) THAT YtfjipiibkmapkaaProg.lean LOADS. Nothing in Lean hashes anything: it is a label: what it is worth is what the hold of that sum in a sandbox is worth. -/
noncomputable def Try.pinned : Pinned := { name := "ytfjipiibkmapkaa", sum := "f638a540fd0b895e2c40ec221c0a0567e0e46057bfb0068528ef061676883ce5", checked := Try.checked }
namespace Rows
def none {H : Type} : Left H := { results := [], args := [] }

/-- 'redactorlaw07.BracketSets': WHATEVER THE INPUT: true; the input reads as it did. -/
def bracketSetsSpec : ChangeSpec := { name := "bracketSets", fn := fun _ => fun
  | [d1, d2, d3, d4] => { results := [.lit (.bool true)], args := [d1, d2, d3, d4] }
  | _ => none }
def bracketSetsRow : OpenClaim := { program := "ytfjipiibkmapkaa", sum := "f638a540fd0b895e2c40ec221c0a0567e0e46057bfb0068528ef061676883ce5", func := "redactor/redactorlaw07.BracketSets", spec := "bracketSets", inPlace := ["internal/bytealg.IndexByteString", "internal/bytealg.IndexString"], named := ["internal/bytealg.MaxLen"], apart := false }
def BracketSetsSaid : Prop := bracketSetsRow.holds Try.pinned (OpenSpec.ofChange bracketSetsSpec)

/-- ITS FALSE NEIGHBOUR: 'it returns false'. Refute it at one input. -/
def bracketSetsWrong : ChangeSpec := { name := "bracketSets", fn := fun _ => fun
  | [d1, d2, d3, d4] => { results := [.lit (.bool false)], args := [d1, d2, d3, d4] }
  | _ => none }
def BracketSetsWrongFalsely : Prop := bracketSetsRow.holds Try.pinned (OpenSpec.ofChange bracketSetsWrong)

/-- 'redactorlaw07.BracketClasses': WHATEVER THE INPUT: true; the input reads as it did. -/
def bracketClassesSpec : ChangeSpec := { name := "bracketClasses", fn := fun _ => fun
  | [d] => { results := [.lit (.bool true)], args := [d] }
  | _ => none }
def bracketClassesRow : OpenClaim := { program := "ytfjipiibkmapkaa", sum := "f638a540fd0b895e2c40ec221c0a0567e0e46057bfb0068528ef061676883ce5", func := "redactor/redactorlaw07.BracketClasses", spec := "bracketClasses", inPlace := ["internal/bytealg.IndexByteString", "internal/bytealg.IndexString"], named := ["internal/bytealg.MaxLen"], apart := false }
def BracketClassesSaid : Prop := bracketClassesRow.holds Try.pinned (OpenSpec.ofChange bracketClassesSpec)

/-- ITS FALSE NEIGHBOUR: 'it returns false'. Refute it at one input. -/
def bracketClassesWrong : ChangeSpec := { name := "bracketClasses", fn := fun _ => fun
  | [d] => { results := [.lit (.bool false)], args := [d] }
  | _ => none }
def BracketClassesWrongFalsely : Prop := bracketClassesRow.holds Try.pinned (OpenSpec.ofChange bracketClassesWrong)

/-- 'redactorlaw07.BracketParses': WHATEVER THE INPUT: true; the input reads as it did. -/
def bracketParsesSpec : ChangeSpec := { name := "bracketParses", fn := fun _ => fun
  | [d1, d2] => { results := [.lit (.bool true)], args := [d1, d2] }
  | _ => none }
def bracketParsesRow : OpenClaim := { program := "ytfjipiibkmapkaa", sum := "f638a540fd0b895e2c40ec221c0a0567e0e46057bfb0068528ef061676883ce5", func := "redactor/redactorlaw07.BracketParses", spec := "bracketParses", inPlace := ["internal/bytealg.IndexByteString", "internal/bytealg.IndexString"], named := ["internal/bytealg.MaxLen"], apart := false }
def BracketParsesSaid : Prop := bracketParsesRow.holds Try.pinned (OpenSpec.ofChange bracketParsesSpec)

/-- ITS FALSE NEIGHBOUR: 'it returns false'. Refute it at one input. -/
def bracketParsesWrong : ChangeSpec := { name := "bracketParses", fn := fun _ => fun
  | [d1, d2] => { results := [.lit (.bool false)], args := [d1, d2] }
  | _ => none }
def BracketParsesWrongFalsely : Prop := bracketParsesRow.holds Try.pinned (OpenSpec.ofChange bracketParsesWrong)

/-- 'redactorlaw07.BracketNot': WHATEVER THE INPUT: true; the input reads as it did. -/
def bracketNotSpec : ChangeSpec := { name := "bracketNot", fn := fun _ => fun
  | [d] => { results := [.lit (.bool true)], args := [d] }
  | _ => none }
def bracketNotRow : OpenClaim := { program := "ytfjipiibkmapkaa", sum := "f638a540fd0b895e2c40ec221c0a0567e0e46057bfb0068528ef061676883ce5", func := "redactor/redactorlaw07.BracketNot", spec := "bracketNot", inPlace := ["internal/bytealg.IndexByteString", "internal/bytealg.IndexString"], named := ["internal/bytealg.MaxLen"], apart := false }
def BracketNotSaid : Prop := bracketNotRow.holds Try.pinned (OpenSpec.ofChange bracketNotSpec)

/-- ITS FALSE NEIGHBOUR: 'it returns false'. Refute it at one input. -/
def bracketNotWrong : ChangeSpec := { name := "bracketNot", fn := fun _ => fun
  | [d] => { results := [.lit (.bool false)], args := [d] }
  | _ => none }
def BracketNotWrongFalsely : Prop := bracketNotRow.holds Try.pinned (OpenSpec.ofChange bracketNotWrong)

/-- 'redactorlaw07.BracketRange': WHATEVER THE INPUT: true; the input reads as it did. -/
def bracketRangeSpec : ChangeSpec := { name := "bracketRange", fn := fun _ => fun
  | [d1, d2] => { results := [.lit (.bool true)], args := [d1, d2] }
  | _ => none }
def bracketRangeRow : OpenClaim := { program := "ytfjipiibkmapkaa", sum := "f638a540fd0b895e2c40ec221c0a0567e0e46057bfb0068528ef061676883ce5", func := "redactor/redactorlaw07.BracketRange", spec := "bracketRange", inPlace := ["internal/bytealg.IndexByteString", "internal/bytealg.IndexString"], named := ["internal/bytealg.MaxLen"], apart := false }
def BracketRangeSaid : Prop := bracketRangeRow.holds Try.pinned (OpenSpec.ofChange bracketRangeSpec)

/-- ITS FALSE NEIGHBOUR: 'it returns false'. Refute it at one input. -/
def bracketRangeWrong : ChangeSpec := { name := "bracketRange", fn := fun _ => fun
  | [d1, d2] => { results := [.lit (.bool false)], args := [d1, d2] }
  | _ => none }
def BracketRangeWrongFalsely : Prop := bracketRangeRow.holds Try.pinned (OpenSpec.ofChange bracketRangeWrong)

/-- 'redactorlaw07.BracketBack': WHATEVER THE INPUT: true; the input reads as it did. -/
def bracketBackSpec : ChangeSpec := { name := "bracketBack", fn := fun _ => fun
  | [d1, d2, d3] => { results := [.lit (.bool true)], args := [d1, d2, d3] }
  | _ => none }
def bracketBackRow : OpenClaim := { program := "ytfjipiibkmapkaa", sum := "f638a540fd0b895e2c40ec221c0a0567e0e46057bfb0068528ef061676883ce5", func := "redactor/redactorlaw07.BracketBack", spec := "bracketBack", inPlace := ["internal/bytealg.IndexByteString", "internal/bytealg.IndexString", "internal/abi.NoEscape"], named := ["internal/bytealg.MaxLen"], apart := false }
def BracketBackSaid : Prop := bracketBackRow.holds Try.pinned (OpenSpec.ofChange bracketBackSpec)

/-- ITS FALSE NEIGHBOUR: 'it returns false'. Refute it at one input. -/
def bracketBackWrong : ChangeSpec := { name := "bracketBack", fn := fun _ => fun
  | [d1, d2, d3] => { results := [.lit (.bool false)], args := [d1, d2, d3] }
  | _ => none }
def BracketBackWrongFalsely : Prop := bracketBackRow.holds Try.pinned (OpenSpec.ofChange bracketBackWrong)

/- THE SECOND FORM. 'bulk': how many values and letters a reading holds, each counted each time it is reached (what is shared counts as often as it is met; a slice's spare places count too). A statement '..UptoSaid' is the law's where the arguments, and the package variables that the reading takes, are together of bulk at most 1048576: NARROWER than '..Said'. Prove '..Said' where nothing that the law and all that it calls make is longer than what came in: it says more and counts as full. Else prove '..UptoSaid'. A law counts once. -/
mutual
def uptoBulk {H : Type} : DataW H → Nat
  | .lit (.string bytes) => bytes.length + 1
  | .lit _ => 1
  | .nil => 1
  | .ptr d => uptoBulk d + 1
  | .slice elems spare => uptoBulkAll elems + uptoBulkAll spare + 1
  | .agg parts => uptoBulkAll parts + 1
  | .iface _ d => uptoBulk d + 1
  | .map entries => uptoBulkEntries entries + 1
  | .held _ => 1
def uptoBulkAll {H : Type} : List (DataW H) → Nat
  | [] => 0
  | d :: r => uptoBulk d + uptoBulkAll r
def uptoBulkEntries {H : Type} : List (Lit × DataW H) → Nat
  | [] => 0
  | x :: r => uptoBulkEntry x + uptoBulkEntries r
def uptoBulkEntry {H : Type} : Lit × DataW H → Nat
  | (.string bytes, d) => bytes.length + uptoBulk d + 1
  | (_, d) => uptoBulk d + 1
 end
def uptoSmall : (H : Type) → List (DataW H) → Bool := fun _ ds => decide (uptoBulkAll ds ≤ 1048576)
def OpenSpec.upto (s : _root_.Go.ChangeSpec) : _root_.Go.OpenSpec := { _root_.Go.OpenSpec.ofChange s with cond := some uptoSmall }

/-- 'redactorlaw07.BracketSets', WHERE WHAT IT READS IS OF BULK AT MOST 1048576: true; the input reads as it did. -/
def bracketSetsUptoRow : OpenClaim := { program := "ytfjipiibkmapkaa", sum := "f638a540fd0b895e2c40ec221c0a0567e0e46057bfb0068528ef061676883ce5", func := "redactor/redactorlaw07.BracketSets", spec := "bracketSets", inPlace := ["internal/bytealg.IndexByteString", "internal/bytealg.IndexString"], named := ["internal/bytealg.MaxLen"], apart := false, narrowed := true }
def BracketSetsUptoSaid : Prop := bracketSetsUptoRow.holds Try.pinned (OpenSpec.upto bracketSetsSpec)

/-- 'redactorlaw07.BracketClasses', WHERE WHAT IT READS IS OF BULK AT MOST 1048576: true; the input reads as it did. -/
def bracketClassesUptoRow : OpenClaim := { program := "ytfjipiibkmapkaa", sum := "f638a540fd0b895e2c40ec221c0a0567e0e46057bfb0068528ef061676883ce5", func := "redactor/redactorlaw07.BracketClasses", spec := "bracketClasses", inPlace := ["internal/bytealg.IndexByteString", "internal/bytealg.IndexString"], named := ["internal/bytealg.MaxLen"], apart := false, narrowed := true }
def BracketClassesUptoSaid : Prop := bracketClassesUptoRow.holds Try.pinned (OpenSpec.upto bracketClassesSpec)

/-- 'redactorlaw07.BracketParses', WHERE WHAT IT READS IS OF BULK AT MOST 1048576: true; the input reads as it did. -/
def bracketParsesUptoRow : OpenClaim := { program := "ytfjipiibkmapkaa", sum := "f638a540fd0b895e2c40ec221c0a0567e0e46057bfb0068528ef061676883ce5", func := "redactor/redactorlaw07.BracketParses", spec := "bracketParses", inPlace := ["internal/bytealg.IndexByteString", "internal/bytealg.IndexString"], named := ["internal/bytealg.MaxLen"], apart := false, narrowed := true }
def BracketParsesUptoSaid : Prop := bracketParsesUptoRow.holds Try.pinned (OpenSpec.upto bracketParsesSpec)

/-- 'redactorlaw07.BracketNot', WHERE WHAT IT READS IS OF BULK AT MOST 1048576: true; the input reads as it did. -/
def bracketNotUptoRow : OpenClaim := { program := "ytfjipiibkmapkaa", sum := "f638a540fd0b895e2c40ec221c0a0567e0e46057bfb0068528ef061676883ce5", func := "redactor/redactorlaw07.BracketNot", spec := "bracketNot", inPlace := ["internal/bytealg.IndexByteString", "internal/bytealg.IndexString"], named := ["internal/bytealg.MaxLen"], apart := false, narrowed := true }
def BracketNotUptoSaid : Prop := bracketNotUptoRow.holds Try.pinned (OpenSpec.upto bracketNotSpec)

/-- 'redactorlaw07.BracketRange', WHERE WHAT IT READS IS OF BULK AT MOST 1048576: true; the input reads as it did. -/
def bracketRangeUptoRow : OpenClaim := { program := "ytfjipiibkmapkaa", sum := "f638a540fd0b895e2c40ec221c0a0567e0e46057bfb0068528ef061676883ce5", func := "redactor/redactorlaw07.BracketRange", spec := "bracketRange", inPlace := ["internal/bytealg.IndexByteString", "internal/bytealg.IndexString"], named := ["internal/bytealg.MaxLen"], apart := false, narrowed := true }
def BracketRangeUptoSaid : Prop := bracketRangeUptoRow.holds Try.pinned (OpenSpec.upto bracketRangeSpec)

/-- 'redactorlaw07.BracketBack', WHERE WHAT IT READS IS OF BULK AT MOST 1048576: true; the input reads as it did. -/
def bracketBackUptoRow : OpenClaim := { program := "ytfjipiibkmapkaa", sum := "f638a540fd0b895e2c40ec221c0a0567e0e46057bfb0068528ef061676883ce5", func := "redactor/redactorlaw07.BracketBack", spec := "bracketBack", inPlace := ["internal/bytealg.IndexByteString", "internal/bytealg.IndexString", "internal/abi.NoEscape"], named := ["internal/bytealg.MaxLen"], apart := false, narrowed := true }
def BracketBackUptoSaid : Prop := bracketBackUptoRow.holds Try.pinned (OpenSpec.upto bracketBackSpec)

end Rows
end Go.Proofs.Ytfjipiibkmapkaa
