/- How the reference goes through a node: walk: the ways on which it says no ahead of the nodes in it. -/
import Derived.Test.YtkidjbfapldmbaaPlain
import Derived.Test.YtkidjbfapldmbaaFormed
import Derived.Test.YtkidjbfapldmbaaTheirs
import Derived.Deep.DeepCutAuto
namespace Go.Proofs.Ytkidjbfapldmbaa
set_option linter.unusedVariables false
set_option linter.unusedSimpArgs false
open Go.RowKit P8

def boolRow (E : Nat → Bool) : Array Value := #[.bool (E 0), .bool (E 1), .bool (E 2), .bool (E 3), .bool (E 4), .bool (E 5), .bool (E 6), .bool (E 7), .bool (E 8), .bool (E 9)]
theorem size47 : (Try.prog.info? 47).map (·.size) = some 10 := by kernel_rfl

theorem results_tct {P : Program} {fn : Func} {t p u : Tmp} {ty : TypeId} (h : fn.results = #[.tmp t, .cell p ty, .tmp u]) (tmps : Array Value) (w : World) (g : Nat) (tt : TypeId) (cs : Array Value) (fr : Nat × Nat) (d : TypeDesc)
    (hp : tmps.getD p undef = .pointer (some ⟨g, 0, none⟩)) (hg : w.heap[g]? = some (.cells cs tt fr))
    (hu : P.underlying ty = some d) (hd : (match d with | .struct _ | .array _ _ => true | _ => false) = true) (hi : (P.info? ty).map (·.size) = some cs.size) :
    (results fn tmps).run P w = .ok (.tuple #[tmps.getD t undef, .agg cs, tmps.getD u undef]) w := by
  have e1 : Sem.run P (asAddr (tmps[p]?.getD undef)) w = .ok ⟨g, 0, none⟩ w := by rw [← Array.getD_eq_getD_getElem?, hp]; rfl
  have e2 := run_loadVar_row w g tt ty cs fr d hg hu hd hi
  simp only [results, h]
  simp [Sem.run_bind, Result.andThen, e1, e2]

end Go.Proofs.Ytkidjbfapldmbaa
