/- A call (an Op) that comes in as an argument. -/
import Derived.Test.YtilnccjdbdcklaaDoorKeep
import Derived.OpenShut
import Derived.ShutString
import Derived.ProofKit
import Derived.JoinedOf
namespace Go.Proofs.YtilnccjdbdcklaaDoor
set_option linter.unusedVariables false
set_option linter.unusedSimpArgs false
open Go.RowKit Go.ChangeShapes Go.WideShapes
section
variable {H : Type} {enc : TypeId × Value → H} {W : World} {base : Nat} {spare : Nat → Bool} {held : Bool}

theorem cellsOp : Tryd.prog.cellsOf 36 = 3 := by kernel_rfl
theorem cellsU8 : Tryd.prog.cellsOf 5 = 1 := by kernel_rfl
theorem cellsInt : Tryd.prog.cellsOf 3 = 1 := by kernel_rfl
theorem list3 {α : Type} {l : List α} (h : l.length = 3) : ∃ a b c, l = [a, b, c] := by
  match l, h with
  | [a, b, c], _ => exact ⟨a, b, c, rfl⟩
theorem get_some {α : Type} {xs : List α} {i : Nat} {o : Option α} (h : o = xs[i]?) (hi : i < xs.length) : ∃ y, o = some y := ⟨xs[i], by rw [h, List.getElem?_eq_getElem hi]⟩

theorem open_ask (fuel : Nat) (cs : List Value) (x : DataW H × List MemPlace) (h : DataW.trod enc Tryd.prog W base spare held fuel 36 cs = some x) : ∃ (k d m : Int), cs = [.int .u8 k, .int .u8 d, .int .i64 m] ∧ (Lit.int .u8 k).wf = true ∧ (Lit.int .u8 d).wf = true ∧ (Lit.int .i64 m).wf = true := by
  obtain ⟨xs, n, rfl, _, hlen, hxl, hf⟩ := DataW.trod_struct Tryd.underlying36 h
  rw [cellsOp] at hlen
  obtain ⟨c0, c1, c2, rfl⟩ := list3 hlen
  have hxl2 : xs.length = 3 := hxl
  obtain ⟨y0, h0⟩ := get_some (hf 0 _ rfl) (by omega)
  obtain ⟨y1, h1⟩ := get_some (hf 1 _ rfl) (by omega)
  obtain ⟨y2, h2⟩ := get_some (hf 2 _ rfl) (by omega)
  simp only [List.getElem_toArray, List.getElem_cons_zero, List.getElem_cons_succ, cellsU8, cellsInt, List.drop_succ_cons, List.drop_zero, List.take_succ_cons, List.take_zero] at h0 h1 h2
  obtain ⟨k, e0, _, w0⟩ := DataW.trod_int Tryd.underlying5 h0
  obtain ⟨d, e1, _, w1⟩ := DataW.trod_int Tryd.underlying5 h1
  obtain ⟨m, e2, _, w2⟩ := DataW.trod_int Tryd.underlying3 h2
  simp only [List.cons.injEq, and_true] at e0 e1 e2
  subst e0 e1 e2
  exact ⟨k, d, m, rfl, w0, w1, w2⟩
end
end Go.Proofs.YtilnccjdbdcklaaDoor
