/- A call (an Op) that comes in as an argument. -/
import Derived.Test.YtnjanpejmfkopaaDoorBase
import Derived.OpenShut
import Derived.ShutString
import Derived.ProofKit
import Derived.JoinedOf
namespace Go.Proofs.YtnjanpejmfkopaaDoor
set_option linter.unusedVariables false
set_option linter.unusedSimpArgs false
open Go.RowKit P8 Go.ChangeShapes Go.WideShapes
section
variable {H : Type} {enc : TypeId × Value → H} {W : World} {base : Nat} {spare : Nat → Bool} {held : Bool}

theorem cellsOp : Tryd.prog.cellsOf 33 = 4 := by kernel_rfl
theorem cellsStr : Tryd.prog.cellsOf 9 = 1 := by kernel_rfl
theorem cellsU8 : Tryd.prog.cellsOf 5 = 1 := by kernel_rfl
theorem cellsBool : Tryd.prog.cellsOf 4 = 1 := by kernel_rfl
theorem list4 {α : Type} {l : List α} (h : l.length = 4) : ∃ a b c d, l = [a, b, c, d] := by
  match l, h with
  | [a, b, c, d], _ => exact ⟨a, b, c, d, rfl⟩
theorem get_some {α : Type} {xs : List α} {i : Nat} {o : Option α} (h : o = xs[i]?) (hi : i < xs.length) : ∃ y, o = some y := ⟨xs[i], by rw [h, List.getElem?_eq_getElem hi]⟩

theorem open_op (fuel : Nat) (cs : List Value) (x : DataW H × List MemPlace) (h : DataW.trod enc Tryd.prog W base spare held fuel 33 cs = some x) : ∃ (k : Int) (t f : ByteArray) (b : Bool), cs = [.int .u8 k, .string t, .string f, .bool b] := by
  obtain ⟨xs, n, rfl, _, hlen, hxl, hf⟩ := DataW.trod_struct Tryd.underlying33 h
  rw [cellsOp] at hlen
  obtain ⟨c0, c1, c2, c3, rfl⟩ := list4 hlen
  have hxl2 : xs.length = 4 := hxl
  obtain ⟨y0, h0⟩ := get_some (hf 0 _ rfl) (by omega)
  obtain ⟨y1, h1⟩ := get_some (hf 1 _ rfl) (by omega)
  obtain ⟨y2, h2⟩ := get_some (hf 2 _ rfl) (by omega)
  obtain ⟨y3, h3⟩ := get_some (hf 3 _ rfl) (by omega)
  simp only [List.getElem_toArray, List.getElem_cons_zero, List.getElem_cons_succ, cellsU8, cellsStr, cellsBool, List.drop_succ_cons, List.drop_zero, List.take_succ_cons, List.take_zero] at h0 h1 h2 h3
  obtain ⟨k, e0, _, w0⟩ := DataW.trod_int Tryd.underlying5 h0
  obtain ⟨t, e1, _, _⟩ := DataW.trod_string Tryd.underlying9 h1
  obtain ⟨f, e2, _, _⟩ := DataW.trod_string Tryd.underlying9 h2
  obtain ⟨b, e3, _⟩ := DataW.trod_bool Tryd.underlying4 h3
  simp only [List.cons.injEq, and_true] at e0 e1 e2 e3
  subst e0 e1 e2 e3
  exact ⟨k, t, f, b, rfl⟩
end
end Go.Proofs.YtnjanpejmfkopaaDoor
