/- How two places that come in as an argument lie. -/
import Derived.Test.YtkidjbfapldmbaaRows
import Derived.WalkKit
import Derived.ProofKit
import Derived.OpenShut
import Derived.ShutString
import Derived.ChangeOld
import Derived.Below
import Derived.Carry
import Derived.JoinedOf
import Derived.KernelRfl
namespace Go.Proofs.Ytkidjbfapldmbaa
set_option linter.unusedVariables false
set_option linter.unusedSimpArgs false
open Go.ChangeShapes Go.WideShapes Go.ChangeAt Go.RowKit

theorem okWide_arr {P : Program} {w : World} {r : Reach} {base : Nat} {t e : TypeId} {n : Nat} {v : Value} (ht : P.underlying t = some (.array n e)) (h : Value.okWide P w r base t v) : ∃ cs, v = .agg cs ∧ cs.size = P.cellsOf t := by
  simp only [Value.okWide, ht] at h
  obtain ⟨cs, h1, h2, _⟩ := h
  exact ⟨cs, h1, h2⟩
theorem cells2 : Try.prog.cellsOf 65 = 2 := by kernel_rfl
theorem cellsU16 : Try.prog.cellsOf 64 = 1 := by kernel_rfl
set_option maxRecDepth 100000 in
theorem open_two {H : Type} {enc : TypeId × Value → H} {W : World} {base base2 : Nat} {spare : Nat → Bool} {held : Bool} {v : Value} {d : DataW H} {p : List MemPlace}
    (h : Value.okWide Try.prog W .any base 65 v) (ht : DataW.Trod enc Try.prog W base2 spare held 65 v d p) :
    ∃ a b : Int, v = .agg #[.int .u16 a, .int .u16 b] ∧ (0 ≤ a ∧ a ≤ 65535) ∧ (0 ≤ b ∧ b ≤ 65535) := by
  obtain ⟨cs, rfl, hs⟩ := okWide_arr Try.underlying65 h
  rw [cells2] at hs
  obtain ⟨c0, c1, rfl⟩ : ∃ c0 c1, cs = #[c0, c1] := by
    obtain ⟨l⟩ := cs
    match l, hs with
    | [a, b], _ => exact ⟨a, b, rfl⟩
  obtain ⟨m, hm⟩ := ht
  have hm' : DataW.trod enc Try.prog W base2 spare held m 65 [c0, c1] = some (d, p) := hm
  obtain ⟨xs, n, _, _, _, hl, hx⟩ := DataW.trod_array Try.underlying65 hm'
  rw [cellsU16] at hx
  have g0 := hx 0 (by omega)
  have g1 := hx 1 (by omega)
  obtain ⟨x0, e0⟩ : ∃ x, xs[0]? = some x := ⟨_, List.getElem?_eq_getElem (by omega)⟩
  obtain ⟨x1, e1⟩ : ∃ x, xs[1]? = some x := ⟨_, List.getElem?_eq_getElem (by omega)⟩
  rw [e0] at g0
  rw [e1] at g1
  have g0' : DataW.trod enc Try.prog W base2 spare held n 64 [c0] = some (x0.1, x0.2) := g0
  have g1' : DataW.trod enc Try.prog W base2 spare held n 64 [c1] = some (x1.1, x1.2) := g1
  obtain ⟨s0, e20, _, v0⟩ := DataW.trod_int Try.underlying64 g0'
  obtain ⟨s1, e21, _, v1⟩ := DataW.trod_int Try.underlying64 g1'
  simp only [List.cons.injEq, and_true] at e20 e21
  subst e20 e21
  have wf : ∀ x : Int, (Lit.int .u16 x).wf = true → 0 ≤ x ∧ x ≤ 65535 := by
    intro x hx
    simp [Lit.wf, IntKind.wrap] at hx
    have a1 : IntKind.u16.min = 0 := rfl
    have a2 : IntKind.u16.max = 65535 := rfl
    omega
  exact ⟨s0, s1, rfl, wf _ v0, wf _ v1⟩

end Go.Proofs.Ytkidjbfapldmbaa
