/- How a set that comes in as an argument lies. -/
import Derived.Test.YtfjipiibkmapkaaRows
import Derived.Test.YtfjipiibkmapkaaSet
import Derived.WalkKit
import Derived.ProofKit
import Derived.OpenShut
import Derived.ShutString
import Derived.ChangeOld
import Derived.Below
import Derived.Carry
import Derived.JoinedOf
import Derived.Laws.IdiomArrays
namespace Go.Proofs.Ytfjipiibkmapkaa
set_option linter.unusedVariables false
set_option linter.unusedSimpArgs false
open Go.ChangeShapes Go.WideShapes Go.ChangeAt Go.RowKit

theorem okWide_array {P : Program} {w : World} {r : Reach} {base : Nat} {t e : TypeId} {n : Nat} {v : Value} (ht : P.underlying t = some (.array n e)) (h : Value.okWide P w r base t v) : ∃ cs, v = .agg cs ∧ cs.size = P.cellsOf t := by
  simp only [Value.okWide, ht] at h
  obtain ⟨cs, h1, h2, _⟩ := h
  exact ⟨cs, h1, h2⟩

theorem cellsS24 : Try.prog.cellsOf 24 = 4 := by kernel_rfl
theorem cellsU : Try.prog.cellsOf 22 = 1 := by kernel_rfl

theorem open_set {H : Type} {enc : TypeId × Value → H} {W : World} {base base2 : Nat} {spare : Nat → Bool} {held : Bool} {v : Value} {d : DataW H} {p : List MemPlace}
    (h : Value.okWide Try.prog W .any base 24 v) (ht : DataW.Trod enc Try.prog W base2 spare held 24 v d p) :
    ∃ f : Nat → Int, v = .agg (setRow f) ∧ ∀ i, i < 4 → 0 ≤ f i ∧ f i < 18446744073709551616 := by
  obtain ⟨cs, rfl, hs⟩ := okWide_array Try.underlying24 h
  rw [cellsS24] at hs
  obtain ⟨c0, c1, c2, c3, rfl⟩ : ∃ c0 c1 c2 c3, cs = #[c0, c1, c2, c3] := by
    obtain ⟨l⟩ := cs
    match l, hs with
    | [a, b, c, d], _ => exact ⟨a, b, c, d, rfl⟩
  obtain ⟨m, hm⟩ := ht
  have hm' : DataW.trod enc Try.prog W base2 spare held m 24 [c0, c1, c2, c3] = some (d, p) := hm
  obtain ⟨z0, z1, z2, z3, n2, _, g0, g1, g2, g3⟩ := trod_array4 Try.underlying24 cellsU hm'
  obtain ⟨s0, e20, _, v0⟩ := DataW.trod_int Try.underlying22 g0
  obtain ⟨s1, e21, _, v1⟩ := DataW.trod_int Try.underlying22 g1
  obtain ⟨s2, e22, _, v2⟩ := DataW.trod_int Try.underlying22 g2
  obtain ⟨s3, e23, _, v3⟩ := DataW.trod_int Try.underlying22 g3
  simp only [List.cons.injEq, and_true] at e20 e21 e22 e23
  subst e20 e21 e22 e23
  have wf : ∀ x : Int, (Lit.int .u64 x).wf = true → 0 ≤ x ∧ x < 18446744073709551616 := by
    intro x hx
    simp [Lit.wf, IntKind.wrap] at hx
    have a1 : IntKind.u64.min = 0 := rfl
    have a2 : IntKind.u64.max = 18446744073709551615 := rfl
    omega
  refine ⟨fun i => if i = 0 then s0 else if i = 1 then s1 else if i = 2 then s2 else s3, rfl, fun i hi => ?_⟩
  have : i = 0 ∨ i = 1 ∨ i = 2 ∨ i = 3 := by omega
  rcases this with rfl | rfl | rfl | rfl
  · exact wf _ v0
  · exact wf _ v1
  · exact wf _ v2
  · exact wf _ v3

theorem open_byte {H : Type} {enc : TypeId × Value → H} {W : World} {base base2 : Nat} {spare : Nat → Bool} {held : Bool} {v : Value} {d : DataW H} {p : List MemPlace}
    (h : Value.okWide Try.prog W .any base 5 v) (ht : DataW.Trod enc Try.prog W base2 spare held 5 v d p) :
    ∃ c : Nat, v = .int .u8 c ∧ c < 256 := by
  obtain ⟨n0, rfl⟩ := okWide_int Try.underlying5 h
  obtain ⟨m, hm⟩ := ht
  obtain ⟨n, e, _, hw⟩ := DataW.trod_int Try.underlying5 hm
  obtain rfl : n0 = n := by simpa [Value.cells] using e
  have hr : 0 ≤ n0 ∧ n0 ≤ 255 := by
    simp [Lit.wf, IntKind.wrap] at hw
    have a1 : IntKind.u8.min = 0 := rfl
    have a2 : IntKind.u8.max = 255 := rfl
    omega
  refine ⟨n0.toNat, ?_, by omega⟩
  rw [show ((n0.toNat : Nat) : Int) = n0 by omega]

end Go.Proofs.Ytfjipiibkmapkaa
