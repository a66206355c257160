/- A byte is in a node's set: Has of the program and of the reference. -/
import Derived.Test.YtkidjbfapldmbaaMt
namespace Go.Proofs.Ytkidjbfapldmbaa
set_option linter.unusedVariables false
set_option linter.unusedSimpArgs false
open Go.RowKit P8

theorem q4 {c : Nat} (h : c < 256) : c / 64 = 0 ∨ c / 64 = 1 ∨ c / 64 = 2 ∨ c / 64 = 3 := by omega

set_option maxRecDepth 100000 in
set_option maxHeartbeats 1000000 in
theorem has_t (h : Hd) (c : Nat) (hc : c < 256) (w : World) :
    Calls Try.prog 113 #[.agg #[.int .u64 h.s0, .int .u64 h.s1, .int .u64 h.s2, .int .u64 h.s3], .int .u8 c] w fun e w' => e = .returned (.bool (hasH h c)) ∧ Keep Nb w w' := by
  generalize hR : hasH h c = R
  have HR := Lib.hid hR
  clear hR
  rcases q4 hc with hq | hq | hq | hq
  · go_enter Try.func113, Try.ntmps113
    go_wp2_with fail
    go_ret
    exact ⟨by rw [← HR.out]; simp only [hasH, wordH, hq]; rfl, (by repeat (first | assumption | exact Keep.refl _ _ | refine Keep.alloc ?_ _ | refine Keep.drew ?_ | refine Keep.setCell ?_ (Or.inl (by simp)) _ | refine Keep.setRow ?_ (Or.inl (by simp)) _))⟩
  · go_enter Try.func113, Try.ntmps113
    go_wp2_with fail
    go_ret
    exact ⟨by rw [← HR.out]; simp only [hasH, wordH, hq]; rfl, (by repeat (first | assumption | exact Keep.refl _ _ | refine Keep.alloc ?_ _ | refine Keep.drew ?_ | refine Keep.setCell ?_ (Or.inl (by simp)) _ | refine Keep.setRow ?_ (Or.inl (by simp)) _))⟩
  · go_enter Try.func113, Try.ntmps113
    go_wp2_with fail
    go_ret
    exact ⟨by rw [← HR.out]; simp only [hasH, wordH, hq]; rfl, (by repeat (first | assumption | exact Keep.refl _ _ | refine Keep.alloc ?_ _ | refine Keep.drew ?_ | refine Keep.setCell ?_ (Or.inl (by simp)) _ | refine Keep.setRow ?_ (Or.inl (by simp)) _))⟩
  · go_enter Try.func113, Try.ntmps113
    go_wp2_with fail
    go_ret
    exact ⟨by rw [← HR.out]; simp only [hasH, wordH, hq]; rfl, (by repeat (first | assumption | exact Keep.refl _ _ | refine Keep.alloc ?_ _ | refine Keep.drew ?_ | refine Keep.setCell ?_ (Or.inl (by simp)) _ | refine Keep.setRow ?_ (Or.inl (by simp)) _))⟩

set_option maxRecDepth 100000 in
set_option maxHeartbeats 1000000 in
theorem has_r (h : Hd) (c : Nat) (hc : c < 256) (w : World) :
    Calls Try.prog 104 #[.agg #[.int .u64 h.s0, .int .u64 h.s1, .int .u64 h.s2, .int .u64 h.s3], .int .u8 c] w fun e w' => e = .returned (.bool (hasH h c)) ∧ Keep Nb w w' := by
  generalize hR : hasH h c = R
  have HR := Lib.hid hR
  clear hR
  rcases q4 hc with hq | hq | hq | hq
  · go_enter Try.func104, Try.ntmps104
    go_wp2_with fail
    go_ret
    exact ⟨by rw [← HR.out]; simp only [hasH, wordH, hq]; rfl, (by repeat (first | assumption | exact Keep.refl _ _ | refine Keep.alloc ?_ _ | refine Keep.drew ?_ | refine Keep.setCell ?_ (Or.inl (by simp)) _ | refine Keep.setRow ?_ (Or.inl (by simp)) _))⟩
  · go_enter Try.func104, Try.ntmps104
    go_wp2_with fail
    go_ret
    exact ⟨by rw [← HR.out]; simp only [hasH, wordH, hq]; rfl, (by repeat (first | assumption | exact Keep.refl _ _ | refine Keep.alloc ?_ _ | refine Keep.drew ?_ | refine Keep.setCell ?_ (Or.inl (by simp)) _ | refine Keep.setRow ?_ (Or.inl (by simp)) _))⟩
  · go_enter Try.func104, Try.ntmps104
    go_wp2_with fail
    go_ret
    exact ⟨by rw [← HR.out]; simp only [hasH, wordH, hq]; rfl, (by repeat (first | assumption | exact Keep.refl _ _ | refine Keep.alloc ?_ _ | refine Keep.drew ?_ | refine Keep.setCell ?_ (Or.inl (by simp)) _ | refine Keep.setRow ?_ (Or.inl (by simp)) _))⟩
  · go_enter Try.func104, Try.ntmps104
    go_wp2_with fail
    go_ret
    exact ⟨by rw [← HR.out]; simp only [hasH, wordH, hq]; rfl, (by repeat (first | assumption | exact Keep.refl _ _ | refine Keep.alloc ?_ _ | refine Keep.drew ?_ | refine Keep.setCell ?_ (Or.inl (by simp)) _ | refine Keep.setRow ?_ (Or.inl (by simp)) _))⟩

end Go.Proofs.Ytkidjbfapldmbaa
