/- A repeat's bounds; whether a whole number is among some: bounds of the program, Contains, Index of the library. -/
import Derived.Test.YtkidjbfapldmbaaNeeded
import Derived.Test.YtkidjbfapldmbaaCount
namespace Go.Proofs.Ytkidjbfapldmbaa
set_option linter.unusedVariables false
set_option linter.unusedSimpArgs false
open Go.RowKit P8

def boundsOk (h : Hd) : Bool := decide (0 ≤ h.mn ∧ h.mn ≤ 255 ∧ (h.mx = -1 ∨ (h.mn ≤ h.mx ∧ h.mx ≤ 255)))

set_option maxHeartbeats 1000000 in
theorem bounds_any (T : Nd) (v : Value) (w : World) :
    Calls Try.prog 98 #[.agg (Nd.row T v)] w fun e w' => e = .returned (.bool (boundsOk T.h)) ∧ Keep Nb w w' := by
  obtain ⟨h, l⟩ := T
  simp only [Nd.row, Nd.h]
  generalize hR : boundsOk h = R
  have HR := Lib.hid hR; clear hR
  by_cases e1 : 0 ≤ h.mn
  · by_cases e2 : h.mn ≤ 255
    · by_cases e3 : h.mx = -1
      · have b3 : (h.mx == -1) = true := by simpa using e3
        have H3 := Lib.hid e3; clear e3
        go_enter Try.func98, Try.ntmps98
        go_wp2_with fail
        go_ret
        exact ⟨ret_bool (by rw [← HR.out]; have := H3.out; simp [boundsOk]; omega), (by repeat (first | assumption | exact Keep.refl _ _ | refine Keep.alloc ?_ _ | refine Keep.drew ?_ | refine Keep.setCell ?_ (Or.inl (by simp)) _ | refine Keep.setRow ?_ (Or.inl (by simp)) _))⟩
      · have b3 : (h.mx == -1) = false := by simpa using e3
        have H3 := Lib.hid e3; clear e3
        by_cases e4 : h.mn ≤ h.mx
        · have b4 : (decide (h.mx ≤ 255)) = decide (h.mx ≤ 255) := rfl
          go_enter Try.func98, Try.ntmps98
          go_wp2_with fail
          all_goals
            go_ret
            exact ⟨ret_bool (by rw [← HR.out]; have := H3.out; rw [Bool.eq_iff_iff]; simp [boundsOk]; omega), (by repeat (first | assumption | exact Keep.refl _ _ | refine Keep.alloc ?_ _ | refine Keep.drew ?_ | refine Keep.setCell ?_ (Or.inl (by simp)) _ | refine Keep.setRow ?_ (Or.inl (by simp)) _))⟩
        · go_enter Try.func98, Try.ntmps98
          go_wp2_with fail
          go_ret
          exact ⟨ret_bool (by rw [← HR.out]; have := H3.out; simp [boundsOk]; omega), (by repeat (first | assumption | exact Keep.refl _ _ | refine Keep.alloc ?_ _ | refine Keep.drew ?_ | refine Keep.setCell ?_ (Or.inl (by simp)) _ | refine Keep.setRow ?_ (Or.inl (by simp)) _))⟩
    · go_enter Try.func98, Try.ntmps98
      go_wp2_with fail
      go_ret
      exact ⟨ret_bool (by rw [← HR.out]; simp [boundsOk]; omega), (by repeat (first | assumption | exact Keep.refl _ _ | refine Keep.alloc ?_ _ | refine Keep.drew ?_ | refine Keep.setCell ?_ (Or.inl (by simp)) _ | refine Keep.setRow ?_ (Or.inl (by simp)) _))⟩
  · go_enter Try.func98, Try.ntmps98
    go_wp2_with fail
    go_ret
    exact ⟨ret_bool (by rw [← HR.out]; simp [boundsOk]; omega), (by repeat (first | assumption | exact Keep.refl _ _ | refine Keep.alloc ?_ _ | refine Keep.drew ?_ | refine Keep.setCell ?_ (Or.inl (by simp)) _ | refine Keep.setRow ?_ (Or.inl (by simp)) _))⟩

def indexOf (xs : List Int) (v : Int) (i : Nat) : Int := match xs with | [] => -1 | x :: r => if v = x then i else indexOf r v (i + 1)

theorem indexOf_drop (xs : List Int) (v : Int) (j : Nat) (hj : j < xs.length) : indexOf (xs.drop j) v j = if v = xs[j] then (j : Int) else indexOf (xs.drop (j + 1)) v (j + 1) := by
  rw [List.drop_eq_getElem_cons hj, indexOf]

theorem indexOf_mem (xs : List Int) (v : Int) (i : Nat) : decide (0 ≤ indexOf xs v i) = decide (v ∈ xs) := by
  induction xs generalizing i with
  | nil => simp [indexOf]
  | cons x r ih =>
    rw [indexOf]
    split
    · rename_i h; simp [h]
    · rename_i h; rw [ih]; simp [h]

set_option maxHeartbeats 1000000 in
theorem index_any (xs : List Int) (hx : xs.length ≤ 1000000) (b cap : Nat) (v : Int) (w : World) (hc : ∀ i, (hi : i < xs.length) → w.cell? ⟨b, i, none⟩ = some (.int .i64 xs[i])) :
    Calls Try.prog 112 #[.slice (some ⟨b, 0, none⟩) xs.length cap, .int .i64 v] w fun e w' => e = .returned (.int .i64 (indexOf xs v 0)) ∧ Keep Nb w w' := by
  generalize hR : indexOf xs v 0 = R
  have HR := Lib.hid hR; clear hR
  go_enter Try.func112, Try.ntmps112
  go_wp2_with fail
  go_loopw [8] (fun i wr => ∃ j : Nat, j ≤ xs.length ∧ i = .int .i64 j ∧ Hid (R = indexOf (xs.drop j) v j) ∧ Keep Nb w wr) (fun i _ => xs.length - (intOf i).toNat)
  case atStart => exact ⟨0, by omega, rfl, Lib.hid (by rw [← HR.out]; rfl), Keep.refl _ _⟩
  case round =>
    obtain ⟨j, hj, rfl, hH, hk⟩ := hrel
    by_cases hlt : j < xs.length
    · have c0 := hk.cell (hc j hlt) id
      have hst := indexOf_drop xs v j hlt
      rw [← hH.out] at hst
      have HS := Lib.hid hst; clear hst hH
      generalize hq : xs[j] = x at c0 HS
      clear hc hq
      by_cases hv : v = x
      · have b0 : (v == x) = true := by simpa using hv
        have HV := Lib.hid hv; clear hv
        go_wp2_with fail
        go_ret
        exact ⟨ret_int (by rw [HS.out, if_pos HV.out]), hk⟩
      · have b0 : (v == x) = false := by simpa using hv
        have HV := Lib.hid hv; clear hv
        go_wp2_with fail
        go_roundw
        case rel => exact ⟨j + 1, by omega, by go_num, Lib.hid (by rw [HS.out, if_neg HV.out]), hk⟩
        case measure => simp [intOf]; omega
    · obtain rfl : j = xs.length := by omega
      have hF := hH.out
      rw [List.drop_length, indexOf] at hF
      have HF := Lib.hid hF; clear hF hH
      go_wp2_with fail
      go_ret
      exact ⟨ret_int HF.out.symm, hk⟩

set_option maxHeartbeats 1000000 in
theorem contains_any (xs : List Int) (hx : xs.length ≤ 1000000) (b cap : Nat) (v : Int) (w : World) (hc : ∀ i, (hi : i < xs.length) → w.cell? ⟨b, i, none⟩ = some (.int .i64 xs[i])) :
    Calls Try.prog 99 #[.slice (some ⟨b, 0, none⟩) xs.length cap, .int .i64 v] w fun e w' => e = .returned (.bool (decide (v ∈ xs))) ∧ Keep Nb w w' := by
  have HC := Lib.hid hc; clear hc
  go_enter Try.func99, Try.ntmps99
  go_wp2_with fail
  refine (index_any xs hx b cap v w HC.out).mono ?_
  rintro e w2 ⟨rfl, hk⟩
  have hm := indexOf_mem xs v 0
  generalize indexOf xs v 0 = q at hm ⊢
  have HM := Lib.hid hm; clear hm
  go_wp2_with fail
  all_goals
    go_ret
    exact ⟨ret_bool HM.out, hk⟩

end Go.Proofs.Ytkidjbfapldmbaa
