/- plain of chapter 12's laws: has a tree no groups and no back references. -/
import Derived.Test.YtkidjbfapldmbaaPla
import Derived.Test.YtkidjbfapldmbaaCount
namespace Go.Proofs.Ytkidjbfapldmbaa
set_option linter.unusedVariables false
set_option linter.unusedSimpArgs false
open Go.RowKit P8

theorem plainL_take : ∀ (l : List Nd) (j : Nat) (hj : j < l.length), plainL (l.take (j + 1)) = (plainL (l.take j) && plainT l[j])
  | x :: r, 0, _ => by simp [plainL]
  | x :: r, j + 1, hj => by
    rw [List.take_succ_cons, List.take_succ_cons, plainL, plainL, plainL_take r j (by simpa using hj), Bool.and_assoc]
    rfl
theorem plainL_false {l : List Nd} {j : Nat} (hj : j < l.length) (h : plainT l[j] = false) : plainL l = false := by
  cases hp : plainL l with
  | false => rfl
  | true => rw [plainL_mem hp l[j] (List.getElem_mem hj)] at h; cases h
theorem ret_bool12 {a b : Bool} (h : a = b) : Ending.returned (.bool a) = .returned (.bool b) := by rw [h]

set_option maxRecDepth 100000 in
set_option maxHeartbeats 1000000 in
theorem plain12_any (c : Nat) : ∀ (T : Nd) (_ : count T ≤ c) (_ : c ≤ 1000000) (v : Value) (w : World) (_ : Lies w T v),
    Calls Try.prog 47 #[.agg (Nd.row T v)] w fun e w' => e = .returned (.bool (plainT T)) ∧ Keep Nb w w' := by
  induction c with
  | zero => intro T hd; have := count_pos T; omega
  | succ c ih =>
  intro T hd hd' v w hl
  cases T with
  | mk h l =>
  rw [Lies_mk] at hl
  obtain ⟨A, cap, rfl, hlc, hcap, hL⟩ := hl
  unfold maxLen at hcap
  rw [count] at hd
  rw [Nd.row]
  simp only [Nd.h, Nd.l]
  have HI := Lib.hid ih
  clear ih
  by_cases h6 : h.k = 6
  · have b6 : (h.k == 6) = true := by simpa using h6
    have HR := Lib.hid (show plainT (.mk h l) = false by rw [plainT]; simp [h6])
    clear h6
    go_enter Try.func47, Try.ntmps47
    go_wp2_with fail
    go_ret
    exact ⟨ret_bool12 HR.out.symm, (by repeat (first | assumption | exact Keep.refl _ _ | refine Keep.alloc ?_ _ | refine Keep.drew ?_ | refine Keep.setCell ?_ (Or.inl (by simp)) _ | refine Keep.setRow ?_ (Or.inl (by simp)) _))⟩
  by_cases h7 : h.k = 7
  · have b6 : (h.k == 6) = false := beq_eq_false_iff_ne.2 h6
    have b7 : (h.k == 7) = true := by simpa using h7
    have HR := Lib.hid (show plainT (.mk h l) = false by rw [plainT]; simp [h7])
    clear h6 h7
    go_enter Try.func47, Try.ntmps47
    go_wp2_with fail
    go_ret
    exact ⟨ret_bool12 HR.out.symm, (by repeat (first | assumption | exact Keep.refl _ _ | refine Keep.alloc ?_ _ | refine Keep.drew ?_ | refine Keep.setCell ?_ (Or.inl (by simp)) _ | refine Keep.setRow ?_ (Or.inl (by simp)) _))⟩
  have b6 : (h.k == 6) = false := beq_eq_false_iff_ne.2 h6
  have b7 : (h.k == 7) = false := beq_eq_false_iff_ne.2 h7
  have hR : plainT (.mk h l) = plainL l := by rw [plainT]; simp [h6, h7]
  have HR := Lib.hid hR
  clear hR h6 h7
  go_enter Try.func47, Try.ntmps47
  go_wp2_with fail
  go_loopw [15] (fun i wr => ∃ j : Nat, j ≤ l.length ∧ i = .int .i64 j ∧ Hid (plainL (l.take j) = true) ∧ wr.cell? ⟨w.heap.size, 9, none⟩ = some (.slice A l.length cap) ∧ w.heap.size < wr.heap.size ∧ Keep Nb w wr) (fun i _ => l.length - (intOf i).toNat)
  case atStart => exact ⟨0, by omega, rfl, Lib.hid (by rw [List.take_zero, plainL]), by simp, by simp, (by repeat (first | assumption | exact Keep.refl _ _ | refine Keep.alloc ?_ _ | refine Keep.drew ?_ | refine Keep.setCell ?_ (Or.inl (by simp)) _ | refine Keep.setRow ?_ (Or.inl (by simp)) _))⟩
  case round =>
    obtain ⟨j, hj, rfl, hH, hbox, hsz, hk⟩ := hrel
    by_cases hlt : j < l.length
    · obtain ⟨b, off, A2, n2, rfl, hten, hS⟩ := hL.at j hlt
      obtain ⟨c0, c1, c2, c3, c4, c5, c6, c7, c8, c9, lt⟩ := hten.keep hk
      have hc := countL_get_le l j hlt
      have HC := Lib.hid (HI.out l[j] (by omega) (by omega) _ _ (Lies_keep (hk.trans (by repeat (first | assumption | exact Keep.refl _ _ | refine Keep.alloc ?_ _ | refine Keep.drew ?_ | refine Keep.setCell ?_ (Or.inl (by simp)) _ | refine Keep.setRow ?_ (Or.inl (by simp)) _)) (fun _ _ h => h)) hS))
      have HLT := Lib.hid hlt
      clear hc
      cases hp : plainT l[j] with
      | false =>
        have HC := Lib.hid (HC.out.mono (fun e w' h => (⟨h.1.trans (ret_bool12 hp), h.2⟩ : e = .returned (.bool false) ∧ Keep Nb wr w')))
        have HP := Lib.hid (plainL_false hlt hp)
        clear hp
        go_wp2_with fail
        refine HC.out.mono ?_
        rintro e w2 ⟨rfl, hk2⟩
        go_wp2_with fail
        go_ret
        exact ⟨ret_bool12 (by rw [HR.out, HP.out]), hk.trans hk2 (fun _ _ h => h)⟩
      | true =>
        have HC := Lib.hid (HC.out.mono (fun e w' h => (⟨h.1.trans (ret_bool12 hp), h.2⟩ : e = .returned (.bool true) ∧ Keep Nb wr w')))
        have HP := Lib.hid (show plainL (l.take (j + 1)) = true by rw [plainL_take l j hlt, hH.out, Bool.true_and]; exact hp)
        clear hp
        go_wp2_with fail
        refine HC.out.mono ?_
        rintro e w2 ⟨rfl, hk2⟩
        go_wp2_with fail
        go_roundw
        case rel => exact ⟨j + 1, HLT.out, by go_num, HP, hk2.cell hbox id, by have := hk2.size; omega, hk.trans hk2 (fun _ _ h => h)⟩
        case measure => simp [intOf]; omega
    · obtain rfl : j = l.length := by omega
      have hF := hH.out
      rw [List.take_length] at hF
      have HF := Lib.hid hF
      clear hF hH
      go_wp2_with fail
      go_ret
      exact ⟨ret_bool12 (by rw [HR.out, HF.out]), hk⟩

end Go.Proofs.Ytkidjbfapldmbaa
