import Derived.Test.YtkidjbfapldmbaaZCount
set_option linter.unusedVariables false
set_option linter.unusedSimpArgs false
namespace Go.Proofs.Ytkidjbfapldmbaa
open Go.RowKit P8
set_option maxHeartbeats 1000000 in
theorem tcount_any (c : Nat) : ∀ (T : Nd) (_ : count T ≤ c) (_ : c ≤ 1000000) (v : Value) (w : World) (_ : Lies w T v),
  Calls Try.prog 32 #[.agg (Nd.row T v)] w fun e w' => e = .returned (.int .i64 (count T : Nat)) ∧ Keep Nb w w' := by
 induction c with
 | zero => intro T hd; have := count_pos T; omega
 | succ c ih =>
 intro T hd hd' v w hl
 have hT := Nat.le_refl (count T)
 cases T with
 | mk h l =>
 rw [Lies_mk] at hl
 obtain ⟨A, cap, rfl, hlc, hcap, hL⟩ := hl
 unfold maxLen at hcap
 rw [count] at hd
 rw [Nd.row]
 have HI := Lib.hid ih
 clear ih
 generalize hR : count (.mk h l) = R at hT ⊢
 have HR := Lib.hid hR; clear hR
 go_enter Try.func32, Try.ntmps32
 go_wp2_with fail
 go_loopw [3, 9] (fun K i wr => ∃ (j x : Nat), j ≤ l.length ∧ i = .int .i64 j ∧ K = .int .i64 x ∧ x ≤ 1 + countL l ∧ Hid (x = 1 + countL (l.take j)) ∧ wr.cell? ⟨w.heap.size, 9, none⟩ = some (.slice A l.length cap) ∧ wr.cell? ⟨w.heap.size, 0, none⟩ = some (.int .i64 h.k) ∧ w.heap.size < wr.heap.size ∧ Keep Nb w wr) (fun _ i _ => l.length - (intOf i).toNat)
 case atStart => exact ⟨0, 1, by omega, rfl, rfl, by omega, Lib.hid (by simp [countL]), by simp, by simp [Nd.h], by simp, kp⟩
 case round =>
  obtain ⟨j, x, hj, rfl, rfl, hx1, hH, hbox, hbox0, hsz, hk⟩ := hrel
  by_cases hlt : j < l.length
  ·obtain ⟨b, off, A2, n2, rfl, hten, hS⟩ := hL.at j hlt
   obtain ⟨c0, c1, c2, c3, c4, c5, c6, c7, c8, c9, lt⟩ := hten.keep hk
   have hc := countL_get_le l j hlt
   go_wp2_with fail
   refine (HI.out l[j] (by omega) (by omega) _ _ (Lies_keep (hk.trans kp (fun _ _ h => h)) hS)).mono ?_
   have ht := countL_take l j hlt
   have hr := Nat.le_refl (count l[j])
   have hr2 := Nat.le_refl (countL (l.take (j + 1)))
   have hr3 := countL_take_le l (j + 1)
   have hr4 := countL_take l j hlt
   have hr5 := Nat.le_refl (countL (l.take j))
   have hr6 := hH.out
   generalize hy : count l[j] = y at hr ht ⊢
   have HB : Hid (x + y = 1 + countL (l.take (j + 1))) := by rw [Hid]; omega
   have hr7 : x + y ≤ 1 + countL l := by omega
   clear ht hr2 hr3 hr4 hr5 hr6 hy
   rintro e w2 ⟨rfl, hk2⟩
   have hk3 : Keep Nb wr w2 := Keep.trans kp hk2 (fun _ _ h => h)
   clear hk2
   go_wp2_with fail
   all_goals
    go_roundw
    case rel => exact ⟨j + 1, x + y, by omega, by go_num, by first | go_num | (congr 1; omega), by omega, HB, hk3.cell hbox id, hk3.cell hbox0 id, by have := hk3.size; omega, hk.trans hk3 (fun _ _ h => h)⟩
    case measure => simp [intOf]; omega
  ·obtain rfl : j = l.length := by omega
   have hF := hH.out
   rw [List.take_length] at hF
   have HF := Lib.hid hF; clear hF hH
   go_wp2_with fail
   go_ret
   exact ⟨ret_int (by rw [HF.out, ← HR.out, count]), hk⟩
set_option maxHeartbeats 1000000 in
theorem rcount_any (c : Nat) : ∀ (T : Nd) (_ : count T ≤ c) (_ : c ≤ 1000000) (v : Value) (w : World) (_ : Lies w T v),
  Calls Try.prog 33 #[.agg (Nd.row T v)] w fun e w' => e = .returned (.int .i64 (count T : Nat)) ∧ Keep Nb w w' := by
 induction c with
 | zero => intro T hd; have := count_pos T; omega
 | succ c ih =>
 intro T hd hd' v w hl
 have hT := Nat.le_refl (count T)
 cases T with
 | mk h l =>
 rw [Lies_mk] at hl
 obtain ⟨A, cap, rfl, hlc, hcap, hL⟩ := hl
 unfold maxLen at hcap
 rw [count] at hd
 rw [Nd.row]
 have HI := Lib.hid ih
 clear ih
 generalize hR : count (.mk h l) = R at hT ⊢
 have HR := Lib.hid hR; clear hR
 go_enter Try.func33, Try.ntmps33
 go_wp2_with fail
 go_loopw [3, 8] (fun K i wr => ∃ (j x : Nat), j ≤ l.length ∧ i = .int .i64 j ∧ K = .int .i64 x ∧ x ≤ 1 + countL l ∧ Hid (x = 1 + countL (l.take j)) ∧ wr.cell? ⟨w.heap.size, 9, none⟩ = some (.slice A l.length cap) ∧ wr.cell? ⟨w.heap.size, 0, none⟩ = some (.int .i64 h.k) ∧ w.heap.size < wr.heap.size ∧ Keep Nb w wr) (fun _ i _ => l.length - (intOf i).toNat)
 case atStart => exact ⟨0, 1, by omega, rfl, rfl, by omega, Lib.hid (by simp [countL]), by simp, by simp [Nd.h], by simp, kp⟩
 case round =>
  obtain ⟨j, x, hj, rfl, rfl, hx1, hH, hbox, hbox0, hsz, hk⟩ := hrel
  by_cases hlt : j < l.length
  ·obtain ⟨b, off, A2, n2, rfl, hten, hS⟩ := hL.at j hlt
   obtain ⟨c0, c1, c2, c3, c4, c5, c6, c7, c8, c9, lt⟩ := hten.keep hk
   have hc := countL_get_le l j hlt
   go_wp2_with fail
   refine (HI.out l[j] (by omega) (by omega) _ _ (Lies_keep (hk.trans kp (fun _ _ h => h)) hS)).mono ?_
   have ht := countL_take l j hlt
   have hr := Nat.le_refl (count l[j])
   have hr2 := Nat.le_refl (countL (l.take (j + 1)))
   have hr3 := countL_take_le l (j + 1)
   have hr4 := countL_take l j hlt
   have hr5 := Nat.le_refl (countL (l.take j))
   have hr6 := hH.out
   generalize hy : count l[j] = y at hr ht ⊢
   have HB : Hid (x + y = 1 + countL (l.take (j + 1))) := by rw [Hid]; omega
   have hr7 : x + y ≤ 1 + countL l := by omega
   clear ht hr2 hr3 hr4 hr5 hr6 hy
   rintro e w2 ⟨rfl, hk2⟩
   have hk3 : Keep Nb wr w2 := Keep.trans kp hk2 (fun _ _ h => h)
   clear hk2
   go_wp2_with fail
   all_goals
    go_roundw
    case rel => exact ⟨j + 1, x + y, by omega, by go_num, by first | go_num | (congr 1; omega), by omega, HB, hk3.cell hbox id, hk3.cell hbox0 id, by have := hk3.size; omega, hk.trans hk3 (fun _ _ h => h)⟩
    case measure => simp [intOf]; omega
  ·obtain rfl : j = l.length := by omega
   have hF := hH.out
   rw [List.take_length] at hF
   have HF := Lib.hid hF; clear hF hH
   go_wp2_with fail
   go_ret
   exact ⟨ret_int (by rw [HF.out, ← HR.out, count]), hk⟩
set_option maxHeartbeats 1000000 in
theorem tdeep_any (c : Nat) : ∀ (T : Nd) (_ : count T ≤ c) (_ : c ≤ 1000000) (v : Value) (w : World) (_ : Lies w T v),
  Calls Try.prog 34 #[.agg (Nd.row T v)] w fun e w' => e = .returned (.int .i64 (deep T : Nat)) ∧ Keep Nb w w' := by
 induction c with
 | zero => intro T hd; have := count_pos T; omega
 | succ c ih =>
 intro T hd hd' v w hl
 have hT := deep_le T
 cases T with
 | mk h l =>
 rw [Lies_mk] at hl
 obtain ⟨A, cap, rfl, hlc, hcap, hL⟩ := hl
 unfold maxLen at hcap
 rw [count] at hd
 rw [Nd.row]
 have HI := Lib.hid ih
 clear ih
 generalize hR : deep (.mk h l) = R at hT ⊢
 have HR := Lib.hid hR; clear hR
 go_enter Try.func34, Try.ntmps34
 go_wp2_with fail
 go_loopw [3, 9] (fun K i wr => ∃ (j x : Nat), j ≤ l.length ∧ i = .int .i64 j ∧ K = .int .i64 x ∧ x ≤ 1 + countL l ∧ Hid (x = deepL (l.take j)) ∧ wr.cell? ⟨w.heap.size, 9, none⟩ = some (.slice A l.length cap) ∧ wr.cell? ⟨w.heap.size, 0, none⟩ = some (.int .i64 h.k) ∧ w.heap.size < wr.heap.size ∧ Keep Nb w wr) (fun _ i _ => l.length - (intOf i).toNat)
 case atStart => exact ⟨0, 0, by omega, rfl, rfl, by omega, Lib.hid (by simp [deepL]), by simp, by simp [Nd.h], by simp, kp⟩
 case round =>
  obtain ⟨j, x, hj, rfl, rfl, hx1, hH, hbox, hbox0, hsz, hk⟩ := hrel
  by_cases hlt : j < l.length
  ·obtain ⟨b, off, A2, n2, rfl, hten, hS⟩ := hL.at j hlt
   obtain ⟨c0, c1, c2, c3, c4, c5, c6, c7, c8, c9, lt⟩ := hten.keep hk
   have hc := countL_get_le l j hlt
   go_wp2_with fail
   refine (HI.out l[j] (by omega) (by omega) _ _ (Lies_keep (hk.trans kp (fun _ _ h => h)) hS)).mono ?_
   have ht := deepL_take l j hlt
   have hr := deep_le l[j]
   have hr2 := deepL_le (l.take (j + 1))
   have hr3 := countL_take_le l (j + 1)
   have hr4 := countL_take l j hlt
   have hr5 := deepL_le (l.take j)
   have hr6 := hH.out
   generalize hy : deep l[j] = y at hr ht ⊢
   have HB : Hid (max x y = deepL (l.take (j + 1))) := by rw [Hid]; omega
   have hr7 : max x y ≤ 1 + countL l := by omega
   clear ht hr2 hr3 hr4 hr5 hr6 hy
   rintro e w2 ⟨rfl, hk2⟩
   have hk3 : Keep Nb wr w2 := Keep.trans kp hk2 (fun _ _ h => h)
   clear hk2
   go_wp2_with fail
   all_goals
    go_roundw
    case rel => exact ⟨j + 1, max x y, by omega, by go_num, by first | go_num | (congr 1; omega), by omega, HB, hk3.cell hbox id, hk3.cell hbox0 id, by have := hk3.size; omega, hk.trans hk3 (fun _ _ h => h)⟩
    case measure => simp [intOf]; omega
  ·obtain rfl : j = l.length := by omega
   have hF := hH.out
   rw [List.take_length] at hF
   have HF := Lib.hid hF; clear hF hH
   go_wp2_with fail
   go_ret
   exact ⟨ret_int (by rw [← HR.out, deep, ← HF.out]; omega), hk⟩
set_option maxHeartbeats 1000000 in
theorem rdeep_any (c : Nat) : ∀ (T : Nd) (_ : count T ≤ c) (_ : c ≤ 1000000) (v : Value) (w : World) (_ : Lies w T v),
  Calls Try.prog 35 #[.agg (Nd.row T v)] w fun e w' => e = .returned (.int .i64 (deep T : Nat)) ∧ Keep Nb w w' := by
 induction c with
 | zero => intro T hd; have := count_pos T; omega
 | succ c ih =>
 intro T hd hd' v w hl
 have hT := deep_le T
 cases T with
 | mk h l =>
 rw [Lies_mk] at hl
 obtain ⟨A, cap, rfl, hlc, hcap, hL⟩ := hl
 unfold maxLen at hcap
 rw [count] at hd
 rw [Nd.row]
 have HI := Lib.hid ih
 clear ih
 generalize hR : deep (.mk h l) = R at hT ⊢
 have HR := Lib.hid hR; clear hR
 go_enter Try.func35, Try.ntmps35
 go_wp2_with fail
 go_loopw [3, 8] (fun K i wr => ∃ (j x : Nat), j ≤ l.length ∧ i = .int .i64 j ∧ K = .int .i64 x ∧ x ≤ 1 + countL l ∧ Hid (x = deepL (l.take j)) ∧ wr.cell? ⟨w.heap.size, 9, none⟩ = some (.slice A l.length cap) ∧ wr.cell? ⟨w.heap.size, 0, none⟩ = some (.int .i64 h.k) ∧ w.heap.size < wr.heap.size ∧ Keep Nb w wr) (fun _ i _ => l.length - (intOf i).toNat)
 case atStart => exact ⟨0, 0, by omega, rfl, rfl, by omega, Lib.hid (by simp [deepL]), by simp, by simp [Nd.h], by simp, kp⟩
 case round =>
  obtain ⟨j, x, hj, rfl, rfl, hx1, hH, hbox, hbox0, hsz, hk⟩ := hrel
  by_cases hlt : j < l.length
  ·obtain ⟨b, off, A2, n2, rfl, hten, hS⟩ := hL.at j hlt
   obtain ⟨c0, c1, c2, c3, c4, c5, c6, c7, c8, c9, lt⟩ := hten.keep hk
   have hc := countL_get_le l j hlt
   go_wp2_with fail
   refine (HI.out l[j] (by omega) (by omega) _ _ (Lies_keep (hk.trans kp (fun _ _ h => h)) hS)).mono ?_
   have ht := deepL_take l j hlt
   have hr := deep_le l[j]
   have hr2 := deepL_le (l.take (j + 1))
   have hr3 := countL_take_le l (j + 1)
   have hr4 := countL_take l j hlt
   have hr5 := deepL_le (l.take j)
   have hr6 := hH.out
   generalize hy : deep l[j] = y at hr ht ⊢
   have HB : Hid (max x y = deepL (l.take (j + 1))) := by rw [Hid]; omega
   have hr7 : max x y ≤ 1 + countL l := by omega
   clear ht hr2 hr3 hr4 hr5 hr6 hy
   rintro e w2 ⟨rfl, hk2⟩
   have hk3 : Keep Nb wr w2 := Keep.trans kp hk2 (fun _ _ h => h)
   clear hk2
   go_wp2_with fail
   all_goals
    go_roundw
    case rel => exact ⟨j + 1, max x y, by omega, by go_num, by first | go_num | (congr 1; omega), by omega, HB, hk3.cell hbox id, hk3.cell hbox0 id, by have := hk3.size; omega, hk.trans hk3 (fun _ _ h => h)⟩
    case measure => simp [intOf]; omega
  ·obtain rfl : j = l.length := by omega
   have hF := hH.out
   rw [List.take_length] at hF
   have HF := Lib.hid hF; clear hF hH
   go_wp2_with fail
   go_ret
   exact ⟨ret_int (by rw [← HR.out, deep, ← HF.out]; omega), hk⟩
end Go.Proofs.Ytkidjbfapldmbaa
