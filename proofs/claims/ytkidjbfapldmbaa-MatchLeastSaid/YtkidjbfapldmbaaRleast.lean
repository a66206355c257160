/- What the functions that tell the fewest bytes, and the groups, come to: often, Least, of the program and of the reference. -/
import Derived.Test.YtkidjbfapldmbaaCount
import Derived.Test.YtkidjbfapldmbaaHeld
namespace Go.Proofs.Ytkidjbfapldmbaa
set_option linter.unusedVariables false
set_option linter.unusedSimpArgs false
open Go.RowKit P8

set_option maxHeartbeats 1000000 in
theorem rgroups_any (c : Nat) : ∀ (T : Nd) (_ : count T ≤ c) (_ : c ≤ 1000000) (v : Value) (w : World) (_ : Lies w T v),
    Calls Try.prog 37 #[.agg (Nd.row T v)] w fun e w' => e = .returned (.int .i64 (groups T : Nat)) ∧ Keep Nb w w' := by
  induction c with
  | zero => intro T hd; have := count_pos T; omega
  | succ c ih =>
  intro T hd hd' v w hl
  have hT := groups_le T
  cases T with
  | mk h l =>
  rw [Lies_mk] at hl
  obtain ⟨A, cap, rfl, hlc, hcap, hL⟩ := hl
  unfold maxLen at hcap
  rw [count] at hd
  rw [Nd.row]
  have HI := Lib.hid ih
  clear ih
  generalize hR : groups (.mk h l) = R at hT ⊢
  have HR := Lib.hid hR; clear hR
  simp only [Nd.h]
  by_cases h6 : h.k = 6
  · have b6 : (h.k == 6) = true := by simpa using h6
    have H6 := Lib.hid h6
    clear h6
    go_enter Try.func37, Try.ntmps37
    go_wp2_with fail
    go_loopw [3, 11] (fun K i wr => ∃ (j x : Nat), j ≤ l.length ∧ i = .int .i64 j ∧ K = .int .i64 x ∧ x ≤ 1 + countL l ∧ Hid (x = 1 + groupsL (l.take j)) ∧ wr.cell? ⟨w.heap.size, 9, none⟩ = some (.slice A l.length cap) ∧ wr.cell? ⟨w.heap.size, 0, none⟩ = some (.int .i64 h.k) ∧ w.heap.size < wr.heap.size ∧ Keep Nb w wr) (fun _ i _ => l.length - (intOf i).toNat)
    case atStart => exact ⟨0, 1, by omega, rfl, rfl, by omega, Lib.hid (by simp [groupsL]), by simp, by simp [Nd.h], by simp, (by repeat (first | assumption | exact Keep.refl _ _ | refine Keep.alloc ?_ _ | refine Keep.drew ?_ | refine Keep.setCell ?_ (Or.inl (by simp)) _ | refine Keep.setRow ?_ (Or.inl (by simp)) _))⟩
    case round =>
      obtain ⟨j, x, hj, rfl, rfl, hx1, hH, hbox, hbox0, hsz, hk⟩ := hrel
      by_cases hlt : j < l.length
      · obtain ⟨b, off, A2, n2, rfl, hten, hS⟩ := hL.at j hlt
        obtain ⟨c0, c1, c2, c3, c4, c5, c6, c7, c8, c9, lt⟩ := hten.keep hk
        have hc := countL_get_le l j hlt
        go_wp2_with fail
        refine (HI.out l[j] (by omega) (by omega) _ _ (Lies_keep (hk.trans (by repeat (first | assumption | exact Keep.refl _ _ | refine Keep.alloc ?_ _ | refine Keep.drew ?_ | refine Keep.setCell ?_ (Or.inl (by simp)) _ | refine Keep.setRow ?_ (Or.inl (by simp)) _)) (fun _ _ h => h)) hS)).mono ?_
        have ht := groupsL_take l j hlt
        have hr := groups_le l[j]
        have hr2 := groupsL_le (l.take (j + 1))
        have hr3 := countL_take_le l (j + 1)
        have hr4 := countL_take l j hlt
        have hr5 := groupsL_le (l.take j)
        have hr6 := hH.out
        generalize hy : groups l[j] = y at hr ht ⊢
        have HB : Hid (x + y = 1 + groupsL (l.take (j + 1))) := by rw [Hid]; omega
        have hr7 : x + y ≤ 1 + countL l := by omega
        clear ht hr2 hr3 hr4 hr5 hr6 hy
        rintro e w2 ⟨rfl, hk2⟩
        have hk3 : Keep Nb wr w2 := Keep.trans (by repeat (first | assumption | exact Keep.refl _ _ | refine Keep.alloc ?_ _ | refine Keep.drew ?_ | refine Keep.setCell ?_ (Or.inl (by simp)) _ | refine Keep.setRow ?_ (Or.inl (by simp)) _)) hk2 (fun _ _ h => h)
        clear hk2
        go_wp2_with fail
        all_goals
          go_roundw
          case rel => exact ⟨j + 1, x + y, by omega, by go_num, by first | go_num | (congr 1; omega), by omega, HB, hk3.cell hbox id, hk3.cell hbox0 id, by have := hk3.size; omega, hk.trans hk3 (fun _ _ h => h)⟩
          case measure => simp [intOf]; omega
      · obtain rfl : j = l.length := by omega
        have hF := hH.out
        rw [List.take_length] at hF
        have HF := Lib.hid hF; clear hF hH
        go_wp2_with fail
        go_ret
        exact ⟨ret_int (by rw [HF.out, ← HR.out, groups, if_pos H6.out]; omega), hk⟩
  · have b6 : (h.k == 6) = false := by simpa using h6
    have H6 := Lib.hid h6
    clear h6
    go_enter Try.func37, Try.ntmps37
    go_wp2_with fail
    go_loopw [3, 11] (fun K i wr => ∃ (j x : Nat), j ≤ l.length ∧ i = .int .i64 j ∧ K = .int .i64 x ∧ x ≤ 1 + countL l ∧ Hid (x = 0 + groupsL (l.take j)) ∧ wr.cell? ⟨w.heap.size, 9, none⟩ = some (.slice A l.length cap) ∧ wr.cell? ⟨w.heap.size, 0, none⟩ = some (.int .i64 h.k) ∧ w.heap.size < wr.heap.size ∧ Keep Nb w wr) (fun _ i _ => l.length - (intOf i).toNat)
    case atStart => exact ⟨0, 0, by omega, rfl, rfl, by omega, Lib.hid (by simp [groupsL]), by simp, by simp [Nd.h], by simp, (by repeat (first | assumption | exact Keep.refl _ _ | refine Keep.alloc ?_ _ | refine Keep.drew ?_ | refine Keep.setCell ?_ (Or.inl (by simp)) _ | refine Keep.setRow ?_ (Or.inl (by simp)) _))⟩
    case round =>
      obtain ⟨j, x, hj, rfl, rfl, hx1, hH, hbox, hbox0, hsz, hk⟩ := hrel
      by_cases hlt : j < l.length
      · obtain ⟨b, off, A2, n2, rfl, hten, hS⟩ := hL.at j hlt
        obtain ⟨c0, c1, c2, c3, c4, c5, c6, c7, c8, c9, lt⟩ := hten.keep hk
        have hc := countL_get_le l j hlt
        go_wp2_with fail
        refine (HI.out l[j] (by omega) (by omega) _ _ (Lies_keep (hk.trans (by repeat (first | assumption | exact Keep.refl _ _ | refine Keep.alloc ?_ _ | refine Keep.drew ?_ | refine Keep.setCell ?_ (Or.inl (by simp)) _ | refine Keep.setRow ?_ (Or.inl (by simp)) _)) (fun _ _ h => h)) hS)).mono ?_
        have ht := groupsL_take l j hlt
        have hr := groups_le l[j]
        have hr2 := groupsL_le (l.take (j + 1))
        have hr3 := countL_take_le l (j + 1)
        have hr4 := countL_take l j hlt
        have hr5 := groupsL_le (l.take j)
        have hr6 := hH.out
        generalize hy : groups l[j] = y at hr ht ⊢
        have HB : Hid (x + y = 0 + groupsL (l.take (j + 1))) := by rw [Hid]; omega
        have hr7 : x + y ≤ 1 + countL l := by omega
        clear ht hr2 hr3 hr4 hr5 hr6 hy
        rintro e w2 ⟨rfl, hk2⟩
        have hk3 : Keep Nb wr w2 := Keep.trans (by repeat (first | assumption | exact Keep.refl _ _ | refine Keep.alloc ?_ _ | refine Keep.drew ?_ | refine Keep.setCell ?_ (Or.inl (by simp)) _ | refine Keep.setRow ?_ (Or.inl (by simp)) _)) hk2 (fun _ _ h => h)
        clear hk2
        go_wp2_with fail
        all_goals
          go_roundw
          case rel => exact ⟨j + 1, x + y, by omega, by go_num, by first | go_num | (congr 1; omega), by omega, HB, hk3.cell hbox id, hk3.cell hbox0 id, by have := hk3.size; omega, hk.trans hk3 (fun _ _ h => h)⟩
          case measure => simp [intOf]; omega
      · obtain rfl : j = l.length := by omega
        have hF := hH.out
        rw [List.take_length] at hF
        have HF := Lib.hid hF; clear hF hH
        go_wp2_with fail
        go_ret
        exact ⟨ret_int (by rw [HF.out, ← HR.out, groups, if_neg H6.out]; omega), hk⟩

def rleastSaid (c : Nat) : Prop := ∀ (T : Nd) (_ : count T ≤ c) (v : Value) (w : World) (_ : Lies w T v),
    Calls Try.prog 39 #[.agg (Nd.row T v)] w fun e w' => e = .returned (.int .i64 (least T)) ∧ Keep Nb w w'

set_option maxRecDepth 100000 in
set_option maxHeartbeats 2000000 in
theorem rleast_k1 (h : Hd) (l : List Nd) (hk : h.k = 1) (A : Option Addr) (cap : Nat) (w : World) :
    Calls Try.prog 39 #[.agg (Nd.row (.mk h l) (.slice A l.length cap))] w fun e w' => e = .returned (.int .i64 (1)) ∧ Keep Nb w w' := by
  have t1 : (h.k == 1) = true := by rw [hk]; rfl
  have t2 : (h.k == 2) = false := by rw [hk]; rfl
  have t3 : (h.k == 3) = false := by rw [hk]; rfl
  have t6 : (h.k == 6) = false := by rw [hk]; rfl
  have t10 : (h.k == 10) = false := by rw [hk]; rfl
  have t8 : (h.k == 8) = false := by rw [hk]; rfl
  have t9 : (h.k == 9) = false := by rw [hk]; rfl
  clear hk
  rw [Nd.row]
  simp only [Nd.h]
  go_enter Try.func39, Try.ntmps39
  go_wp2_with fail
  go_ret
  exact ⟨rfl, (by repeat (first | assumption | exact Keep.refl _ _ | refine Keep.alloc ?_ _ | refine Keep.drew ?_ | refine Keep.setCell ?_ (Or.inl (by simp)) _ | refine Keep.setRow ?_ (Or.inl (by simp)) _))⟩

set_option maxRecDepth 100000 in
set_option maxHeartbeats 2000000 in
theorem rleast_k2 (h : Hd) (l : List Nd) (hk : h.k = 2) (A : Option Addr) (cap : Nat) (w : World) :
    Calls Try.prog 39 #[.agg (Nd.row (.mk h l) (.slice A l.length cap))] w fun e w' => e = .returned (.int .i64 (1)) ∧ Keep Nb w w' := by
  have t1 : (h.k == 1) = false := by rw [hk]; rfl
  have t2 : (h.k == 2) = true := by rw [hk]; rfl
  have t3 : (h.k == 3) = false := by rw [hk]; rfl
  have t6 : (h.k == 6) = false := by rw [hk]; rfl
  have t10 : (h.k == 10) = false := by rw [hk]; rfl
  have t8 : (h.k == 8) = false := by rw [hk]; rfl
  have t9 : (h.k == 9) = false := by rw [hk]; rfl
  clear hk
  rw [Nd.row]
  simp only [Nd.h]
  go_enter Try.func39, Try.ntmps39
  go_wp2_with fail
  go_ret
  exact ⟨rfl, (by repeat (first | assumption | exact Keep.refl _ _ | refine Keep.alloc ?_ _ | refine Keep.drew ?_ | refine Keep.setCell ?_ (Or.inl (by simp)) _ | refine Keep.setRow ?_ (Or.inl (by simp)) _))⟩

set_option maxRecDepth 100000 in
set_option maxHeartbeats 2000000 in
theorem rleast_k3 (h : Hd) (l : List Nd) (hk : h.k = 3) (A : Option Addr) (cap : Nat) (w : World) :
    Calls Try.prog 39 #[.agg (Nd.row (.mk h l) (.slice A l.length cap))] w fun e w' => e = .returned (.int .i64 (1)) ∧ Keep Nb w w' := by
  have t1 : (h.k == 1) = false := by rw [hk]; rfl
  have t2 : (h.k == 2) = false := by rw [hk]; rfl
  have t3 : (h.k == 3) = true := by rw [hk]; rfl
  have t6 : (h.k == 6) = false := by rw [hk]; rfl
  have t10 : (h.k == 10) = false := by rw [hk]; rfl
  have t8 : (h.k == 8) = false := by rw [hk]; rfl
  have t9 : (h.k == 9) = false := by rw [hk]; rfl
  clear hk
  rw [Nd.row]
  simp only [Nd.h]
  go_enter Try.func39, Try.ntmps39
  go_wp2_with fail
  go_ret
  exact ⟨rfl, (by repeat (first | assumption | exact Keep.refl _ _ | refine Keep.alloc ?_ _ | refine Keep.drew ?_ | refine Keep.setCell ?_ (Or.inl (by simp)) _ | refine Keep.setRow ?_ (Or.inl (by simp)) _))⟩

set_option maxRecDepth 100000 in
set_option maxHeartbeats 2000000 in
theorem rleast_z (h : Hd) (l : List Nd) (n1 : h.k ≠ 1) (n2 : h.k ≠ 2) (n3 : h.k ≠ 3) (n6 : h.k ≠ 6) (n10 : h.k ≠ 10) (n8 : h.k ≠ 8) (n9 : h.k ≠ 9) (A : Option Addr) (cap : Nat) (w : World) :
    Calls Try.prog 39 #[.agg (Nd.row (.mk h l) (.slice A l.length cap))] w fun e w' => e = .returned (.int .i64 (0)) ∧ Keep Nb w w' := by
  have t1 : (h.k == 1) = false := by simp; omega
  have t2 : (h.k == 2) = false := by simp; omega
  have t3 : (h.k == 3) = false := by simp; omega
  have t6 : (h.k == 6) = false := by simp; omega
  have t10 : (h.k == 10) = false := by simp; omega
  have t8 : (h.k == 8) = false := by simp; omega
  have t9 : (h.k == 9) = false := by simp; omega
  rw [Nd.row]
  simp only [Nd.h]
  go_enter Try.func39, Try.ntmps39
  go_wp2_with fail
  go_ret
  exact ⟨rfl, (by repeat (first | assumption | exact Keep.refl _ _ | refine Keep.alloc ?_ _ | refine Keep.drew ?_ | refine Keep.setCell ?_ (Or.inl (by simp)) _ | refine Keep.setRow ?_ (Or.inl (by simp)) _))⟩

set_option maxRecDepth 100000 in
set_option maxHeartbeats 2000000 in
theorem rleast_n6 (h : Hd) (l : List Nd) (hk : h.k = 6) (hl0 : l.length = 0) (A : Option Addr) (cap : Nat) (w : World) :
    Calls Try.prog 39 #[.agg (Nd.row (.mk h l) (.slice A l.length cap))] w fun e w' => e = .returned (.int .i64 (0)) ∧ Keep Nb w w' := by
  have t1 : (h.k == 1) = false := by rw [hk]; rfl
  have t2 : (h.k == 2) = false := by rw [hk]; rfl
  have t3 : (h.k == 3) = false := by rw [hk]; rfl
  have t6 : (h.k == 6) = true := by rw [hk]; rfl
  have t10 : (h.k == 10) = false := by rw [hk]; rfl
  have t8 : (h.k == 8) = false := by rw [hk]; rfl
  have t9 : (h.k == 9) = false := by rw [hk]; rfl
  clear hk
  have e0 : ((l.length : Int) == 0) = true := beq_iff_eq.2 (by omega)
  rw [Nd.row]
  simp only [Nd.h]
  go_enter Try.func39, Try.ntmps39
  go_wp2_with fail
  go_ret
  exact ⟨rfl, (by repeat (first | assumption | exact Keep.refl _ _ | refine Keep.alloc ?_ _ | refine Keep.drew ?_ | refine Keep.setCell ?_ (Or.inl (by simp)) _ | refine Keep.setRow ?_ (Or.inl (by simp)) _))⟩

set_option maxRecDepth 100000 in
set_option maxHeartbeats 2000000 in
theorem rleast_n10 (h : Hd) (l : List Nd) (hk : h.k = 10) (hl0 : l.length = 0) (A : Option Addr) (cap : Nat) (w : World) :
    Calls Try.prog 39 #[.agg (Nd.row (.mk h l) (.slice A l.length cap))] w fun e w' => e = .returned (.int .i64 (0)) ∧ Keep Nb w w' := by
  have t1 : (h.k == 1) = false := by rw [hk]; rfl
  have t2 : (h.k == 2) = false := by rw [hk]; rfl
  have t3 : (h.k == 3) = false := by rw [hk]; rfl
  have t6 : (h.k == 6) = false := by rw [hk]; rfl
  have t10 : (h.k == 10) = true := by rw [hk]; rfl
  have t8 : (h.k == 8) = false := by rw [hk]; rfl
  have t9 : (h.k == 9) = false := by rw [hk]; rfl
  clear hk
  have e0 : ((l.length : Int) == 0) = true := beq_iff_eq.2 (by omega)
  rw [Nd.row]
  simp only [Nd.h]
  go_enter Try.func39, Try.ntmps39
  go_wp2_with fail
  go_ret
  exact ⟨rfl, (by repeat (first | assumption | exact Keep.refl _ _ | refine Keep.alloc ?_ _ | refine Keep.drew ?_ | refine Keep.setCell ?_ (Or.inl (by simp)) _ | refine Keep.setRow ?_ (Or.inl (by simp)) _))⟩

set_option maxRecDepth 100000 in
set_option maxHeartbeats 2000000 in
theorem rleast_n9 (h : Hd) (l : List Nd) (hk : h.k = 9) (hl0 : l.length = 0) (A : Option Addr) (cap : Nat) (w : World) :
    Calls Try.prog 39 #[.agg (Nd.row (.mk h l) (.slice A l.length cap))] w fun e w' => e = .returned (.int .i64 (0)) ∧ Keep Nb w w' := by
  have t1 : (h.k == 1) = false := by rw [hk]; rfl
  have t2 : (h.k == 2) = false := by rw [hk]; rfl
  have t3 : (h.k == 3) = false := by rw [hk]; rfl
  have t6 : (h.k == 6) = false := by rw [hk]; rfl
  have t10 : (h.k == 10) = false := by rw [hk]; rfl
  have t8 : (h.k == 8) = false := by rw [hk]; rfl
  have t9 : (h.k == 9) = true := by rw [hk]; rfl
  clear hk
  have e0 : ((l.length : Int) == 0) = true := beq_iff_eq.2 (by omega)
  rw [Nd.row]
  simp only [Nd.h]
  go_enter Try.func39, Try.ntmps39
  go_wp2_with fail
  go_ret
  exact ⟨rfl, (by repeat (first | assumption | exact Keep.refl _ _ | refine Keep.alloc ?_ _ | refine Keep.drew ?_ | refine Keep.setCell ?_ (Or.inl (by simp)) _ | refine Keep.setRow ?_ (Or.inl (by simp)) _))⟩

set_option maxRecDepth 100000 in
set_option maxHeartbeats 2000000 in
theorem rleast_s6 (h : Hd) (l : List Nd) (hk : h.k = 6) (hlt : 0 < l.length) (c : Nat) (HI : Hid (rleastSaid c)) (hc : countL l ≤ c) (A : Option Addr) (cap : Nat) (w : World) (hL : LiesL w A 0 l) :
    Calls Try.prog 39 #[.agg (Nd.row (.mk h l) (.slice A l.length cap))] w fun e w' => e = .returned (.int .i64 (least l[0])) ∧ Keep Nb w w' := by
  have t1 : (h.k == 1) = false := by rw [hk]; rfl
  have t2 : (h.k == 2) = false := by rw [hk]; rfl
  have t3 : (h.k == 3) = false := by rw [hk]; rfl
  have t6 : (h.k == 6) = true := by rw [hk]; rfl
  have t10 : (h.k == 10) = false := by rw [hk]; rfl
  have t8 : (h.k == 8) = false := by rw [hk]; rfl
  have t9 : (h.k == 9) = false := by rw [hk]; rfl
  clear hk
  have e0 : ((l.length : Int) == 0) = false := beq_eq_false_iff_ne.2 (by omega)
  have p0 : (0 : Int) < (l.length : Int) := by omega
  obtain ⟨b, off, A2, n2, rfl, hten, hS⟩ := hL.at 0 hlt
  rw [Nat.zero_mul, Nat.add_zero] at hten
  obtain ⟨c0, c1, c2, c3, c4, c5, c6, c7, c8, c9, lt⟩ := hten
  have hcx := countL_get_le l 0 hlt
  have hrg := least_range l[0]
  generalize hy : least l[0] = y at *
  have HY := Lib.hid hy; clear hy
  rw [Nd.row]
  simp only [Nd.h]
  go_enter Try.func39, Try.ntmps39
  go_wp2_with fail
  refine (HI.out l[0] (by omega) _ _ (Lies_keep (by repeat (first | assumption | exact Keep.refl _ _ | refine Keep.alloc ?_ _ | refine Keep.drew ?_ | refine Keep.setCell ?_ (Or.inl (by simp)) _ | refine Keep.setRow ?_ (Or.inl (by simp)) _)) hS)).mono ?_
  rw [HY.out]
  generalize hx : l[0] = x0 at *
  clear hx HY
  rintro e w2 ⟨rfl, hk2⟩
  have hs2 := hk2.size
  have hb0 : w2.cell? ⟨w.heap.size, 0, none⟩ = some (.int .i64 h.k) := hk2.cell (by simp) id
  have hb7 : w2.cell? ⟨w.heap.size, 7, none⟩ = some (.int .i64 h.mn) := hk2.cell (by simp) id
  have hs3 : w.heap.size < w2.heap.size := by simp at hs2; omega
  have hk3 : Keep Nb w w2 := Keep.trans (by repeat (first | assumption | exact Keep.refl _ _ | refine Keep.alloc ?_ _ | refine Keep.drew ?_ | refine Keep.setCell ?_ (Or.inl (by simp)) _ | refine Keep.setRow ?_ (Or.inl (by simp)) _)) hk2 (fun _ _ h => h)
  clear hk2 hs2
  go_wp2_with fail
  go_ret
  exact ⟨rfl, hk3⟩

set_option maxRecDepth 100000 in
set_option maxHeartbeats 2000000 in
theorem rleast_s10 (h : Hd) (l : List Nd) (hk : h.k = 10) (hlt : 0 < l.length) (c : Nat) (HI : Hid (rleastSaid c)) (hc : countL l ≤ c) (A : Option Addr) (cap : Nat) (w : World) (hL : LiesL w A 0 l) :
    Calls Try.prog 39 #[.agg (Nd.row (.mk h l) (.slice A l.length cap))] w fun e w' => e = .returned (.int .i64 (often (least l[0]) h.mn)) ∧ Keep Nb w w' := by
  have t1 : (h.k == 1) = false := by rw [hk]; rfl
  have t2 : (h.k == 2) = false := by rw [hk]; rfl
  have t3 : (h.k == 3) = false := by rw [hk]; rfl
  have t6 : (h.k == 6) = false := by rw [hk]; rfl
  have t10 : (h.k == 10) = true := by rw [hk]; rfl
  have t8 : (h.k == 8) = false := by rw [hk]; rfl
  have t9 : (h.k == 9) = false := by rw [hk]; rfl
  clear hk
  have e0 : ((l.length : Int) == 0) = false := beq_eq_false_iff_ne.2 (by omega)
  have p0 : (0 : Int) < (l.length : Int) := by omega
  obtain ⟨b, off, A2, n2, rfl, hten, hS⟩ := hL.at 0 hlt
  rw [Nat.zero_mul, Nat.add_zero] at hten
  obtain ⟨c0, c1, c2, c3, c4, c5, c6, c7, c8, c9, lt⟩ := hten
  have hcx := countL_get_le l 0 hlt
  have hrg := least_range l[0]
  generalize hy : least l[0] = y at *
  have HY := Lib.hid hy; clear hy
  have org := often_range (n := h.mn) hrg.1 hrg.2
  generalize hO : often y h.mn = O at *
  have HO := Lib.hid hO; clear hO
  rw [Nd.row]
  simp only [Nd.h]
  go_enter Try.func39, Try.ntmps39
  go_wp2_with fail
  refine (HI.out l[0] (by omega) _ _ (Lies_keep (by repeat (first | assumption | exact Keep.refl _ _ | refine Keep.alloc ?_ _ | refine Keep.drew ?_ | refine Keep.setCell ?_ (Or.inl (by simp)) _ | refine Keep.setRow ?_ (Or.inl (by simp)) _)) hS)).mono ?_
  rw [HY.out]
  generalize hx : l[0] = x0 at *
  clear hx HY
  rintro e w2 ⟨rfl, hk2⟩
  have hs2 := hk2.size
  have hb0 : w2.cell? ⟨w.heap.size, 0, none⟩ = some (.int .i64 h.k) := hk2.cell (by simp) id
  have hb7 : w2.cell? ⟨w.heap.size, 7, none⟩ = some (.int .i64 h.mn) := hk2.cell (by simp) id
  have hs3 : w.heap.size < w2.heap.size := by simp at hs2; omega
  have hk3 : Keep Nb w w2 := Keep.trans (by repeat (first | assumption | exact Keep.refl _ _ | refine Keep.alloc ?_ _ | refine Keep.drew ?_ | refine Keep.setCell ?_ (Or.inl (by simp)) _ | refine Keep.setRow ?_ (Or.inl (by simp)) _)) hk2 (fun _ _ h => h)
  clear hk2 hs2
  unfold mostLeast at hrg org
  by_cases z1 : h.mn < 1
  · have b1 : decide (h.mn < 1) = true := by simpa using z1
    have e1 : O = 0 := by rw [← HO.out]; simp [often, z1]
    subst e1
    go_wp2_with fail
    go_ret
    exact ⟨rfl, hk3⟩
  have b1 : decide (h.mn < 1) = false := by simpa using z1
  by_cases z2 : y = 0
  · have b2 : (y == 0) = true := by simpa using z2
    have e1 : O = 0 := by rw [← HO.out]; simp [often, z2]
    subst e1
    go_wp2_with fail
    go_ret
    exact ⟨rfl, hk3⟩
  have b2 : (y == 0) = false := by simpa using z2
  by_cases z3 : 2147483647 / y < h.mn
  · have b3 : decide (2147483647 / y < h.mn) = true := by simpa using z3
    have e1 : O = 2147483647 := by rw [← HO.out]; simp [often, z1, z2, mostLeast, z3]
    subst e1
    go_wp2_with fail
    refine wp_region_x (by kernel_rfl) (by kernel_rfl) ?_; (repeat (go_big_quiet_step ((fail)))); refine wpQuiet_nil ?_; rintro w3 ⟨⟨_, hk4⟩, rfl⟩
    have hk23 : Keep Nb w2 w3 := Keep.trans (by repeat (first | assumption | exact Keep.refl _ _ | refine Keep.alloc ?_ _ | refine Keep.drew ?_ | refine Keep.setCell ?_ (Or.inl (by simp)) _ | refine Keep.setRow ?_ (Or.inl (by simp)) _)) hk4 (fun _ _ h => h)
    have hb7' : w3.cell? ⟨w.heap.size, 7, none⟩ = some (.int .i64 h.mn) := hk23.cell hb7 id
    have hs4 : w.heap.size < w3.heap.size := Nat.lt_of_lt_of_le hs3 hk23.size
    go_wp2_with fail
    go_ret
    exact ⟨rfl, hk3.trans hk23 (fun _ _ h => h)⟩
  · have b3 : decide (2147483647 / y < h.mn) = false := by simpa using z3
    have e1 : O = h.mn * y := by rw [← HO.out]; simp [often, z1, z2, mostLeast, z3, Int.mul_comm]
    subst e1
    have b4 : wrap64 (h.mn * y) = h.mn * y := by unfold wrap64; omega
    go_wp2_with fail
    refine wp_region_x (by kernel_rfl) (by kernel_rfl) ?_; (repeat (go_big_quiet_step ((fail)))); refine wpQuiet_nil ?_; rintro w3 ⟨⟨_, hk4⟩, rfl⟩
    have hk23 : Keep Nb w2 w3 := Keep.trans (by repeat (first | assumption | exact Keep.refl _ _ | refine Keep.alloc ?_ _ | refine Keep.drew ?_ | refine Keep.setCell ?_ (Or.inl (by simp)) _ | refine Keep.setRow ?_ (Or.inl (by simp)) _)) hk4 (fun _ _ h => h)
    have hb7' : w3.cell? ⟨w.heap.size, 7, none⟩ = some (.int .i64 h.mn) := hk23.cell hb7 id
    have hs4 : w.heap.size < w3.heap.size := Nat.lt_of_lt_of_le hs3 hk23.size
    go_wp2_with fail
    go_ret
    exact ⟨rfl, hk3.trans hk23 (fun _ _ h => h)⟩

set_option maxRecDepth 100000 in
set_option maxHeartbeats 2000000 in
theorem rleast_l8 (h : Hd) (l : List Nd) (hk : h.k = 8) (hlen : l.length ≤ 1000000) (c : Nat) (HI : Hid (rleastSaid c)) (hc : countL l ≤ c) (A : Option Addr) (cap : Nat) (w : World) (hL : LiesL w A 0 l) :
    Calls Try.prog 39 #[.agg (Nd.row (.mk h l) (.slice A l.length cap))] w fun e w' => e = .returned (.int .i64 (leastS l 0)) ∧ Keep Nb w w' := by
  have t1 : (h.k == 1) = false := by rw [hk]; rfl
  have t2 : (h.k == 2) = false := by rw [hk]; rfl
  have t3 : (h.k == 3) = false := by rw [hk]; rfl
  have t6 : (h.k == 6) = false := by rw [hk]; rfl
  have t10 : (h.k == 10) = false := by rw [hk]; rfl
  have t8 : (h.k == 8) = true := by rw [hk]; rfl
  have t9 : (h.k == 9) = false := by rw [hk]; rfl
  clear hk
  generalize hR : leastS l 0 = R
  have HR := Lib.hid hR; clear hR
  rw [Nd.row]
  simp only [Nd.h]
  go_enter Try.func39, Try.ntmps39
  go_wp2_with fail
  go_loopw [4, 51] (fun K i wr => ∃ (j : Nat) (x : Int), j ≤ l.length ∧ i = .int .i64 j ∧ K = .int .i64 x ∧ 0 ≤ x ∧ x ≤ 2147483647 ∧ Hid (leastS (l.drop j) x = R) ∧ wr.cell? ⟨w.heap.size, 9, none⟩ = some (.slice A l.length cap) ∧ w.heap.size < wr.heap.size ∧ Keep Nb w wr) (fun _ i _ => l.length - (intOf i).toNat)
  case atStart => exact ⟨0, 0, by omega, rfl, rfl, by omega, by omega, HR, by simp, by simp, (by repeat (first | assumption | exact Keep.refl _ _ | refine Keep.alloc ?_ _ | refine Keep.drew ?_ | refine Keep.setCell ?_ (Or.inl (by simp)) _ | refine Keep.setRow ?_ (Or.inl (by simp)) _))⟩
  case round =>
    obtain ⟨j, x, hj, rfl, rfl, hx0, hx1, hH, hbox, hsz, hk'⟩ := hrel
    by_cases hlt : j < l.length
    · obtain ⟨b, off, A2, n2, rfl, hten, hS⟩ := hL.at j hlt
      obtain ⟨c0, c1, c2, c3, c4, c5, c6, c7, c8, c9, lt⟩ := hten.keep hk'
      have hcx := countL_get_le l j hlt
      have hrg := least_range l[j]
      unfold mostLeast at hrg
      have HB : Hid (leastS (l.drop (j + 1)) (min mostLeast (x + least l[j])) = R) := by
        have := hH.out
        rw [List.drop_eq_getElem_cons hlt, leastS] at this
        exact this
      clear hH
      go_wp2_with fail
      refine (HI.out l[j] (by omega) _ _ (Lies_keep (hk'.trans (by repeat (first | assumption | exact Keep.refl _ _ | refine Keep.alloc ?_ _ | refine Keep.drew ?_ | refine Keep.setCell ?_ (Or.inl (by simp)) _ | refine Keep.setRow ?_ (Or.inl (by simp)) _)) (fun _ _ h => h)) hS)).mono ?_
      generalize hy : least l[j] = y at *
      clear hy
      rintro e w2 ⟨rfl, hk2⟩
      have hk3 : Keep Nb wr w2 := Keep.trans (by repeat (first | assumption | exact Keep.refl _ _ | refine Keep.alloc ?_ _ | refine Keep.drew ?_ | refine Keep.setCell ?_ (Or.inl (by simp)) _ | refine Keep.setRow ?_ (Or.inl (by simp)) _)) hk2 (fun _ _ h => h)
      clear hk2
      go_wp2_with fail
      all_goals
        go_roundw
        case rel => exact ⟨j + 1, min 2147483647 (x + y), by omega, by go_num, by first | rfl | go_num | (congr 1; omega), by omega, by omega, HB, hk3.cell hbox id, by have := hk3.size; omega, hk'.trans hk3 (fun _ _ h => h)⟩
        case measure => simp [intOf]; omega
    · obtain rfl : j = l.length := by omega
      have hF := hH.out
      rw [List.drop_length, leastS] at hF
      subst hF
      go_wp2_with fail
      go_ret
      exact ⟨rfl, hk'⟩

set_option maxRecDepth 100000 in
set_option maxHeartbeats 2000000 in
theorem rleast_l9 (h : Hd) (l : List Nd) (hk : h.k = 9) (hlen : l.length ≤ 1000000) (hlt0 : 0 < l.length) (c : Nat) (HI : Hid (rleastSaid c)) (hc : countL l ≤ c) (A : Option Addr) (cap : Nat) (w : World) (hL : LiesL w A 0 l) :
    Calls Try.prog 39 #[.agg (Nd.row (.mk h l) (.slice A l.length cap))] w fun e w' => e = .returned (.int .i64 (leastA l mostLeast)) ∧ Keep Nb w w' := by
  have t1 : (h.k == 1) = false := by rw [hk]; rfl
  have t2 : (h.k == 2) = false := by rw [hk]; rfl
  have t3 : (h.k == 3) = false := by rw [hk]; rfl
  have t6 : (h.k == 6) = false := by rw [hk]; rfl
  have t10 : (h.k == 10) = false := by rw [hk]; rfl
  have t8 : (h.k == 8) = false := by rw [hk]; rfl
  have t9 : (h.k == 9) = true := by rw [hk]; rfl
  clear hk
  have e0 : ((l.length : Int) == 0) = false := beq_eq_false_iff_ne.2 (by omega)
  generalize hR : leastA l mostLeast = R
  have HR := Lib.hid hR; clear hR
  rw [Nd.row]
  simp only [Nd.h]
  go_enter Try.func39, Try.ntmps39
  go_wp2_with fail
  go_loopw [6, 74] (fun K i wr => ∃ (j : Nat) (x : Int), j ≤ l.length ∧ i = .int .i64 j ∧ K = .int .i64 x ∧ 0 ≤ x ∧ x ≤ 2147483647 ∧ Hid (leastA (l.drop j) x = R) ∧ wr.cell? ⟨w.heap.size, 9, none⟩ = some (.slice A l.length cap) ∧ w.heap.size < wr.heap.size ∧ Keep Nb w wr) (fun _ i _ => l.length - (intOf i).toNat)
  case atStart => exact ⟨0, 2147483647, by omega, rfl, rfl, by omega, by omega, HR, by simp, by simp, (by repeat (first | assumption | exact Keep.refl _ _ | refine Keep.alloc ?_ _ | refine Keep.drew ?_ | refine Keep.setCell ?_ (Or.inl (by simp)) _ | refine Keep.setRow ?_ (Or.inl (by simp)) _))⟩
  case round =>
    obtain ⟨j, x, hj, rfl, rfl, hx0, hx1, hH, hbox, hsz, hk'⟩ := hrel
    by_cases hlt : j < l.length
    · obtain ⟨b, off, A2, n2, rfl, hten, hS⟩ := hL.at j hlt
      obtain ⟨c0, c1, c2, c3, c4, c5, c6, c7, c8, c9, lt⟩ := hten.keep hk'
      have hcx := countL_get_le l j hlt
      have hrg := least_range l[j]
      unfold mostLeast at hrg
      have HB : Hid (leastA (l.drop (j + 1)) (min x (least l[j])) = R) := by
        have := hH.out
        rw [List.drop_eq_getElem_cons hlt, leastA] at this
        exact this
      clear hH
      go_wp2_with fail
      refine (HI.out l[j] (by omega) _ _ (Lies_keep (hk'.trans (by repeat (first | assumption | exact Keep.refl _ _ | refine Keep.alloc ?_ _ | refine Keep.drew ?_ | refine Keep.setCell ?_ (Or.inl (by simp)) _ | refine Keep.setRow ?_ (Or.inl (by simp)) _)) (fun _ _ h => h)) hS)).mono ?_
      generalize hy : least l[j] = y at *
      clear hy
      rintro e w2 ⟨rfl, hk2⟩
      have hk3 : Keep Nb wr w2 := Keep.trans (by repeat (first | assumption | exact Keep.refl _ _ | refine Keep.alloc ?_ _ | refine Keep.drew ?_ | refine Keep.setCell ?_ (Or.inl (by simp)) _ | refine Keep.setRow ?_ (Or.inl (by simp)) _)) hk2 (fun _ _ h => h)
      clear hk2
      go_wp2_with fail
      all_goals
        go_roundw
        case rel => exact ⟨j + 1, min x y, by omega, by go_num, by first | rfl | go_num | (congr 1; omega), by omega, by omega, HB, hk3.cell hbox id, by have := hk3.size; omega, hk'.trans hk3 (fun _ _ h => h)⟩
        case measure => simp [intOf]; omega
    · obtain rfl : j = l.length := by omega
      have hF := hH.out
      rw [List.drop_length, leastA] at hF
      subst hF
      go_wp2_with fail
      go_ret
      exact ⟨rfl, hk'⟩

theorem rleast_any : ∀ (c : Nat) (_ : c ≤ 1000000), rleastSaid c
  | 0, _ => fun T h => by have := count_pos T; omega
  | c + 1, hcc => fun T hT v w hl => by
    have HI := Lib.hid (rleast_any c (by omega))
    cases T with
    | mk h l =>
    rw [Lies_mk] at hl
    obtain ⟨A, cap, rfl, hlc, hcap, hL⟩ := hl
    rw [count] at hT
    have hlen := countL_len l
    rw [least]
    by_cases k1 : h.k = 1
    · simpa [k1] using rleast_k1 h l k1 A cap w
    by_cases k2 : h.k = 2
    · simpa [k2] using rleast_k2 h l k2 A cap w
    by_cases k3 : h.k = 3
    · simpa [k3] using rleast_k3 h l k3 A cap w
    rw [if_neg (by omega)]
    by_cases k6 : h.k = 6
    · rw [if_pos (by omega), if_neg (by omega)]
      cases l with
      | nil => exact rleast_n6 h [] k6 rfl A cap w
      | cons x r => exact rleast_s6 h (x :: r) k6 (by simp) c HI (by omega) A cap w hL
    by_cases k10 : h.k = 10
    · rw [if_pos (by omega), if_pos k10]
      cases l with
      | nil => simpa [leastF, often] using rleast_n10 h [] k10 rfl A cap w
      | cons x r => exact rleast_s10 h (x :: r) k10 (by simp) c HI (by omega) A cap w hL
    rw [if_neg (by omega)]
    by_cases k8 : h.k = 8
    · rw [if_pos k8]
      exact rleast_l8 h l k8 (by omega) c HI (by omega) A cap w hL
    rw [if_neg k8]
    by_cases k9 : h.k = 9
    · rw [if_pos k9]
      by_cases l0 : l.length = 0
      · rw [if_pos l0]
        exact rleast_n9 h l k9 l0 A cap w
      · rw [if_neg l0]
        exact rleast_l9 h l k9 (by omega) (by omega) c HI (by omega) A cap w hL
    rw [if_neg k9]
    exact rleast_z h l k1 k2 k3 k6 k10 k8 k9 A cap w

end Go.Proofs.Ytkidjbfapldmbaa
