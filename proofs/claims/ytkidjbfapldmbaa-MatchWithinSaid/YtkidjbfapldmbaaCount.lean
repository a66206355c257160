/- What the functions that only measure a tree come to: Few, Count, Deep, Groups, of the program and of the reference. -/
import Derived.Test.YtkidjbfapldmbaaBase
namespace Go.Proofs.Ytkidjbfapldmbaa
set_option linter.unusedVariables false
set_option linter.unusedSimpArgs false
open Go.RowKit P8

theorem ret_int {k : IntKind} {a b : Int} (h : a = b) : Ending.returned (.int k a) = .returned (.int k b) := by rw [h]
theorem ret_bool {a b : Bool} (h : a = b) : Ending.returned (.bool a) = .returned (.bool b) := by rw [h]

theorem bounded_pos (h : Hd) (l : List Nd) {D : Int} (hD : 0 < D) (left : Int) : bounded (.mk h l) D.toNat left = boundedL l (D - 1).toNat (left - 1) := by
  obtain ⟨d, rfl⟩ : ∃ d : Nat, D = (d : Int) + 1 := ⟨(D - 1).toNat, by omega⟩
  rw [show ((d : Int) + 1).toNat = d + 1 by omega, bounded, show ((d : Int) + 1 - 1).toNat = d by omega]

theorem max0 {x : Int} (h : 0 ≤ x) : max x 0 = x := by omega
theorem max0' {x : Int} (h : x < 0) : max x 0 = 0 := by omega

set_option maxHeartbeats 1000000 in
theorem bounded_any (c : Nat) : ∀ (T : Nd) (_ : count T ≤ c) (D : Int) (_ : 0 ≤ D) (_ : D ≤ 100) (left : Int) (_ : -9 ≤ left) (_ : left ≤ 1000) (v : Value) (w : World) (_ : Lies w T v),
    Calls Try.prog 58 #[.agg (Nd.row T v), .int .i64 D, .int .i64 left] w fun e w' => e = .returned (.int .i64 (bounded T D.toNat left)) ∧ Keep Nb w w' := by
  induction c with
  | zero => intro T hd; have := count_pos T; omega
  | succ c ih =>
  intro T hd D hd0 hd' left hl0 hl1 v w hl
  cases T with
  | mk h l =>
  rw [Lies_mk] at hl
  obtain ⟨A, cap, rfl, hlc, hcap, hL⟩ := hl
  unfold maxLen at hcap
  rw [count] at hd
  rw [Nd.row]
  have HI := Lib.hid ih
  clear ih
  by_cases hD : D = 0
  · subst hD
    go_enter Try.func58, Try.ntmps58
    go_wp2_with fail
    go_ret
    exact ⟨rfl, (by repeat (first | assumption | exact Keep.refl _ _ | refine Keep.alloc ?_ _ | refine Keep.drew ?_ | refine Keep.setCell ?_ (Or.inl (by simp)) _ | refine Keep.setRow ?_ (Or.inl (by simp)) _))⟩
  · rw [bounded_pos h l (by omega)]
    have hDb : (D == 0) = false := by simpa using hD
    generalize hR : boundedL l (D - 1).toNat (left - 1) = R
    have HR := Lib.hid hR; clear hR
    go_enter Try.func58, Try.ntmps58
    go_wp2_with fail
    go_loopw [2, 15] (fun L i wr => ∃ (j : Nat) (x : Int), j ≤ l.length ∧ i = .int .i64 j ∧ L = .int .i64 x ∧ -10 ≤ x ∧ x ≤ 1000 ∧ Hid (R = boundedL (l.drop j) (D - 1).toNat x) ∧ wr.cell? ⟨w.heap.size, 9, none⟩ = some (.slice A l.length cap) ∧ w.heap.size < wr.heap.size ∧ Keep Nb w wr) (fun _ i _ => l.length - (intOf i).toNat)
    case atStart => exact ⟨0, left - 1, by omega, rfl, rfl, by omega, by omega, Lib.hid (by rw [← HR.out]; rfl), by simp, by simp, (by repeat (first | assumption | exact Keep.refl _ _ | refine Keep.alloc ?_ _ | refine Keep.drew ?_ | refine Keep.setCell ?_ (Or.inl (by simp)) _ | refine Keep.setRow ?_ (Or.inl (by simp)) _))⟩
    case round =>
      obtain ⟨j, x, hj, rfl, rfl, hx0, hx1, hH, hbox, hsz, hk⟩ := hrel
      by_cases hlt : j < l.length
      · obtain ⟨b, off, A2, n2, rfl, hten, hS⟩ := hL.at j hlt
        obtain ⟨c0, c1, c2, c3, c4, c5, c6, c7, c8, c9, lt⟩ := hten.keep hk
        have hc := countL_get_le l j hlt
        by_cases hx : x ≤ 0
        · go_wp2_with fail
          go_ret
          exact ⟨ret_int (by rw [hH.out, List.drop_eq_getElem_cons hlt, boundedL, if_pos hx]), hk⟩
        · go_wp2_with fail
          refine (HI.out l[j] (by omega) (D - 1) (by omega) (by omega) x (by omega) (by omega) _ _ (Lies_keep hk hS)).mono ?_
          have hr := bounded_range l[j] (D - 1).toNat x
          generalize hy : bounded l[j] (D - 1).toNat x = y at hr ⊢
          have HY := Lib.hid hy; clear hy
          rintro e w2 ⟨rfl, hk2⟩
          go_wp2_with fail
          go_roundw
          case rel => exact ⟨j + 1, _, by omega, by go_num, rfl, by omega, by omega, Lib.hid (by rw [hH.out, List.drop_eq_getElem_cons hlt, boundedL, if_neg (by omega), HY.out]), hk2.cell hbox id, by have := hk2.size; omega, hk.trans hk2 (fun _ _ h => h)⟩
          case measure => simp [intOf]; omega
      · obtain rfl : j = l.length := by omega
        go_wp2_with fail
        all_goals
          go_ret
          exact ⟨ret_int (by rw [hH.out, List.drop_length, boundedL]; omega), hk⟩

end Go.Proofs.Ytkidjbfapldmbaa
