/- Whether two trees are alike: Same of the reference. -/
import Derived.Test.YtkidjbfapldmbaaTop
import Derived.Test.YtkidjbfapldmbaaQuiet
namespace Go.Proofs.Ytkidjbfapldmbaa
set_option linter.unusedVariables false
set_option linter.unusedSimpArgs false
open Go.RowKit P8

def RSameSaid (c : Nat) : Prop := ∀ (T U : Nd) (_ : count T ≤ c) (v v' : Value) (w : World) (_ : Lies w T v) (_ : Lies w U v'),
    Calls Try.prog 24 #[.agg (Nd.row T v), .agg (Nd.row U v')] w fun e w' => e = .returned (.bool (same T U)) ∧ Keep Nb w w'

set_option maxRecDepth 100000 in
set_option maxHeartbeats 2000000 in
theorem rsame_loop (c : Nat) (HI : Hid (RSameSaid c)) (hc : c ≤ 900000) (T U : Nd) (hcl : countL T.l ≤ c) (hlen : T.l.length ≤ 1000000) (R : Bool) (HR : Hid (R = sameL T.l U.l)) (HL : Hid (T.l.length = U.l.length))
    (A A' : Option Addr) (cap cap' : Nat) (w : World) (h1 : T.l.length ≤ cap) (h1' : U.l.length ≤ cap') (h2 : cap ≤ 2 ^ 63 - 1) (h2' : cap' ≤ 2 ^ 63 - 1) (hL : LiesL w A 0 T.l) (hL' : LiesL w A' 0 U.l)
    (b0 : (T.h.k != U.h.k) = false) (b1 : (T.h.c != U.h.c) = false) (b2 : setEq T.h.s0 T.h.s1 T.h.s2 T.h.s3 U.h.s0 U.h.s1 U.h.s2 U.h.s3 = true) (b3 : (T.h.n != U.h.n) = false) (b4 : (T.h.mn != U.h.mn) = false) (b5 : (T.h.mx != U.h.mx) = false)
    (b6 : ((T.l.length : Int) != (U.l.length : Int)) = false) :
    Calls Try.prog 24 #[.agg (Nd.row T (.slice A T.l.length cap)), .agg (Nd.row U (.slice A' U.l.length cap'))] w fun e w' => e = .returned (.bool R) ∧ Keep Nb w w' := by
  simp only [Nd.row]
  have hlU : U.l.length ≤ 1000000 := by rw [← HL.out]; exact hlen
  go_enter Try.func24, Try.ntmps24
  go_wp2_with fail
  go_loopw [58] (fun i wr => ∃ j : Nat, j ≤ T.l.length ∧ i = .int .i64 j ∧ Hid (R = sameL (T.l.drop j) (U.l.drop j)) ∧ wr.cell? ⟨w.heap.size, 9, none⟩ = some (.slice A T.l.length cap) ∧ wr.cell? ⟨w.heap.size + 1, 9, none⟩ = some (.slice A' U.l.length cap') ∧ w.heap.size + 1 < wr.heap.size ∧ Keep Nb w wr) (fun i _ => T.l.length - (intOf i).toNat)
  case atStart => exact ⟨0, by omega, rfl, Lib.hid (by rw [HR.out]; rfl), by simp, by simp, by simp, (by repeat (first | assumption | exact Keep.refl _ _ | refine Keep.alloc ?_ _ | refine Keep.drew ?_ | refine Keep.setCell ?_ (Or.inl (by simp)) _ | refine Keep.setRow ?_ (Or.inl (by simp)) _))⟩
  case round =>
    obtain ⟨j, hj, rfl, hH, hb, hb', hsz, hk⟩ := hrel
    by_cases hlt : j < T.l.length
    · have hlt' : j < U.l.length := by rw [← HL.out]; exact hlt
      obtain ⟨b, off, A2, n2, rfl, hten, hS⟩ := hL.at j hlt
      obtain ⟨c0, c1, c2, c3, c4, c5, c6, c7, c8, c9, lt⟩ := hten.keep hk
      obtain ⟨b', off', A2', n2', rfl, hten', hS'⟩ := hL'.at j hlt'
      obtain ⟨c0', c1', c2', c3', c4', c5', c6', c7', c8', c9', lt'⟩ := hten'.keep hk
      have hcj := countL_get_le T.l j hlt
      have hi0 : (0 : Int) ≤ (j : Int) := by omega
      have hi1 : (j : Int) < (T.l.length : Int) := by omega
      have hi2 : (j : Int) < (U.l.length : Int) := by omega
      have hbs : w.heap.size < wr.heap.size := by omega
      have hHI := HI.out T.l[j] U.l[j] (by omega)
      have hst := sameL_step j hlt hlt'
      have hH2 := hH.out
      rw [hst] at hH2
      generalize hy : same T.l[j] U.l[j] = y at hH2 hHI
      have HHI := Lib.hid hHI
      have HH := Lib.hid hH2; clear hH2 hst hH hy hHI
      go_wp2_with fail
      refine wp_region_x (by kernel_rfl) (by kernel_rfl) ?_; (repeat (go_big_quiet_step ((go_at_call 24; exact Calls.ext _ (HHI.out _ _ _ (Lies_keep (hk.trans (Ext.property _) (fun _ _ h => h)) hS) (Lies_keep (hk.trans (Ext.property _) (fun _ _ h => h)) hS')))))); refine wpQuiet_nil ?_; rintro w2 ⟨⟨_, hk2⟩, rfl⟩
      have hk3 : Keep Nb w w2 := hk.trans hk2 (fun _ _ h => h)
      cases y with
      | false =>
        go_wp2_with fail
        go_ret
        exact ⟨ret_bool (by rw [HH.out]; simp), hk3⟩
      | true =>
        go_wp2_with fail
        go_roundw
        case rel => exact ⟨j + 1, by omega, by go_num, Lib.hid (by rw [HH.out]; simp), hk2.cell hb id, hk2.cell hb' id, by have := hk2.size; omega, hk3⟩
        case measure => simp [intOf]; omega
    · obtain rfl : j = T.l.length := by omega
      have hF := hH.out
      rw [List.drop_length, HL.out, List.drop_length, sameL] at hF
      have HF := Lib.hid hF; clear hF hH
      go_wp2_with fail
      go_ret
      exact ⟨ret_bool (by rw [HF.out]), hk⟩

set_option maxRecDepth 100000 in
set_option maxHeartbeats 4000000 in
theorem rsame_step (c : Nat) (HI : Hid (RSameSaid c)) (hc : c ≤ 900000) : RSameSaid (c + 1) := by
  intro T U hd v v' w hl hl'
  rw [Lies_def] at hl hl'
  obtain ⟨A, cap, rfl, h1, h2, hL⟩ := hl
  obtain ⟨A', cap', rfl, h1', h2', hL'⟩ := hl'
  have hlen : T.l.length ≤ 1000000 := by cases T; rw [count] at hd; have := countL_len ‹_›; simp only [Nd.l]; omega
  have hcl : countL T.l ≤ c := by cases T; rw [count] at hd; simp only [Nd.l]; omega
  unfold maxLen at *
  generalize hR : same T U = R
  have HR := Lib.hid hR; clear hR
  simp only [Nd.row]
  by_cases e0 : T.h.k = U.h.k
  · skip
    by_cases e1 : T.h.c = U.h.c
    · skip
      by_cases e2 : setEq T.h.s0 T.h.s1 T.h.s2 T.h.s3 U.h.s0 U.h.s1 U.h.s2 U.h.s3 = true
      · skip
        by_cases e3 : T.h.n = U.h.n
        · skip
          by_cases e4 : T.h.mn = U.h.mn
          · skip
            by_cases e5 : T.h.mx = U.h.mx
            · skip
              by_cases e6 : T.l.length = U.l.length
              · skip
                have b0 : (T.h.k != U.h.k) = false := by simpa using e0
                have b1 : (T.h.c != U.h.c) = false := by simpa using e1
                have b2 : setEq T.h.s0 T.h.s1 T.h.s2 T.h.s3 U.h.s0 U.h.s1 U.h.s2 U.h.s3 = true := by exact e2
                have b3 : (T.h.n != U.h.n) = false := by simpa using e3
                have b4 : (T.h.mn != U.h.mn) = false := by simpa using e4
                have b5 : (T.h.mx != U.h.mx) = false := by simpa using e5
                have b6 : ((T.l.length : Int) != (U.l.length : Int)) = false := by simp; omega
                have hT : T.h = U.h := by rw [← headEq_iff, headEq_parts]; simp [e0, e1, e2, e3, e4, e5]
                have HR2 : R = sameL T.l U.l := by rw [← HR.out]; cases T; cases U; rw [same]; simp only [Nd.h] at hT; simp [hT, Nd.l]
                have E0 := Lib.hid e0; clear e0
                have E1 := Lib.hid e1; clear e1
                have E2 := Lib.hid e2; clear e2
                have E3 := Lib.hid e3; clear e3
                have E4 := Lib.hid e4; clear e4
                have E5 := Lib.hid e5; clear e5
                have E6 := Lib.hid e6; clear e6
                have H2 := Lib.hid HR2; clear HR2 hT
                exact rsame_loop c HI hc T U hcl hlen R H2 E6 A A' cap cap' w h1 h1' h2 h2' hL hL' b0 b1 b2 b3 b4 b5 b6
              · skip
                have b0 : (T.h.k != U.h.k) = false := by simpa using e0
                have b1 : (T.h.c != U.h.c) = false := by simpa using e1
                have b2 : setEq T.h.s0 T.h.s1 T.h.s2 T.h.s3 U.h.s0 U.h.s1 U.h.s2 U.h.s3 = true := by exact e2
                have b3 : (T.h.n != U.h.n) = false := by simpa using e3
                have b4 : (T.h.mn != U.h.mn) = false := by simpa using e4
                have b5 : (T.h.mx != U.h.mx) = false := by simpa using e5
                have b6 : ((T.l.length : Int) != (U.l.length : Int)) = true := by simp; omega
                have HF : R = false := by rw [← HR.out]; cases T; cases U; rw [same]; simp only [Nd.h, Nd.l] at *; rw [sameL_len e6]; simp
                have E0 := Lib.hid e0; clear e0
                have E1 := Lib.hid e1; clear e1
                have E2 := Lib.hid e2; clear e2
                have E3 := Lib.hid e3; clear e3
                have E4 := Lib.hid e4; clear e4
                have E5 := Lib.hid e5; clear e5
                have E6 := Lib.hid e6; clear e6
                subst HF
                clear HI HR
                go_enter Try.func24, Try.ntmps24
                go_wp2_with fail
                go_ret
                exact ⟨rfl, (by repeat (first | assumption | exact Keep.refl _ _ | refine Keep.alloc ?_ _ | refine Keep.drew ?_ | refine Keep.setCell ?_ (Or.inl (by simp)) _ | refine Keep.setRow ?_ (Or.inl (by simp)) _))⟩
            · skip
              have b0 : (T.h.k != U.h.k) = false := by simpa using e0
              have b1 : (T.h.c != U.h.c) = false := by simpa using e1
              have b2 : setEq T.h.s0 T.h.s1 T.h.s2 T.h.s3 U.h.s0 U.h.s1 U.h.s2 U.h.s3 = true := by exact e2
              have b3 : (T.h.n != U.h.n) = false := by simpa using e3
              have b4 : (T.h.mn != U.h.mn) = false := by simpa using e4
              have b5 : (T.h.mx != U.h.mx) = true := by simpa using e5
              have HF : R = false := by rw [← HR.out]; cases T; cases U; rw [same]; simp only [Nd.h, Nd.l] at *; simp only [Bool.and_eq_false_iff, decide_eq_false_iff_not]; left; intro e; rw [e] at e5; exact e5 rfl
              have E0 := Lib.hid e0; clear e0
              have E1 := Lib.hid e1; clear e1
              have E2 := Lib.hid e2; clear e2
              have E3 := Lib.hid e3; clear e3
              have E4 := Lib.hid e4; clear e4
              have E5 := Lib.hid e5; clear e5
              subst HF
              clear HI HR
              go_enter Try.func24, Try.ntmps24
              go_wp2_with fail
              go_ret
              exact ⟨rfl, (by repeat (first | assumption | exact Keep.refl _ _ | refine Keep.alloc ?_ _ | refine Keep.drew ?_ | refine Keep.setCell ?_ (Or.inl (by simp)) _ | refine Keep.setRow ?_ (Or.inl (by simp)) _))⟩
          · skip
            have b0 : (T.h.k != U.h.k) = false := by simpa using e0
            have b1 : (T.h.c != U.h.c) = false := by simpa using e1
            have b2 : setEq T.h.s0 T.h.s1 T.h.s2 T.h.s3 U.h.s0 U.h.s1 U.h.s2 U.h.s3 = true := by exact e2
            have b3 : (T.h.n != U.h.n) = false := by simpa using e3
            have b4 : (T.h.mn != U.h.mn) = true := by simpa using e4
            have HF : R = false := by rw [← HR.out]; cases T; cases U; rw [same]; simp only [Nd.h, Nd.l] at *; simp only [Bool.and_eq_false_iff, decide_eq_false_iff_not]; left; intro e; rw [e] at e4; exact e4 rfl
            have E0 := Lib.hid e0; clear e0
            have E1 := Lib.hid e1; clear e1
            have E2 := Lib.hid e2; clear e2
            have E3 := Lib.hid e3; clear e3
            have E4 := Lib.hid e4; clear e4
            subst HF
            clear HI HR
            go_enter Try.func24, Try.ntmps24
            go_wp2_with fail
            go_ret
            exact ⟨rfl, (by repeat (first | assumption | exact Keep.refl _ _ | refine Keep.alloc ?_ _ | refine Keep.drew ?_ | refine Keep.setCell ?_ (Or.inl (by simp)) _ | refine Keep.setRow ?_ (Or.inl (by simp)) _))⟩
        · skip
          have b0 : (T.h.k != U.h.k) = false := by simpa using e0
          have b1 : (T.h.c != U.h.c) = false := by simpa using e1
          have b2 : setEq T.h.s0 T.h.s1 T.h.s2 T.h.s3 U.h.s0 U.h.s1 U.h.s2 U.h.s3 = true := by exact e2
          have b3 : (T.h.n != U.h.n) = true := by simpa using e3
          have HF : R = false := by rw [← HR.out]; cases T; cases U; rw [same]; simp only [Nd.h, Nd.l] at *; simp only [Bool.and_eq_false_iff, decide_eq_false_iff_not]; left; intro e; rw [e] at e3; exact e3 rfl
          have E0 := Lib.hid e0; clear e0
          have E1 := Lib.hid e1; clear e1
          have E2 := Lib.hid e2; clear e2
          have E3 := Lib.hid e3; clear e3
          subst HF
          clear HI HR
          go_enter Try.func24, Try.ntmps24
          go_wp2_with fail
          go_ret
          exact ⟨rfl, (by repeat (first | assumption | exact Keep.refl _ _ | refine Keep.alloc ?_ _ | refine Keep.drew ?_ | refine Keep.setCell ?_ (Or.inl (by simp)) _ | refine Keep.setRow ?_ (Or.inl (by simp)) _))⟩
      · skip
        have b0 : (T.h.k != U.h.k) = false := by simpa using e0
        have b1 : (T.h.c != U.h.c) = false := by simpa using e1
        have b2 : setEq T.h.s0 T.h.s1 T.h.s2 T.h.s3 U.h.s0 U.h.s1 U.h.s2 U.h.s3 = false := by simpa using e2
        have HF : R = false := by rw [← HR.out]; cases T; cases U; rw [same]; simp only [Nd.h, Nd.l] at *; simp only [Bool.and_eq_false_iff, decide_eq_false_iff_not]; left; intro e; rw [e] at e2; exact e2 (by simp [setEq])
        have E0 := Lib.hid e0; clear e0
        have E1 := Lib.hid e1; clear e1
        have E2 := Lib.hid e2; clear e2
        subst HF
        clear HI HR
        go_enter Try.func24, Try.ntmps24
        go_wp2_with fail
        go_ret
        exact ⟨rfl, (by repeat (first | assumption | exact Keep.refl _ _ | refine Keep.alloc ?_ _ | refine Keep.drew ?_ | refine Keep.setCell ?_ (Or.inl (by simp)) _ | refine Keep.setRow ?_ (Or.inl (by simp)) _))⟩
    · skip
      have b0 : (T.h.k != U.h.k) = false := by simpa using e0
      have b1 : (T.h.c != U.h.c) = true := by simpa using e1
      have HF : R = false := by rw [← HR.out]; cases T; cases U; rw [same]; simp only [Nd.h, Nd.l] at *; simp only [Bool.and_eq_false_iff, decide_eq_false_iff_not]; left; intro e; rw [e] at e1; exact e1 rfl
      have E0 := Lib.hid e0; clear e0
      have E1 := Lib.hid e1; clear e1
      subst HF
      clear HI HR
      go_enter Try.func24, Try.ntmps24
      go_wp2_with fail
      go_ret
      exact ⟨rfl, (by repeat (first | assumption | exact Keep.refl _ _ | refine Keep.alloc ?_ _ | refine Keep.drew ?_ | refine Keep.setCell ?_ (Or.inl (by simp)) _ | refine Keep.setRow ?_ (Or.inl (by simp)) _))⟩
  · skip
    have b0 : (T.h.k != U.h.k) = true := by simpa using e0
    have HF : R = false := by rw [← HR.out]; cases T; cases U; rw [same]; simp only [Nd.h, Nd.l] at *; simp only [Bool.and_eq_false_iff, decide_eq_false_iff_not]; left; intro e; rw [e] at e0; exact e0 rfl
    have E0 := Lib.hid e0; clear e0
    subst HF
    clear HI HR
    go_enter Try.func24, Try.ntmps24
    go_wp2_with fail
    go_ret
    exact ⟨rfl, (by repeat (first | assumption | exact Keep.refl _ _ | refine Keep.alloc ?_ _ | refine Keep.drew ?_ | refine Keep.setCell ?_ (Or.inl (by simp)) _ | refine Keep.setRow ?_ (Or.inl (by simp)) _))⟩

theorem rsame_any : ∀ (c : Nat) (_ : c ≤ 900000), RSameSaid c
  | 0, _ => fun T U h => by have := count_pos T; omega
  | c + 1, h => rsame_step c (rsame_any c (by omega)) (by omega)

end Go.Proofs.Ytkidjbfapldmbaa
