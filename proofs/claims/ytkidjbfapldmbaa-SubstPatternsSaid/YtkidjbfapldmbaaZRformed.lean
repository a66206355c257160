import Derived.Test.YtkidjbfapldmbaaZRwalk4
import Derived.Test.YtkidjbfapldmbaaZRwalk1
import Derived.Test.YtkidjbfapldmbaaZRwalk2
import Derived.Test.YtkidjbfapldmbaaZRwalk3
import Derived.Deep.DeepCutAuto
import Derived.Deep.CutBlock
import Derived.Test.YtkidjbfapldmbaaZFormed
set_option linter.unusedVariables false
set_option linter.unusedSimpArgs false
namespace Go.Proofs.Ytkidjbfapldmbaa
open Go.RowKit P8
theorem rwalk_any : ∀ (c : Nat) (_ : c ≤ 900000), RWalkSaid c
 | 0, _ => fun T h => by have := count_pos T; omega
 | c + 1, hc => fun T hd s hg0 hg1 v w hl => by
  have hl' := hl
  obtain ⟨A, cap, rfl, h1, h2, hL⟩ := Lies_def.1 hl
  have HP := plain_any T (.slice A T.l.length cap)
  have hlen : T.l.length ≤ 1000000 := by cases T; rw [count] at hd; have := countL_len ‹_›; simp only [Nd.l]; omega
  have hcl : countL T.l ≤ c := by cases T; rw [count] at hd; simp only [Nd.l]; omega
  have hcT : count T = 1 + countL T.l := by cases T; rw [count]; rfl
  cases ho : own T s with
  | true =>
   have hok : headOk T = true := by simp only [own, Bool.and_eq_true] at ho; exact ho.1
   rw [hok] at HP
   exact rwalk_ok c (by omega) (Lib.hid (rwalk_any c (by omega))) T hcl hcT s hg0 hg1 A cap w hl' hlen ho hL _ (Lib.hid (allT_ok ho)) (Lib.hid HP)
  | false =>
   have hR2 : allT T s = (false, ownS T s) := by obtain ⟨h', l⟩ := T; rw [allT, if_pos ho]
   rw [hR2]
   have M : ∀ {s' : Chk} {e : Ending} {w' : World}, (e = .returned (.tuple #[.int .i64 s'.g, .agg (boolRow s'.E), .bool false]) ∧ Keep Nb w w') →
     (e = .returned (.tuple #[.int .i64 s'.g, .agg (boolRow s'.E), .bool (false, ownS T s).1]) ∧ ((false, ownS T s).1 = true → s' = (false, ownS T s).2) ∧ Keep Nb w w') := fun h => ⟨h.1, (fun h => by cases h), h.2⟩
   cases hok : headOk T with
   | false => rw [hok] at HP; exact (rwalk_no T s A cap w hl' (Lib.hid HP)).mono fun e w' ⟨s', h⟩ => ⟨s', M h⟩
   | true =>
    rw [hok] at HP
    have HP := Lib.hid HP
    have hkd : kidsOf T.h.k < 0 ∨ kidsOf T.h.k = T.l.length := by
     have h := hok
     simp only [headOk, decide_eq_true_eq] at h
     exact h.2.2.2
    simp only [own, hok, Bool.true_and] at ho
    by_cases k6 : T.h.k = 6
    ·simp only [k6, if_true, decide_eq_false_iff_not] at ho
     by_cases f : 9 < s.g + 1
     ·exact (rwalk_6a T s A cap k6 hg0 (by omega) (by simpa using f) w hl' HP).mono fun e w' ⟨s', h⟩ => ⟨s', M h⟩
     ·exact (rwalk_6b T s A cap k6 hg0 (by omega) (by simpa using f) (by simpa using fun h => ho ⟨by omega, h⟩) w hl' HP).mono fun e w' ⟨s', h⟩ => ⟨s', M h⟩
    rw [if_neg k6] at ho
    by_cases k7 : T.h.k = 7
    ·rw [if_pos k7] at ho
     by_cases f1 : T.h.n < 1
     ·exact (rwalk_7a T s A cap k7 (by simpa using f1) w hl' HP).mono fun e w' ⟨s', h⟩ => ⟨s', M h⟩
     by_cases f2 : 9 < T.h.n
     ·exact (rwalk_7b T s A cap k7 (by simpa using f1) (by simpa using f2) w hl' HP).mono fun e w' ⟨s', h⟩ => ⟨s', M h⟩
     have hd1 : decide (0 < T.h.n ∧ T.h.n ≤ 9) = true := by simp; omega
     rw [hd1, Bool.true_and] at ho
     exact (rwalk_7c T s A cap k7 (by omega) (by omega) ho w hl' HP).mono fun e w' ⟨s', h⟩ => ⟨s', M h⟩
    rw [if_neg k7] at ho
    by_cases k8 : T.h.k = 8
    ·rw [if_pos k8, decide_eq_false_iff_not] at ho
     exact (rwalk_8 T s A cap k8 (by simp; omega) w hl' HP).mono fun e w' ⟨s', h⟩ => ⟨s', M h⟩
    rw [if_neg k8] at ho
    by_cases k9 : T.h.k = 9
    ·rw [if_pos k9, decide_eq_false_iff_not] at ho
     exact (rwalk_9 T s A cap k9 (by simp; omega) w hl' HP).mono fun e w' ⟨s', h⟩ => ⟨s', M h⟩
    rw [if_neg k9] at ho
    by_cases k10 : T.h.k = 10
    ·rw [if_pos k10] at ho
     have hlt : 0 < T.l.length := by
      have : kidsOf T.h.k = 1 := by rw [k10]; rfl
      omega
     have hl0 : (0 : Int) < (T.l.length : Int) := by omega
     rw [List.getElem?_eq_getElem hlt] at ho
     obtain ⟨b, off, A2, n2, rfl, hten, hS0⟩ := hL.at 0 hlt
     rw [Nat.zero_mul, Nat.add_zero] at hten
     have hx : boundsOk T.h = true → T.l[0].h.k = 4 ∨ T.l[0].h.k = 5 ∨ T.l[0].h.k = 10 := fun hb => by
      rw [hb, Bool.true_and, decide_eq_false_iff_not] at ho
      simp at ho
      by_cases h4 : T.l[0].h.k = 4
      ·exact .inl h4
      by_cases h5 : T.l[0].h.k = 5
      ·exact .inr (.inl h5)
      exact .inr (.inr (ho h4 h5))
     clear ho
     generalize T.l[0] = x0 at *
     simp only [boundsOk, decide_eq_true_eq] at hx
     by_cases q0 : T.h.mn < 0
     ·exact (rwalk_10a T s cap b off k10 w x0 _ hten hl0 (by simpa using q0) hl' HP).mono fun e w' ⟨s', h⟩ => ⟨s', M h⟩
     have p0 : decide (T.h.mn < 0) = false := by simpa using q0
     by_cases q1 : 255 < T.h.mn
     ·exact (rwalk_10b T s cap b off k10 w x0 _ hten hl0 p0 (by simpa using q1) hl' HP).mono fun e w' ⟨s', h⟩ => ⟨s', M h⟩
     have p1 : decide (255 < T.h.mn) = false := by simpa using q1
     by_cases q2 : T.h.mx = -1
     ·have p2 : (T.h.mx != -1) = false := by simpa using q2
      have hx := hx ⟨by omega, by omega, .inl q2⟩
      by_cases h4 : x0.h.k = 4
      ·exact (rwalk_10e T s cap b off k10 w x0 _ hten hl0 p0 p1 p2 (by simpa using h4) hl' HP).mono fun e w' ⟨s', h⟩ => ⟨s', M h⟩
      by_cases h5 : x0.h.k = 5
      ·exact (rwalk_10f T s cap b off k10 w x0 _ hten hl0 p0 p1 p2 (by simpa using h4) (by simpa using h5) hl' HP).mono fun e w' ⟨s', h⟩ => ⟨s', M h⟩
      exact (rwalk_10g T s cap b off k10 w x0 _ hten hl0 p0 p1 p2 (by simpa using h4) (by simpa using h5) (by simp; omega) hl' HP).mono fun e w' ⟨s', h⟩ => ⟨s', M h⟩
     have p2 : (T.h.mx != -1) = true := by simpa using q2
     by_cases q3 : T.h.mx < T.h.mn
     ·exact (rwalk_10c T s cap b off k10 w x0 _ hten hl0 p0 p1 p2 (by simpa using q3) hl' HP).mono fun e w' ⟨s', h⟩ => ⟨s', M h⟩
     have p3 : decide (T.h.mx < T.h.mn) = false := by simpa using q3
     by_cases q4 : 255 < T.h.mx
     ·exact (rwalk_10d T s cap b off k10 w x0 _ hten hl0 p0 p1 p2 p3 (by simpa using q4) hl' HP).mono fun e w' ⟨s', h⟩ => ⟨s', M h⟩
     have p4 : decide (255 < T.h.mx) = false := by simpa using q4
     have hx := hx ⟨by omega, by omega, .inr ⟨by omega, by omega⟩⟩
     by_cases h4 : x0.h.k = 4
     ·exact (rwalk_10h T s cap b off k10 w x0 _ hten hl0 p0 p1 p2 p3 p4 (by simpa using h4) hl' HP).mono fun e w' ⟨s', h⟩ => ⟨s', M h⟩
     by_cases h5 : x0.h.k = 5
     ·exact (rwalk_10i T s cap b off k10 w x0 _ hten hl0 p0 p1 p2 p3 p4 (by simpa using h4) (by simpa using h5) hl' HP).mono fun e w' ⟨s', h⟩ => ⟨s', M h⟩
     exact (rwalk_10j T s cap b off k10 w x0 _ hten hl0 p0 p1 p2 p3 p4 (by simpa using h4) (by simpa using h5) (by simp; omega) hl' HP).mono fun e w' ⟨s', h⟩ => ⟨s', M h⟩
    rw [if_neg k10] at ho
    cases ho
set_option maxHeartbeats 2000000 in
theorem rformed_any (T : Nd) (hc : count T ≤ 900000) (v : Value) (w : World) (hl : Lies w T v) :
  Calls Try.prog 31 #[.agg (Nd.row T v)] w fun e w' => e = .returned (.bool (formedT T)) ∧ Keep Nb w w' := by
 have hcn := fun wx => rcount_any (count T) T (Nat.le_refl _) (by omega) v wx
 have hdp := fun wx => rdeep_any (count T) T (Nat.le_refl _) (by omega) v wx
 have hal := rwalk_any (count T) hc T (Nat.le_refl _) ⟨0, fun _ => false⟩ (by simp) (by simp; omega) v
 have hdc := deep_le T
 generalize hR : formedT T = R
 unfold formedT at hR
 generalize count T = n at *
 generalize deep T = d at *
 generalize allT T ⟨0, fun _ => false⟩ = r at *
 obtain ⟨r1, r2⟩ := r
 simp only [boolRow] at hal
 have HCN := Lib.hid hcn; clear hcn
 have HDP := Lib.hid hdp; clear hdp
 have HAL := Lib.hid hal; clear hal
 have hlt := Lies_def.1 hl
 obtain ⟨A, cap, rfl, _⟩ := hlt
 have HR := Lib.hid hR; clear hR
 simp only [Nd.row]
 by_cases e1 : n ≤ 200
 ·have m1 : decide (200 < (n : Int)) = false := by simp; omega
  by_cases e2 : d ≤ 10
  ·have m3 : decide (10 < (d : Int)) = false := by simp; omega
   go_enter Try.func31, Try.ntmps31
   go_wp2_with fail
   refine (HCN.out _ (Lies_keep kp hl)).mono ?_
   rintro e w2 ⟨rfl, hk2⟩
   have hbx := (Blk.new w _ _).keep hk2 id
   have hk2' : Keep Nb w w2 := Keep.trans kp hk2 (fun _ _ h => h)
   have hs2 := hbx.lt
   (have o0 := Blk.cell hbx 0 (u := .int .i64 T.h.k) rfl; have o1 := Blk.cell hbx 1 (u := .int .u8 T.h.c) rfl; have o2 := Blk.cell hbx 2 (u := .int .u64 T.h.s0) rfl; have o3 := Blk.cell hbx 3 (u := .int .u64 T.h.s1) rfl; have o4 := Blk.cell hbx 4 (u := .int .u64 T.h.s2) rfl; have o5 := Blk.cell hbx 5 (u := .int .u64 T.h.s3) rfl; have o6 := Blk.cell hbx 6 (u := .int .i64 T.h.n) rfl; have o7 := Blk.cell hbx 7 (u := .int .i64 T.h.mn) rfl; have o8 := Blk.cell hbx 8 (u := .int .i64 T.h.mx) rfl; have o9 := Blk.cell hbx 9 (u := (.slice A T.l.length cap)) rfl)
   go_wp2_with fail
   refine (HDP.out _ (Lies_keep hk2' hl)).mono ?_
   rintro e w3 ⟨rfl, hk3⟩
   have hbx3 := hbx.keep hk3 id
   have hs3 := hbx3.lt
   have hk3' : Keep Nb w w3 := hk2'.trans hk3 (fun _ _ h => h)
   (have p0 := Blk.cell hbx3 0 (u := .int .i64 T.h.k) rfl; have p1 := Blk.cell hbx3 1 (u := .int .u8 T.h.c) rfl; have p2 := Blk.cell hbx3 2 (u := .int .u64 T.h.s0) rfl; have p3 := Blk.cell hbx3 3 (u := .int .u64 T.h.s1) rfl; have p4 := Blk.cell hbx3 4 (u := .int .u64 T.h.s2) rfl; have p5 := Blk.cell hbx3 5 (u := .int .u64 T.h.s3) rfl; have p6 := Blk.cell hbx3 6 (u := .int .i64 T.h.n) rfl; have p7 := Blk.cell hbx3 7 (u := .int .i64 T.h.mn) rfl; have p8 := Blk.cell hbx3 8 (u := .int .i64 T.h.mx) rfl; have p9 := Blk.cell hbx3 9 (u := (.slice A T.l.length cap)) rfl)
   go_wp2_with fail
   refine (HAL.out _ (Lies_keep hk3' hl)).mono ?_
   rintro e w4 ⟨s', rfl, _, hk4⟩
   go_wp2_with fail
   go_ret
   exact ⟨ret_bool (by rw [← HR.out]; simp [e1, e2]), by have hk4' := hk3'.trans hk4 (fun _ _ h => h); clear hk4; exact kp⟩
  ·have m3 : decide (10 < (d : Int)) = true := by simp; omega
   go_enter Try.func31, Try.ntmps31
   go_wp2_with fail
   refine (HCN.out _ (Lies_keep kp hl)).mono ?_
   rintro e w2 ⟨rfl, hk2⟩
   have hbx := (Blk.new w _ _).keep hk2 id
   have hk2' : Keep Nb w w2 := Keep.trans kp hk2 (fun _ _ h => h)
   have hs2 := hbx.lt
   (have o0 := Blk.cell hbx 0 (u := .int .i64 T.h.k) rfl; have o1 := Blk.cell hbx 1 (u := .int .u8 T.h.c) rfl; have o2 := Blk.cell hbx 2 (u := .int .u64 T.h.s0) rfl; have o3 := Blk.cell hbx 3 (u := .int .u64 T.h.s1) rfl; have o4 := Blk.cell hbx 4 (u := .int .u64 T.h.s2) rfl; have o5 := Blk.cell hbx 5 (u := .int .u64 T.h.s3) rfl; have o6 := Blk.cell hbx 6 (u := .int .i64 T.h.n) rfl; have o7 := Blk.cell hbx 7 (u := .int .i64 T.h.mn) rfl; have o8 := Blk.cell hbx 8 (u := .int .i64 T.h.mx) rfl; have o9 := Blk.cell hbx 9 (u := (.slice A T.l.length cap)) rfl)
   go_wp2_with fail
   refine (HDP.out _ (Lies_keep hk2' hl)).mono ?_
   rintro e w3 ⟨rfl, hk3⟩
   go_wp2_with fail
   go_ret
   exact ⟨ret_bool (by rw [← HR.out]; simp [e2]), hk2'.trans hk3 (fun _ _ h => h)⟩
 ·have m1 : decide (200 < (n : Int)) = true := by simp; omega
  go_enter Try.func31, Try.ntmps31
  go_wp2_with fail
  refine (HCN.out _ (Lies_keep kp hl)).mono ?_
  rintro e w2 ⟨rfl, hk2⟩
  go_wp2_with fail
  go_ret
  exact ⟨ret_bool (by rw [← HR.out]; simp [e1]), Keep.trans kp hk2 (fun _ _ h => h)⟩
end Go.Proofs.Ytkidjbfapldmbaa
