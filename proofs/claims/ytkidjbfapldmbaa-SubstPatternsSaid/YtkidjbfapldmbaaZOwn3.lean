import Derived.Test.YtkidjbfapldmbaaZOwn2
set_option linter.unusedVariables false
set_option linter.unusedSimpArgs false
namespace Go.Proofs.Ytkidjbfapldmbaa
open Go.RowKit P8
set_option maxRecDepth 100000 in
set_option maxHeartbeats 4000000 in
theorem own_6 (T : Nd) (s : Chk) (hlen : T.l.length ≤ 1000000) (hg0 : 0 ≤ s.g) (hg1 : s.g ≤ 1000000) (hok : headOk T = true) (hk : T.h.k = 6) (A : Option Addr) (cap : Nat) (hcap : T.l.length ≤ cap) (b : Nat) (w : World) (hb : Blk w b s.row 97) (hl : LiesL w A 0 T.l) :
  Calls Try.prog 82 #[.pointer (some ⟨b, 0, none⟩), .agg (Nd.row T (.slice A T.l.length cap))] w fun e w' => e = .returned (.bool (own T s)) ∧ Blk w' b (ownS T s).row 97 ∧ Keep (Ob b) w w' := by
 have hnd := needed_any T (.slice A T.l.length cap)
 have hblt := hb.lt
 obtain ⟨h1, h2, hh, hkid⟩ : 1 ≤ T.h.k ∧ T.h.k ≤ 10 ∧ neededH T.h = T.h ∧ (kidsOf T.h.k < 0 ∨ kidsOf T.h.k = T.l.length) := by simpa [headOk] using hok
 have hR : own T s = decide (s.g + 1 ≤ 9 ∧ T.h.n = s.g + 1) := by simp [own, hok, hk]
 have hS : ownS T s = ⟨s.g + 1, s.E⟩ := by simp [ownS, hok, hk]
 have hq : kidsOf T.h.k = 1 := by rw [hk]; rfl
 have hq5 : ((1 : Int) != (T.l.length : Int)) = false := by rw [hq] at hkid; simp; omega
 rw [hR, hS]
 rw [hq] at hnd
 have d1 : decide (T.h.k < 1) = false := by simp; omega
 have d2 : decide (10 < T.h.k) = false := by simp; omega
 have t6 : (T.h.k == 6) = true := by rw [hk]; rfl
 clear hkid hR hS hq
 generalize neededH T.h = H at *
 have HND := Lib.hid hnd; clear hnd
 have h3 : headEq ⟨H.k, H.c, H.s0, H.s1, H.s2, H.s3, H.n, H.mn, H.mx⟩ ⟨T.h.k, T.h.c, T.h.s0, T.h.s1, T.h.s2, T.h.s3, T.h.n, T.h.mn, T.h.mx⟩ = true := headEq_iff.2 hh
 clear hh
 have HK := Lib.hid hk; clear hk
 have HOK := Lib.hid hok; clear hok
 by_cases e1 : s.g + 1 ≤ 9
 ·have m1 : decide (s.g + 1 ≤ 9) = true := by simpa using e1
  by_cases e2 : T.h.n = s.g + 1
  ·have m2 : (T.h.n == s.g + 1) = true := by simpa using e2
   have E2 := Lib.hid e2; clear e2
   simp only [Nd.row]
   go_enter Try.func82, Try.ntmps82
   go_wp2_with fail
   refine (HND.out _).mono ?_
   rintro e w2 ⟨rfl, hk2⟩
   have hs2 := hk2.size
   simp only [World.size_alloc] at hs2
   have hs3 : w.heap.size < w2.heap.size := by omega
   have hbx : Blk w2 w.heap.size (Nd.row T (.slice A T.l.length cap)) 33 := (Blk.new w _ _).keep hk2 id
   (have o0 := Blk.cell hbx 0 (u := .int .i64 T.h.k) rfl; have o1 := Blk.cell hbx 1 (u := .int .u8 T.h.c) rfl; have o2 := Blk.cell hbx 2 (u := .int .u64 T.h.s0) rfl; have o3 := Blk.cell hbx 3 (u := .int .u64 T.h.s1) rfl; have o4 := Blk.cell hbx 4 (u := .int .u64 T.h.s2) rfl; have o5 := Blk.cell hbx 5 (u := .int .u64 T.h.s3) rfl; have o6 := Blk.cell hbx 6 (u := .int .i64 T.h.n) rfl; have o7 := Blk.cell hbx 7 (u := .int .i64 T.h.mn) rfl; have o8 := Blk.cell hbx 8 (u := .int .i64 T.h.mx) rfl; have o9 := Blk.cell hbx 9 (u := (.slice A T.l.length cap)) rfl)
   have hkw : Keep Nb w w2 := Keep.trans kp hk2 (fun _ _ h => h)
   clear hk2 HND hs2
   go_wp2_with fail
   refine wp_region_x (by kernel_rfl) (by kernel_rfl) ?_; (repeat (go_big_quiet_step (((go_at_call 59; exact Calls.ext _ (top_lit _ _ _)))))); refine wpQuiet_nil ?_; rintro w3 ⟨⟨_, hk3⟩, rfl⟩
   have hk23 : Keep Nb w2 w3 := Keep.trans kp hk3 (fun _ _ h => h)
   have hk4 : Keep Nb w w3 := hkw.trans hk23 (fun _ _ h => h)
   have hbx3 := hbx.keep hk23 id
   have hs33 : w.heap.size < w3.heap.size := Nat.lt_of_lt_of_le hs3 hk23.size
   (have p0 := Blk.cell hbx3 0 (u := .int .i64 T.h.k) rfl; have p1 := Blk.cell hbx3 1 (u := .int .u8 T.h.c) rfl; have p2 := Blk.cell hbx3 2 (u := .int .u64 T.h.s0) rfl; have p3 := Blk.cell hbx3 3 (u := .int .u64 T.h.s1) rfl; have p4 := Blk.cell hbx3 4 (u := .int .u64 T.h.s2) rfl; have p5 := Blk.cell hbx3 5 (u := .int .u64 T.h.s3) rfl; have p6 := Blk.cell hbx3 6 (u := .int .i64 T.h.n) rfl; have p7 := Blk.cell hbx3 7 (u := .int .i64 T.h.mn) rfl; have p8 := Blk.cell hbx3 8 (u := .int .i64 T.h.mx) rfl; have p9 := Blk.cell hbx3 9 (u := (.slice A T.l.length cap)) rfl)
   clear hbx hk23
   have hbs : b < w3.heap.size := Nat.lt_of_lt_of_le hblt hk4.size
   have hb3 := hb.keep hk4 id
   have c0 := hb3.cell 0 (u := .int .i64 s.g) rfl
   have f0 := hb3.frozen 0
   have hb4 := hb3.set 0 (.int .i64 (s.g + 1))
   have hbne : b ≠ w.heap.size := by omega
   go_wp2_with fail
   refine wp_region_x (by kernel_rfl) (by kernel_rfl) ?_; (repeat (go_big_quiet_step ((fail)))); refine wpQuiet_nil ?_; rintro w5 ⟨⟨_, hk5⟩, rfl⟩
   go_wp2_with fail
   go_ret
   exact ⟨ret_bool (by have := E2.out; simp; omega), hb4.keep hk5 id, (hk4.ob.trans (Keep.setOb _ _ _ _) (fun _ _ h => h)).trans hk5 (fun _ _ h => h.elim)⟩
  ·have m2 : (T.h.n == s.g + 1) = false := by simpa using e2
   have E2 := Lib.hid e2; clear e2
   simp only [Nd.row]
   go_enter Try.func82, Try.ntmps82
   go_wp2_with fail
   refine (HND.out _).mono ?_
   rintro e w2 ⟨rfl, hk2⟩
   have hs2 := hk2.size
   simp only [World.size_alloc] at hs2
   have hs3 : w.heap.size < w2.heap.size := by omega
   have hbx : Blk w2 w.heap.size (Nd.row T (.slice A T.l.length cap)) 33 := (Blk.new w _ _).keep hk2 id
   (have o0 := Blk.cell hbx 0 (u := .int .i64 T.h.k) rfl; have o1 := Blk.cell hbx 1 (u := .int .u8 T.h.c) rfl; have o2 := Blk.cell hbx 2 (u := .int .u64 T.h.s0) rfl; have o3 := Blk.cell hbx 3 (u := .int .u64 T.h.s1) rfl; have o4 := Blk.cell hbx 4 (u := .int .u64 T.h.s2) rfl; have o5 := Blk.cell hbx 5 (u := .int .u64 T.h.s3) rfl; have o6 := Blk.cell hbx 6 (u := .int .i64 T.h.n) rfl; have o7 := Blk.cell hbx 7 (u := .int .i64 T.h.mn) rfl; have o8 := Blk.cell hbx 8 (u := .int .i64 T.h.mx) rfl; have o9 := Blk.cell hbx 9 (u := (.slice A T.l.length cap)) rfl)
   have hkw : Keep Nb w w2 := Keep.trans kp hk2 (fun _ _ h => h)
   clear hk2 HND hs2
   go_wp2_with fail
   refine wp_region_x (by kernel_rfl) (by kernel_rfl) ?_; (repeat (go_big_quiet_step (((go_at_call 59; exact Calls.ext _ (top_lit _ _ _)))))); refine wpQuiet_nil ?_; rintro w3 ⟨⟨_, hk3⟩, rfl⟩
   have hk23 : Keep Nb w2 w3 := Keep.trans kp hk3 (fun _ _ h => h)
   have hk4 : Keep Nb w w3 := hkw.trans hk23 (fun _ _ h => h)
   have hbx3 := hbx.keep hk23 id
   have hs33 : w.heap.size < w3.heap.size := Nat.lt_of_lt_of_le hs3 hk23.size
   (have p0 := Blk.cell hbx3 0 (u := .int .i64 T.h.k) rfl; have p1 := Blk.cell hbx3 1 (u := .int .u8 T.h.c) rfl; have p2 := Blk.cell hbx3 2 (u := .int .u64 T.h.s0) rfl; have p3 := Blk.cell hbx3 3 (u := .int .u64 T.h.s1) rfl; have p4 := Blk.cell hbx3 4 (u := .int .u64 T.h.s2) rfl; have p5 := Blk.cell hbx3 5 (u := .int .u64 T.h.s3) rfl; have p6 := Blk.cell hbx3 6 (u := .int .i64 T.h.n) rfl; have p7 := Blk.cell hbx3 7 (u := .int .i64 T.h.mn) rfl; have p8 := Blk.cell hbx3 8 (u := .int .i64 T.h.mx) rfl; have p9 := Blk.cell hbx3 9 (u := (.slice A T.l.length cap)) rfl)
   clear hbx hk23
   have hbs : b < w3.heap.size := Nat.lt_of_lt_of_le hblt hk4.size
   have hb3 := hb.keep hk4 id
   have c0 := hb3.cell 0 (u := .int .i64 s.g) rfl
   have f0 := hb3.frozen 0
   have hb4 := hb3.set 0 (.int .i64 (s.g + 1))
   have hbne : b ≠ w.heap.size := by omega
   go_wp2_with fail
   refine wp_region_x (by kernel_rfl) (by kernel_rfl) ?_; (repeat (go_big_quiet_step ((fail)))); refine wpQuiet_nil ?_; rintro w5 ⟨⟨_, hk5⟩, rfl⟩
   go_wp2_with fail
   go_ret
   exact ⟨ret_bool (by have := E2.out; simp; omega), hb4.keep hk5 id, (hk4.ob.trans (Keep.setOb _ _ _ _) (fun _ _ h => h)).trans hk5 (fun _ _ h => h.elim)⟩
 ·have m1 : decide (s.g + 1 ≤ 9) = false := by simpa using e1
  have E2 : Hid True := trivial
  simp only [Nd.row]
  go_enter Try.func82, Try.ntmps82
  go_wp2_with fail
  refine (HND.out _).mono ?_
  rintro e w2 ⟨rfl, hk2⟩
  have hs2 := hk2.size
  simp only [World.size_alloc] at hs2
  have hs3 : w.heap.size < w2.heap.size := by omega
  have hbx : Blk w2 w.heap.size (Nd.row T (.slice A T.l.length cap)) 33 := (Blk.new w _ _).keep hk2 id
  (have o0 := Blk.cell hbx 0 (u := .int .i64 T.h.k) rfl; have o1 := Blk.cell hbx 1 (u := .int .u8 T.h.c) rfl; have o2 := Blk.cell hbx 2 (u := .int .u64 T.h.s0) rfl; have o3 := Blk.cell hbx 3 (u := .int .u64 T.h.s1) rfl; have o4 := Blk.cell hbx 4 (u := .int .u64 T.h.s2) rfl; have o5 := Blk.cell hbx 5 (u := .int .u64 T.h.s3) rfl; have o6 := Blk.cell hbx 6 (u := .int .i64 T.h.n) rfl; have o7 := Blk.cell hbx 7 (u := .int .i64 T.h.mn) rfl; have o8 := Blk.cell hbx 8 (u := .int .i64 T.h.mx) rfl; have o9 := Blk.cell hbx 9 (u := (.slice A T.l.length cap)) rfl)
  have hkw : Keep Nb w w2 := Keep.trans kp hk2 (fun _ _ h => h)
  clear hk2 HND hs2
  go_wp2_with fail
  refine wp_region_x (by kernel_rfl) (by kernel_rfl) ?_; (repeat (go_big_quiet_step (((go_at_call 59; exact Calls.ext _ (top_lit _ _ _)))))); refine wpQuiet_nil ?_; rintro w3 ⟨⟨_, hk3⟩, rfl⟩
  have hk23 : Keep Nb w2 w3 := Keep.trans kp hk3 (fun _ _ h => h)
  have hk4 : Keep Nb w w3 := hkw.trans hk23 (fun _ _ h => h)
  have hbx3 := hbx.keep hk23 id
  have hs33 : w.heap.size < w3.heap.size := Nat.lt_of_lt_of_le hs3 hk23.size
  (have p0 := Blk.cell hbx3 0 (u := .int .i64 T.h.k) rfl; have p1 := Blk.cell hbx3 1 (u := .int .u8 T.h.c) rfl; have p2 := Blk.cell hbx3 2 (u := .int .u64 T.h.s0) rfl; have p3 := Blk.cell hbx3 3 (u := .int .u64 T.h.s1) rfl; have p4 := Blk.cell hbx3 4 (u := .int .u64 T.h.s2) rfl; have p5 := Blk.cell hbx3 5 (u := .int .u64 T.h.s3) rfl; have p6 := Blk.cell hbx3 6 (u := .int .i64 T.h.n) rfl; have p7 := Blk.cell hbx3 7 (u := .int .i64 T.h.mn) rfl; have p8 := Blk.cell hbx3 8 (u := .int .i64 T.h.mx) rfl; have p9 := Blk.cell hbx3 9 (u := (.slice A T.l.length cap)) rfl)
  clear hbx hk23
  have hbs : b < w3.heap.size := Nat.lt_of_lt_of_le hblt hk4.size
  have hb3 := hb.keep hk4 id
  have c0 := hb3.cell 0 (u := .int .i64 s.g) rfl
  have f0 := hb3.frozen 0
  have hb4 := hb3.set 0 (.int .i64 (s.g + 1))
  have hbne : b ≠ w.heap.size := by omega
  go_wp2_with fail
  refine wp_region_x (by kernel_rfl) (by kernel_rfl) ?_; (repeat (go_big_quiet_step ((fail)))); refine wpQuiet_nil ?_; rintro w5 ⟨⟨_, hk5⟩, rfl⟩
  go_wp2_with fail
  go_ret
  exact ⟨ret_bool (by have := E2.out; simp; omega), hb4.keep hk5 id, (hk4.ob.trans (Keep.setOb _ _ _ _) (fun _ _ h => h)).trans hk5 (fun _ _ h => h.elim)⟩
set_option maxRecDepth 100000 in
set_option maxHeartbeats 4000000 in
theorem own_7 (T : Nd) (s : Chk) (hlen : T.l.length ≤ 1000000) (hg0 : 0 ≤ s.g) (hg1 : s.g ≤ 1000000) (hok : headOk T = true) (hk : T.h.k = 7) (A : Option Addr) (cap : Nat) (hcap : T.l.length ≤ cap) (b : Nat) (w : World) (hb : Blk w b s.row 97) (hl : LiesL w A 0 T.l) :
  Calls Try.prog 82 #[.pointer (some ⟨b, 0, none⟩), .agg (Nd.row T (.slice A T.l.length cap))] w fun e w' => e = .returned (.bool (own T s)) ∧ Blk w' b (ownS T s).row 97 ∧ Keep (Ob b) w w' := by
 have hnd := needed_any T (.slice A T.l.length cap)
 have hblt := hb.lt
 obtain ⟨h1, h2, hh, hkid⟩ : 1 ≤ T.h.k ∧ T.h.k ≤ 10 ∧ neededH T.h = T.h ∧ (kidsOf T.h.k < 0 ∨ kidsOf T.h.k = T.l.length) := by simpa [headOk] using hok
 have hR : own T s = (decide (0 < T.h.n ∧ T.h.n ≤ 9) && s.E T.h.n.toNat) := by simp [own, hok, hk]
 have hS : ownS T s = s := by simp [ownS, hk]
 have hq : kidsOf T.h.k = 0 := by rw [hk]; rfl
 have hq5 : ((0 : Int) != (T.l.length : Int)) = false := by rw [hq] at hkid; simp; omega
 rw [hR, hS]
 rw [hq] at hnd
 have d1 : decide (T.h.k < 1) = false := by simp; omega
 have d2 : decide (10 < T.h.k) = false := by simp; omega
 have t6 : (T.h.k == 6) = false := by rw [hk]; rfl
 have t7 : (T.h.k == 7) = true := by rw [hk]; rfl
 clear hkid hR hS hq
 generalize neededH T.h = H at *
 have HND := Lib.hid hnd; clear hnd
 have h3 : headEq ⟨H.k, H.c, H.s0, H.s1, H.s2, H.s3, H.n, H.mn, H.mx⟩ ⟨T.h.k, T.h.c, T.h.s0, T.h.s1, T.h.s2, T.h.s3, T.h.n, T.h.mn, T.h.mx⟩ = true := headEq_iff.2 hh
 clear hh
 have HK := Lib.hid hk; clear hk
 have HOK := Lib.hid hok; clear hok
 by_cases e1 : 0 < T.h.n
 ·by_cases e2 : T.h.n ≤ 9
  ·have hp : (decide (0 < T.h.n ∧ T.h.n ≤ 9) && s.E T.h.n.toNat) = s.E T.h.n.toNat := by simp [e1, e2]
   rw [hp]
   clear hp
   have m1 : decide (0 < T.h.n) = true := by simpa using e1
   have m2 : decide (T.h.n ≤ 9) = true := by simpa using e2
   simp only [Nd.row]
   go_enter Try.func82, Try.ntmps82
   go_wp2_with fail
   refine (HND.out _).mono ?_
   rintro e w2 ⟨rfl, hk2⟩
   have hs2 := hk2.size
   simp only [World.size_alloc] at hs2
   have hs3 : w.heap.size < w2.heap.size := by omega
   have hbx : Blk w2 w.heap.size (Nd.row T (.slice A T.l.length cap)) 33 := (Blk.new w _ _).keep hk2 id
   (have o0 := Blk.cell hbx 0 (u := .int .i64 T.h.k) rfl; have o1 := Blk.cell hbx 1 (u := .int .u8 T.h.c) rfl; have o2 := Blk.cell hbx 2 (u := .int .u64 T.h.s0) rfl; have o3 := Blk.cell hbx 3 (u := .int .u64 T.h.s1) rfl; have o4 := Blk.cell hbx 4 (u := .int .u64 T.h.s2) rfl; have o5 := Blk.cell hbx 5 (u := .int .u64 T.h.s3) rfl; have o6 := Blk.cell hbx 6 (u := .int .i64 T.h.n) rfl; have o7 := Blk.cell hbx 7 (u := .int .i64 T.h.mn) rfl; have o8 := Blk.cell hbx 8 (u := .int .i64 T.h.mx) rfl; have o9 := Blk.cell hbx 9 (u := (.slice A T.l.length cap)) rfl)
   have hkw : Keep Nb w w2 := Keep.trans kp hk2 (fun _ _ h => h)
   clear hk2 HND hs2
   go_wp2_with fail
   refine wp_region_x (by kernel_rfl) (by kernel_rfl) ?_; (repeat (go_big_quiet_step (((go_at_call 59; exact Calls.ext _ (top_lit _ _ _)))))); refine wpQuiet_nil ?_; rintro w3 ⟨⟨_, hk3⟩, rfl⟩
   have hk23 : Keep Nb w2 w3 := Keep.trans kp hk3 (fun _ _ h => h)
   have hk4 : Keep Nb w w3 := hkw.trans hk23 (fun _ _ h => h)
   have hbx3 := hbx.keep hk23 id
   have hs33 : w.heap.size < w3.heap.size := Nat.lt_of_lt_of_le hs3 hk23.size
   (have p0 := Blk.cell hbx3 0 (u := .int .i64 T.h.k) rfl; have p1 := Blk.cell hbx3 1 (u := .int .u8 T.h.c) rfl; have p2 := Blk.cell hbx3 2 (u := .int .u64 T.h.s0) rfl; have p3 := Blk.cell hbx3 3 (u := .int .u64 T.h.s1) rfl; have p4 := Blk.cell hbx3 4 (u := .int .u64 T.h.s2) rfl; have p5 := Blk.cell hbx3 5 (u := .int .u64 T.h.s3) rfl; have p6 := Blk.cell hbx3 6 (u := .int .i64 T.h.n) rfl; have p7 := Blk.cell hbx3 7 (u := .int .i64 T.h.mn) rfl; have p8 := Blk.cell hbx3 8 (u := .int .i64 T.h.mx) rfl; have p9 := Blk.cell hbx3 9 (u := (.slice A T.l.length cap)) rfl)
   clear hbx hk23
   have hbs : b < w3.heap.size := Nat.lt_of_lt_of_le hblt hk4.size
   have hb3 := hb.keep hk4 id
   obtain ⟨m, hm⟩ : ∃ m : Nat, T.h.n = (m : Int) := ⟨T.h.n.toNat, by omega⟩
   rw [hm] at m1 m2 e1 e2 p6 ⊢
   have HM := Lib.hid hm; clear hm
   have m3 : decide (0 < m) = true := by simp; omega
   have m4 : decide (m ≤ 9) = true := by simp; omega
   have hm0 : (0 : Int) ≤ (m : Int) := by omega
   have hm1 : (m : Int) < 10 := by omega
   have cm : w3.cell? ⟨b, 1 + m, none⟩ = some (.bool (s.E m)) := hb3.cell (1 + m) (by
    have : m ≤ 9 := by omega
    have : m = 1 ∨ m = 2 ∨ m = 3 ∨ m = 4 ∨ m = 5 ∨ m = 6 ∨ m = 7 ∨ m = 8 ∨ m = 9 := by omega
    rcases this with rfl | rfl | rfl | rfl | rfl | rfl | rfl | rfl | rfl <;> rfl)
   go_wp2_with fail
   refine wp_region_x (by kernel_rfl) (by kernel_rfl) ?_; (repeat (go_big_quiet_step ((fail)))); refine wpQuiet_nil ?_; rintro w5 ⟨⟨_, hk5⟩, rfl⟩
   go_wp2_with fail
   go_ret
   exact ⟨ret_bool (by rw [HM.out]; rfl), (hb3.keep hk5 id), (hk4.trans hk5 (fun _ _ h => h)).ob⟩
  ·have hp : (decide (0 < T.h.n ∧ T.h.n ≤ 9) && s.E T.h.n.toNat) = false := by simp; omega
   rw [hp]
   clear hp
   have m1 : decide (0 < T.h.n) = true := by simpa using e1
   have m2 : decide (T.h.n ≤ 9) = false := by simp; omega
   simp only [Nd.row]
   go_enter Try.func82, Try.ntmps82
   go_wp2_with fail
   refine (HND.out _).mono ?_
   rintro e w2 ⟨rfl, hk2⟩
   have hs2 := hk2.size
   simp only [World.size_alloc] at hs2
   have hs3 : w.heap.size < w2.heap.size := by omega
   have hbx : Blk w2 w.heap.size (Nd.row T (.slice A T.l.length cap)) 33 := (Blk.new w _ _).keep hk2 id
   (have o0 := Blk.cell hbx 0 (u := .int .i64 T.h.k) rfl; have o1 := Blk.cell hbx 1 (u := .int .u8 T.h.c) rfl; have o2 := Blk.cell hbx 2 (u := .int .u64 T.h.s0) rfl; have o3 := Blk.cell hbx 3 (u := .int .u64 T.h.s1) rfl; have o4 := Blk.cell hbx 4 (u := .int .u64 T.h.s2) rfl; have o5 := Blk.cell hbx 5 (u := .int .u64 T.h.s3) rfl; have o6 := Blk.cell hbx 6 (u := .int .i64 T.h.n) rfl; have o7 := Blk.cell hbx 7 (u := .int .i64 T.h.mn) rfl; have o8 := Blk.cell hbx 8 (u := .int .i64 T.h.mx) rfl; have o9 := Blk.cell hbx 9 (u := (.slice A T.l.length cap)) rfl)
   have hkw : Keep Nb w w2 := Keep.trans kp hk2 (fun _ _ h => h)
   clear hk2 HND hs2
   go_wp2_with fail
   refine wp_region_x (by kernel_rfl) (by kernel_rfl) ?_; (repeat (go_big_quiet_step (((go_at_call 59; exact Calls.ext _ (top_lit _ _ _)))))); refine wpQuiet_nil ?_; rintro w3 ⟨⟨_, hk3⟩, rfl⟩
   have hk23 : Keep Nb w2 w3 := Keep.trans kp hk3 (fun _ _ h => h)
   have hk4 : Keep Nb w w3 := hkw.trans hk23 (fun _ _ h => h)
   have hbx3 := hbx.keep hk23 id
   have hs33 : w.heap.size < w3.heap.size := Nat.lt_of_lt_of_le hs3 hk23.size
   (have p0 := Blk.cell hbx3 0 (u := .int .i64 T.h.k) rfl; have p1 := Blk.cell hbx3 1 (u := .int .u8 T.h.c) rfl; have p2 := Blk.cell hbx3 2 (u := .int .u64 T.h.s0) rfl; have p3 := Blk.cell hbx3 3 (u := .int .u64 T.h.s1) rfl; have p4 := Blk.cell hbx3 4 (u := .int .u64 T.h.s2) rfl; have p5 := Blk.cell hbx3 5 (u := .int .u64 T.h.s3) rfl; have p6 := Blk.cell hbx3 6 (u := .int .i64 T.h.n) rfl; have p7 := Blk.cell hbx3 7 (u := .int .i64 T.h.mn) rfl; have p8 := Blk.cell hbx3 8 (u := .int .i64 T.h.mx) rfl; have p9 := Blk.cell hbx3 9 (u := (.slice A T.l.length cap)) rfl)
   clear hbx hk23
   have hbs : b < w3.heap.size := Nat.lt_of_lt_of_le hblt hk4.size
   have hb3 := hb.keep hk4 id
   skip
   go_wp2_with fail
   refine wp_region_x (by kernel_rfl) (by kernel_rfl) ?_; (repeat (go_big_quiet_step ((fail)))); refine wpQuiet_nil ?_; rintro w5 ⟨⟨_, hk5⟩, rfl⟩
   go_wp2_with fail
   go_ret
   exact ⟨ret_bool (by rfl), (hb3.keep hk5 id), (hk4.trans hk5 (fun _ _ h => h)).ob⟩
 ·have hp : (decide (0 < T.h.n ∧ T.h.n ≤ 9) && s.E T.h.n.toNat) = false := by simp; omega
  rw [hp]
  clear hp
  have m1 : decide (0 < T.h.n) = false := by simp; omega
  simp only [Nd.row]
  go_enter Try.func82, Try.ntmps82
  go_wp2_with fail
  refine (HND.out _).mono ?_
  rintro e w2 ⟨rfl, hk2⟩
  have hs2 := hk2.size
  simp only [World.size_alloc] at hs2
  have hs3 : w.heap.size < w2.heap.size := by omega
  have hbx : Blk w2 w.heap.size (Nd.row T (.slice A T.l.length cap)) 33 := (Blk.new w _ _).keep hk2 id
  (have o0 := Blk.cell hbx 0 (u := .int .i64 T.h.k) rfl; have o1 := Blk.cell hbx 1 (u := .int .u8 T.h.c) rfl; have o2 := Blk.cell hbx 2 (u := .int .u64 T.h.s0) rfl; have o3 := Blk.cell hbx 3 (u := .int .u64 T.h.s1) rfl; have o4 := Blk.cell hbx 4 (u := .int .u64 T.h.s2) rfl; have o5 := Blk.cell hbx 5 (u := .int .u64 T.h.s3) rfl; have o6 := Blk.cell hbx 6 (u := .int .i64 T.h.n) rfl; have o7 := Blk.cell hbx 7 (u := .int .i64 T.h.mn) rfl; have o8 := Blk.cell hbx 8 (u := .int .i64 T.h.mx) rfl; have o9 := Blk.cell hbx 9 (u := (.slice A T.l.length cap)) rfl)
  have hkw : Keep Nb w w2 := Keep.trans kp hk2 (fun _ _ h => h)
  clear hk2 HND hs2
  go_wp2_with fail
  refine wp_region_x (by kernel_rfl) (by kernel_rfl) ?_; (repeat (go_big_quiet_step (((go_at_call 59; exact Calls.ext _ (top_lit _ _ _)))))); refine wpQuiet_nil ?_; rintro w3 ⟨⟨_, hk3⟩, rfl⟩
  have hk23 : Keep Nb w2 w3 := Keep.trans kp hk3 (fun _ _ h => h)
  have hk4 : Keep Nb w w3 := hkw.trans hk23 (fun _ _ h => h)
  have hbx3 := hbx.keep hk23 id
  have hs33 : w.heap.size < w3.heap.size := Nat.lt_of_lt_of_le hs3 hk23.size
  (have p0 := Blk.cell hbx3 0 (u := .int .i64 T.h.k) rfl; have p1 := Blk.cell hbx3 1 (u := .int .u8 T.h.c) rfl; have p2 := Blk.cell hbx3 2 (u := .int .u64 T.h.s0) rfl; have p3 := Blk.cell hbx3 3 (u := .int .u64 T.h.s1) rfl; have p4 := Blk.cell hbx3 4 (u := .int .u64 T.h.s2) rfl; have p5 := Blk.cell hbx3 5 (u := .int .u64 T.h.s3) rfl; have p6 := Blk.cell hbx3 6 (u := .int .i64 T.h.n) rfl; have p7 := Blk.cell hbx3 7 (u := .int .i64 T.h.mn) rfl; have p8 := Blk.cell hbx3 8 (u := .int .i64 T.h.mx) rfl; have p9 := Blk.cell hbx3 9 (u := (.slice A T.l.length cap)) rfl)
  clear hbx hk23
  have hbs : b < w3.heap.size := Nat.lt_of_lt_of_le hblt hk4.size
  have hb3 := hb.keep hk4 id
  skip
  go_wp2_with fail
  refine wp_region_x (by kernel_rfl) (by kernel_rfl) ?_; (repeat (go_big_quiet_step ((fail)))); refine wpQuiet_nil ?_; rintro w5 ⟨⟨_, hk5⟩, rfl⟩
  go_wp2_with fail
  go_ret
  exact ⟨ret_bool (by rfl), (hb3.keep hk5 id), (hk4.trans hk5 (fun _ _ h => h)).ob⟩
end Go.Proofs.Ytkidjbfapldmbaa
