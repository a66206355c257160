import Derived.Test.YtkidjbfapldmbaaZOwn2
set_option linter.unusedVariables false
set_option linter.unusedSimpArgs false
namespace Go.Proofs.Ytkidjbfapldmbaa
open Go.RowKit P8
set_option maxRecDepth 100000 in
set_option maxHeartbeats 4000000 in
theorem own_8 (T : Nd) (s : Chk) (hlen : T.l.length ≤ 1000000) (hg0 : 0 ≤ s.g) (hg1 : s.g ≤ 1000000) (hok : headOk T = true) (hk : T.h.k = 8) (A : Option Addr) (cap : Nat) (hcap : T.l.length ≤ cap) (b : Nat) (w : World) (hb : Blk w b s.row 97) (hl : LiesL w A 0 T.l) :
  Calls Try.prog 82 #[.pointer (some ⟨b, 0, none⟩), .agg (Nd.row T (.slice A T.l.length cap))] w fun e w' => e = .returned (.bool (own T s)) ∧ Blk w' b (ownS T s).row 97 ∧ Keep (Ob b) w w' := by
 have hnd := needed_any T (.slice A T.l.length cap)
 have hblt := hb.lt
 obtain ⟨h1, h2, hh, hkid⟩ : 1 ≤ T.h.k ∧ T.h.k ≤ 10 ∧ neededH T.h = T.h ∧ (kidsOf T.h.k < 0 ∨ kidsOf T.h.k = T.l.length) := by simpa [headOk] using hok
 have hR : own T s = decide (T.l.length ≠ 1) := by simp [own, hok, hk]
 have hS : ownS T s = s := by simp [ownS, hk]
 have hq : kidsOf T.h.k = -1 := by rw [hk]; rfl
 rw [hR, hS]
 rw [hq] at hnd
 have d1 : decide (T.h.k < 1) = false := by simp; omega
 have d2 : decide (10 < T.h.k) = false := by simp; omega
 have t6 : (T.h.k == 6) = false := by rw [hk]; rfl
 have t7 : (T.h.k == 7) = false := by rw [hk]; rfl
 have t8 : (T.h.k == 8) = true := by rw [hk]; rfl
 clear hkid hR hS hq
 generalize neededH T.h = H at *
 have HND := Lib.hid hnd; clear hnd
 have h3 : headEq ⟨H.k, H.c, H.s0, H.s1, H.s2, H.s3, H.n, H.mn, H.mx⟩ ⟨T.h.k, T.h.c, T.h.s0, T.h.s1, T.h.s2, T.h.s3, T.h.n, T.h.mn, T.h.mx⟩ = true := headEq_iff.2 hh
 clear hh
 have HK := Lib.hid hk; clear hk
 have HOK := Lib.hid hok; clear hok
 have HL := Lib.hid hl; clear hl
 by_cases e1 : T.l.length = 1
 ·have n1 : ((T.l.length : Int) != 1) = false := by simp; omega
  have E1 := Lib.hid e1; clear e1
  simp only [Nd.row]
  go_enter Try.func82, Try.ntmps82
  go_wp2_with fail
  refine (HND.out _).mono ?_
  rintro e w2 ⟨rfl, hk2⟩
  have hs2 := hk2.size
  simp only [World.size_alloc] at hs2
  have hs3 : w.heap.size < w2.heap.size := by omega
  have hbx : Blk w2 w.heap.size (Nd.row T (.slice A T.l.length cap)) 33 := (Blk.new w _ _).keep hk2 id
  (have o0 := Blk.cell hbx 0 (u := .int .i64 T.h.k) rfl; have o1 := Blk.cell hbx 1 (u := .int .u8 T.h.c) rfl; have o2 := Blk.cell hbx 2 (u := .int .u64 T.h.s0) rfl; have o3 := Blk.cell hbx 3 (u := .int .u64 T.h.s1) rfl; have o4 := Blk.cell hbx 4 (u := .int .u64 T.h.s2) rfl; have o5 := Blk.cell hbx 5 (u := .int .u64 T.h.s3) rfl; have o6 := Blk.cell hbx 6 (u := .int .i64 T.h.n) rfl; have o7 := Blk.cell hbx 7 (u := .int .i64 T.h.mn) rfl; have o8 := Blk.cell hbx 8 (u := .int .i64 T.h.mx) rfl; have o9 := Blk.cell hbx 9 (u := (.slice A T.l.length cap)) rfl)
  have hkw : Keep Nb w w2 := Keep.trans kp hk2 (fun _ _ h => h)
  clear hk2 HND hs2
  go_wp2_with fail
  refine wp_region_x (by kernel_rfl) (by kernel_rfl) ?_; (repeat (go_big_quiet_step (((go_at_call 59; exact Calls.ext _ (top_lit _ _ _)))))); refine wpQuiet_nil ?_; rintro w3 ⟨⟨_, hk3⟩, rfl⟩
  have hk23 : Keep Nb w2 w3 := Keep.trans kp hk3 (fun _ _ h => h)
  have hk4 : Keep Nb w w3 := hkw.trans hk23 (fun _ _ h => h)
  have hbx3 := hbx.keep hk23 id
  have hs33 : w.heap.size < w3.heap.size := Nat.lt_of_lt_of_le hs3 hk23.size
  (have p0 := Blk.cell hbx3 0 (u := .int .i64 T.h.k) rfl; have p1 := Blk.cell hbx3 1 (u := .int .u8 T.h.c) rfl; have p2 := Blk.cell hbx3 2 (u := .int .u64 T.h.s0) rfl; have p3 := Blk.cell hbx3 3 (u := .int .u64 T.h.s1) rfl; have p4 := Blk.cell hbx3 4 (u := .int .u64 T.h.s2) rfl; have p5 := Blk.cell hbx3 5 (u := .int .u64 T.h.s3) rfl; have p6 := Blk.cell hbx3 6 (u := .int .i64 T.h.n) rfl; have p7 := Blk.cell hbx3 7 (u := .int .i64 T.h.mn) rfl; have p8 := Blk.cell hbx3 8 (u := .int .i64 T.h.mx) rfl; have p9 := Blk.cell hbx3 9 (u := (.slice A T.l.length cap)) rfl)
  clear hbx hk23
  have hbs : b < w3.heap.size := Nat.lt_of_lt_of_le hblt hk4.size
  have hb3 := hb.keep hk4 id
  go_wp2_with fail
  go_ret
  exact ⟨ret_bool (by rw [E1.out]; rfl), hb3, hk4.ob⟩
 ·have n1 : ((T.l.length : Int) != 1) = true := by simp; omega
  have E1 := Lib.hid e1; clear e1
  simp only [Nd.row]
  go_enter Try.func82, Try.ntmps82
  go_wp2_with fail
  refine (HND.out _).mono ?_
  rintro e w2 ⟨rfl, hk2⟩
  have hs2 := hk2.size
  simp only [World.size_alloc] at hs2
  have hs3 : w.heap.size < w2.heap.size := by omega
  have hbx : Blk w2 w.heap.size (Nd.row T (.slice A T.l.length cap)) 33 := (Blk.new w _ _).keep hk2 id
  (have o0 := Blk.cell hbx 0 (u := .int .i64 T.h.k) rfl; have o1 := Blk.cell hbx 1 (u := .int .u8 T.h.c) rfl; have o2 := Blk.cell hbx 2 (u := .int .u64 T.h.s0) rfl; have o3 := Blk.cell hbx 3 (u := .int .u64 T.h.s1) rfl; have o4 := Blk.cell hbx 4 (u := .int .u64 T.h.s2) rfl; have o5 := Blk.cell hbx 5 (u := .int .u64 T.h.s3) rfl; have o6 := Blk.cell hbx 6 (u := .int .i64 T.h.n) rfl; have o7 := Blk.cell hbx 7 (u := .int .i64 T.h.mn) rfl; have o8 := Blk.cell hbx 8 (u := .int .i64 T.h.mx) rfl; have o9 := Blk.cell hbx 9 (u := (.slice A T.l.length cap)) rfl)
  have hkw : Keep Nb w w2 := Keep.trans kp hk2 (fun _ _ h => h)
  clear hk2 HND hs2
  go_wp2_with fail
  refine wp_region_x (by kernel_rfl) (by kernel_rfl) ?_; (repeat (go_big_quiet_step (((go_at_call 59; exact Calls.ext _ (top_lit _ _ _)))))); refine wpQuiet_nil ?_; rintro w3 ⟨⟨_, hk3⟩, rfl⟩
  have hk23 : Keep Nb w2 w3 := Keep.trans kp hk3 (fun _ _ h => h)
  have hk4 : Keep Nb w w3 := hkw.trans hk23 (fun _ _ h => h)
  have hbx3 := hbx.keep hk23 id
  have hs33 : w.heap.size < w3.heap.size := Nat.lt_of_lt_of_le hs3 hk23.size
  (have p0 := Blk.cell hbx3 0 (u := .int .i64 T.h.k) rfl; have p1 := Blk.cell hbx3 1 (u := .int .u8 T.h.c) rfl; have p2 := Blk.cell hbx3 2 (u := .int .u64 T.h.s0) rfl; have p3 := Blk.cell hbx3 3 (u := .int .u64 T.h.s1) rfl; have p4 := Blk.cell hbx3 4 (u := .int .u64 T.h.s2) rfl; have p5 := Blk.cell hbx3 5 (u := .int .u64 T.h.s3) rfl; have p6 := Blk.cell hbx3 6 (u := .int .i64 T.h.n) rfl; have p7 := Blk.cell hbx3 7 (u := .int .i64 T.h.mn) rfl; have p8 := Blk.cell hbx3 8 (u := .int .i64 T.h.mx) rfl; have p9 := Blk.cell hbx3 9 (u := (.slice A T.l.length cap)) rfl)
  clear hbx hk23
  have hbs : b < w3.heap.size := Nat.lt_of_lt_of_le hblt hk4.size
  have hb3 := hb.keep hk4 id
  go_wp2_with fail
  go_ret
  exact ⟨ret_bool (by simp [E1.out]), hb3, hk4.ob⟩
set_option maxRecDepth 100000 in
set_option maxHeartbeats 4000000 in
theorem own_9 (T : Nd) (s : Chk) (hlen : T.l.length ≤ 1000000) (hg0 : 0 ≤ s.g) (hg1 : s.g ≤ 1000000) (hok : headOk T = true) (hk : T.h.k = 9) (A : Option Addr) (cap : Nat) (hcap : T.l.length ≤ cap) (b : Nat) (w : World) (hb : Blk w b s.row 97) (hl : LiesL w A 0 T.l) :
  Calls Try.prog 82 #[.pointer (some ⟨b, 0, none⟩), .agg (Nd.row T (.slice A T.l.length cap))] w fun e w' => e = .returned (.bool (own T s)) ∧ Blk w' b (ownS T s).row 97 ∧ Keep (Ob b) w w' := by
 have hnd := needed_any T (.slice A T.l.length cap)
 have hblt := hb.lt
 obtain ⟨h1, h2, hh, hkid⟩ : 1 ≤ T.h.k ∧ T.h.k ≤ 10 ∧ neededH T.h = T.h ∧ (kidsOf T.h.k < 0 ∨ kidsOf T.h.k = T.l.length) := by simpa [headOk] using hok
 have hR : own T s = decide (1 < T.l.length) := by simp [own, hok, hk]
 have hS : ownS T s = s := by simp [ownS, hk]
 have hq : kidsOf T.h.k = -1 := by rw [hk]; rfl
 rw [hR, hS]
 rw [hq] at hnd
 have d1 : decide (T.h.k < 1) = false := by simp; omega
 have d2 : decide (10 < T.h.k) = false := by simp; omega
 have t6 : (T.h.k == 6) = false := by rw [hk]; rfl
 have t7 : (T.h.k == 7) = false := by rw [hk]; rfl
 have t8 : (T.h.k == 8) = false := by rw [hk]; rfl
 have t9 : (T.h.k == 9) = true := by rw [hk]; rfl
 clear hkid hR hS hq
 generalize neededH T.h = H at *
 have HND := Lib.hid hnd; clear hnd
 have h3 : headEq ⟨H.k, H.c, H.s0, H.s1, H.s2, H.s3, H.n, H.mn, H.mx⟩ ⟨T.h.k, T.h.c, T.h.s0, T.h.s1, T.h.s2, T.h.s3, T.h.n, T.h.mn, T.h.mx⟩ = true := headEq_iff.2 hh
 clear hh
 have HK := Lib.hid hk; clear hk
 have HOK := Lib.hid hok; clear hok
 have HL := Lib.hid hl; clear hl
 simp only [Nd.row]
 go_enter Try.func82, Try.ntmps82
 go_wp2_with fail
 refine (HND.out _).mono ?_
 rintro e w2 ⟨rfl, hk2⟩
 have hs2 := hk2.size
 simp only [World.size_alloc] at hs2
 have hs3 : w.heap.size < w2.heap.size := by omega
 have hbx : Blk w2 w.heap.size (Nd.row T (.slice A T.l.length cap)) 33 := (Blk.new w _ _).keep hk2 id
 (have o0 := Blk.cell hbx 0 (u := .int .i64 T.h.k) rfl; have o1 := Blk.cell hbx 1 (u := .int .u8 T.h.c) rfl; have o2 := Blk.cell hbx 2 (u := .int .u64 T.h.s0) rfl; have o3 := Blk.cell hbx 3 (u := .int .u64 T.h.s1) rfl; have o4 := Blk.cell hbx 4 (u := .int .u64 T.h.s2) rfl; have o5 := Blk.cell hbx 5 (u := .int .u64 T.h.s3) rfl; have o6 := Blk.cell hbx 6 (u := .int .i64 T.h.n) rfl; have o7 := Blk.cell hbx 7 (u := .int .i64 T.h.mn) rfl; have o8 := Blk.cell hbx 8 (u := .int .i64 T.h.mx) rfl; have o9 := Blk.cell hbx 9 (u := (.slice A T.l.length cap)) rfl)
 have hkw : Keep Nb w w2 := Keep.trans kp hk2 (fun _ _ h => h)
 clear hk2 HND hs2
 go_wp2_with fail
 refine wp_region_x (by kernel_rfl) (by kernel_rfl) ?_; (repeat (go_big_quiet_step (((go_at_call 59; exact Calls.ext _ (top_lit _ _ _)))))); refine wpQuiet_nil ?_; rintro w3 ⟨⟨_, hk3⟩, rfl⟩
 have hk23 : Keep Nb w2 w3 := Keep.trans kp hk3 (fun _ _ h => h)
 have hk4 : Keep Nb w w3 := hkw.trans hk23 (fun _ _ h => h)
 have hbx3 := hbx.keep hk23 id
 have hs33 : w.heap.size < w3.heap.size := Nat.lt_of_lt_of_le hs3 hk23.size
 (have p0 := Blk.cell hbx3 0 (u := .int .i64 T.h.k) rfl; have p1 := Blk.cell hbx3 1 (u := .int .u8 T.h.c) rfl; have p2 := Blk.cell hbx3 2 (u := .int .u64 T.h.s0) rfl; have p3 := Blk.cell hbx3 3 (u := .int .u64 T.h.s1) rfl; have p4 := Blk.cell hbx3 4 (u := .int .u64 T.h.s2) rfl; have p5 := Blk.cell hbx3 5 (u := .int .u64 T.h.s3) rfl; have p6 := Blk.cell hbx3 6 (u := .int .i64 T.h.n) rfl; have p7 := Blk.cell hbx3 7 (u := .int .i64 T.h.mn) rfl; have p8 := Blk.cell hbx3 8 (u := .int .i64 T.h.mx) rfl; have p9 := Blk.cell hbx3 9 (u := (.slice A T.l.length cap)) rfl)
 clear hbx hk23
 have hbs : b < w3.heap.size := Nat.lt_of_lt_of_le hblt hk4.size
 have hb3 := hb.keep hk4 id
 go_wp2_with fail
 all_goals
  go_ret
  exact ⟨ret_bool (by rw [Bool.eq_iff_iff]; simp; try omega), hb3, hk4.ob⟩
set_option maxRecDepth 100000 in
set_option maxHeartbeats 4000000 in
theorem own_0 (T : Nd) (s : Chk) (hlen : T.l.length ≤ 1000000) (hg0 : 0 ≤ s.g) (hg1 : s.g ≤ 1000000) (hok : headOk T = true) (hk : T.h.k ≤ 5) (A : Option Addr) (cap : Nat) (hcap : T.l.length ≤ cap) (b : Nat) (w : World) (hb : Blk w b s.row 97) (hl : LiesL w A 0 T.l) :
  Calls Try.prog 82 #[.pointer (some ⟨b, 0, none⟩), .agg (Nd.row T (.slice A T.l.length cap))] w fun e w' => e = .returned (.bool (own T s)) ∧ Blk w' b (ownS T s).row 97 ∧ Keep (Ob b) w w' := by
 have hnd := needed_any T (.slice A T.l.length cap)
 have hblt := hb.lt
 obtain ⟨h1, h2, hh, hkid⟩ : 1 ≤ T.h.k ∧ T.h.k ≤ 10 ∧ neededH T.h = T.h ∧ (kidsOf T.h.k < 0 ∨ kidsOf T.h.k = T.l.length) := by simpa [headOk] using hok
 have hR : own T s = true := by simp only [own, hok]; rw [if_neg (by omega), if_neg (by omega), if_neg (by omega), if_neg (by omega), if_neg (by omega)]; rfl
 have hS : ownS T s = s := by unfold ownS; rw [if_neg (by omega)]
 have hq : kidsOf T.h.k = 0 := by unfold kidsOf; rw [if_neg (by omega), if_neg (by omega), if_neg (by omega), if_neg (by omega)]
 have hq5 : ((0 : Int) != (T.l.length : Int)) = false := by rw [hq] at hkid; simp; omega
 rw [hR, hS]
 rw [hq] at hnd
 have d1 : decide (T.h.k < 1) = false := by simp; omega
 have d2 : decide (10 < T.h.k) = false := by simp; omega
 have t6 : (T.h.k == 6) = false := by simp; omega
 have t7 : (T.h.k == 7) = false := by simp; omega
 have t8 : (T.h.k == 8) = false := by simp; omega
 have t9 : (T.h.k == 9) = false := by simp; omega
 have t10 : (T.h.k == 10) = false := by simp; omega
 clear hkid hR hS hq
 generalize neededH T.h = H at *
 have HND := Lib.hid hnd; clear hnd
 have h3 : headEq ⟨H.k, H.c, H.s0, H.s1, H.s2, H.s3, H.n, H.mn, H.mx⟩ ⟨T.h.k, T.h.c, T.h.s0, T.h.s1, T.h.s2, T.h.s3, T.h.n, T.h.mn, T.h.mx⟩ = true := headEq_iff.2 hh
 clear hh
 have HK := Lib.hid hk; clear hk
 have HOK := Lib.hid hok; clear hok
 have HL := Lib.hid hl; clear hl
 simp only [Nd.row]
 go_enter Try.func82, Try.ntmps82
 go_wp2_with fail
 refine (HND.out _).mono ?_
 rintro e w2 ⟨rfl, hk2⟩
 have hs2 := hk2.size
 simp only [World.size_alloc] at hs2
 have hs3 : w.heap.size < w2.heap.size := by omega
 have hbx : Blk w2 w.heap.size (Nd.row T (.slice A T.l.length cap)) 33 := (Blk.new w _ _).keep hk2 id
 (have o0 := Blk.cell hbx 0 (u := .int .i64 T.h.k) rfl; have o1 := Blk.cell hbx 1 (u := .int .u8 T.h.c) rfl; have o2 := Blk.cell hbx 2 (u := .int .u64 T.h.s0) rfl; have o3 := Blk.cell hbx 3 (u := .int .u64 T.h.s1) rfl; have o4 := Blk.cell hbx 4 (u := .int .u64 T.h.s2) rfl; have o5 := Blk.cell hbx 5 (u := .int .u64 T.h.s3) rfl; have o6 := Blk.cell hbx 6 (u := .int .i64 T.h.n) rfl; have o7 := Blk.cell hbx 7 (u := .int .i64 T.h.mn) rfl; have o8 := Blk.cell hbx 8 (u := .int .i64 T.h.mx) rfl; have o9 := Blk.cell hbx 9 (u := (.slice A T.l.length cap)) rfl)
 have hkw : Keep Nb w w2 := Keep.trans kp hk2 (fun _ _ h => h)
 clear hk2 HND hs2
 go_wp2_with fail
 refine wp_region_x (by kernel_rfl) (by kernel_rfl) ?_; (repeat (go_big_quiet_step (((go_at_call 59; exact Calls.ext _ (top_lit _ _ _)))))); refine wpQuiet_nil ?_; rintro w3 ⟨⟨_, hk3⟩, rfl⟩
 have hk23 : Keep Nb w2 w3 := Keep.trans kp hk3 (fun _ _ h => h)
 have hk4 : Keep Nb w w3 := hkw.trans hk23 (fun _ _ h => h)
 have hbx3 := hbx.keep hk23 id
 have hs33 : w.heap.size < w3.heap.size := Nat.lt_of_lt_of_le hs3 hk23.size
 (have p0 := Blk.cell hbx3 0 (u := .int .i64 T.h.k) rfl; have p1 := Blk.cell hbx3 1 (u := .int .u8 T.h.c) rfl; have p2 := Blk.cell hbx3 2 (u := .int .u64 T.h.s0) rfl; have p3 := Blk.cell hbx3 3 (u := .int .u64 T.h.s1) rfl; have p4 := Blk.cell hbx3 4 (u := .int .u64 T.h.s2) rfl; have p5 := Blk.cell hbx3 5 (u := .int .u64 T.h.s3) rfl; have p6 := Blk.cell hbx3 6 (u := .int .i64 T.h.n) rfl; have p7 := Blk.cell hbx3 7 (u := .int .i64 T.h.mn) rfl; have p8 := Blk.cell hbx3 8 (u := .int .i64 T.h.mx) rfl; have p9 := Blk.cell hbx3 9 (u := (.slice A T.l.length cap)) rfl)
 clear hbx hk23
 have hbs : b < w3.heap.size := Nat.lt_of_lt_of_le hblt hk4.size
 have hb3 := hb.keep hk4 id
 go_wp2_with fail
 go_ret
 exact ⟨ret_bool rfl, hb3, hk4.ob⟩
set_option maxRecDepth 100000 in
set_option maxHeartbeats 4000000 in
theorem own_10 (T : Nd) (s : Chk) (hlen : T.l.length ≤ 1000000) (hg0 : 0 ≤ s.g) (hg1 : s.g ≤ 1000000) (hok : headOk T = true) (hk : T.h.k = 10) (A : Option Addr) (cap : Nat) (hcap : T.l.length ≤ cap) (b : Nat) (w : World) (hb : Blk w b s.row 97) (hl : LiesL w A 0 T.l) :
  Calls Try.prog 82 #[.pointer (some ⟨b, 0, none⟩), .agg (Nd.row T (.slice A T.l.length cap))] w fun e w' => e = .returned (.bool (own T s)) ∧ Blk w' b (ownS T s).row 97 ∧ Keep (Ob b) w w' := by
 have hnd := needed_any T (.slice A T.l.length cap)
 have hblt := hb.lt
 obtain ⟨h1, h2, hh, hkid⟩ : 1 ≤ T.h.k ∧ T.h.k ≤ 10 ∧ neededH T.h = T.h ∧ (kidsOf T.h.k < 0 ∨ kidsOf T.h.k = T.l.length) := by simpa [headOk] using hok
 have hS : ownS T s = s := by simp [ownS, hk]
 have hq : kidsOf T.h.k = 1 := by rw [hk]; rfl
 have hq5 : ((1 : Int) != (T.l.length : Int)) = false := by rw [hq] at hkid; simp; omega
 have hl1 : T.l.length = 1 := by rw [hq] at hkid; omega
 have hlt0 : 0 < T.l.length := by omega
 have hR : own T s = (boundsOk T.h && decide (T.l[0].h.k ∉ [(4 : Int), 5, 10])) := by simp [own, hok, hk, List.getElem?_eq_getElem hlt0]
 rw [hR, hS]
 rw [hq] at hnd
 obtain ⟨b', off, A2, n2, rfl, hten, hS0⟩ := hl.at 0 hlt0
 rw [Nat.zero_mul, Nat.add_zero] at hten
 have hbt := fun wx => bounds_any T (.slice (some ⟨b', off, none⟩) T.l.length cap) wx
 have d1 : decide (T.h.k < 1) = false := by simp; omega
 have d2 : decide (10 < T.h.k) = false := by simp; omega
 have t6 : (T.h.k == 6) = false := by rw [hk]; rfl
 have t7 : (T.h.k == 7) = false := by rw [hk]; rfl
 have t8 : (T.h.k == 8) = false := by rw [hk]; rfl
 have t9 : (T.h.k == 9) = false := by rw [hk]; rfl
 have t10 : (T.h.k == 10) = true := by rw [hk]; rfl
 clear hkid hR hS hq
 generalize neededH T.h = H at *
 have HND := Lib.hid hnd; clear hnd
 have h3 : headEq ⟨H.k, H.c, H.s0, H.s1, H.s2, H.s3, H.n, H.mn, H.mx⟩ ⟨T.h.k, T.h.c, T.h.s0, T.h.s1, T.h.s2, T.h.s3, T.h.n, T.h.mn, T.h.mx⟩ = true := headEq_iff.2 hh
 clear hh
 have HK := Lib.hid hk; clear hk
 have HOK := Lib.hid hok; clear hok
 generalize hB : boundsOk T.h = B at *
 have HB := Lib.hid hB; clear hB
 have HBT := Lib.hid hbt; clear hbt
 have HL1 := Lib.hid hl1; clear hl1
 have hl0 : (0 : Int) < (T.l.length : Int) := by omega
 generalize hx : T.l[0] = x0 at *
 have HX0 := Lib.hid hx; clear hx
 simp only [Nd.row]
 go_enter Try.func82, Try.ntmps82
 go_wp2_with fail
 refine (HND.out _).mono ?_
 rintro e w2 ⟨rfl, hk2⟩
 have hs2 := hk2.size
 simp only [World.size_alloc] at hs2
 have hs3 : w.heap.size < w2.heap.size := by omega
 have hbx : Blk w2 w.heap.size (Nd.row T (.slice (some ⟨b', off, none⟩) T.l.length cap)) 33 := (Blk.new w _ _).keep hk2 id
 (have o0 := Blk.cell hbx 0 (u := .int .i64 T.h.k) rfl; have o1 := Blk.cell hbx 1 (u := .int .u8 T.h.c) rfl; have o2 := Blk.cell hbx 2 (u := .int .u64 T.h.s0) rfl; have o3 := Blk.cell hbx 3 (u := .int .u64 T.h.s1) rfl; have o4 := Blk.cell hbx 4 (u := .int .u64 T.h.s2) rfl; have o5 := Blk.cell hbx 5 (u := .int .u64 T.h.s3) rfl; have o6 := Blk.cell hbx 6 (u := .int .i64 T.h.n) rfl; have o7 := Blk.cell hbx 7 (u := .int .i64 T.h.mn) rfl; have o8 := Blk.cell hbx 8 (u := .int .i64 T.h.mx) rfl; have o9 := Blk.cell hbx 9 (u := (.slice (some ⟨b', off, none⟩) T.l.length cap)) rfl)
 have hkw : Keep Nb w w2 := Keep.trans kp hk2 (fun _ _ h => h)
 clear hk2 HND hs2
 go_wp2_with fail
 refine wp_region_x (by kernel_rfl) (by kernel_rfl) ?_; (repeat (go_big_quiet_step (((go_at_call 59; exact Calls.ext _ (top_lit _ _ _)))))); refine wpQuiet_nil ?_; rintro w3 ⟨⟨_, hk3⟩, rfl⟩
 have hk23 : Keep Nb w2 w3 := Keep.trans kp hk3 (fun _ _ h => h)
 have hk4 : Keep Nb w w3 := hkw.trans hk23 (fun _ _ h => h)
 have hbx3 := hbx.keep hk23 id
 have hs33 : w.heap.size < w3.heap.size := Nat.lt_of_lt_of_le hs3 hk23.size
 (have p0 := Blk.cell hbx3 0 (u := .int .i64 T.h.k) rfl; have p1 := Blk.cell hbx3 1 (u := .int .u8 T.h.c) rfl; have p2 := Blk.cell hbx3 2 (u := .int .u64 T.h.s0) rfl; have p3 := Blk.cell hbx3 3 (u := .int .u64 T.h.s1) rfl; have p4 := Blk.cell hbx3 4 (u := .int .u64 T.h.s2) rfl; have p5 := Blk.cell hbx3 5 (u := .int .u64 T.h.s3) rfl; have p6 := Blk.cell hbx3 6 (u := .int .i64 T.h.n) rfl; have p7 := Blk.cell hbx3 7 (u := .int .i64 T.h.mn) rfl; have p8 := Blk.cell hbx3 8 (u := .int .i64 T.h.mx) rfl; have p9 := Blk.cell hbx3 9 (u := (.slice (some ⟨b', off, none⟩) T.l.length cap)) rfl)
 clear hbx hk23
 have hbs : b < w3.heap.size := Nat.lt_of_lt_of_le hblt hk4.size
 have hb3 := hb.keep hk4 id
 have q0 := (hten.keep hk4).c0
 have hb3l : b' < w3.heap.size := (hten.keep hk4).lt
 have hc3 := hb3.lt
 go_wp2_with fail
 refine (HBT.out _).mono ?_
 rintro e w4 ⟨rfl, hk5⟩
 have q0' := hk5.cell q0 id
 have hbl4 : b' < w4.heap.size := Nat.lt_of_lt_of_le hb3l hk5.size
 have p9' := hk5.cell p9 id
 have hs44 : w.heap.size < w4.heap.size := Nat.lt_of_lt_of_le hs33 hk5.size
 cases B with
 | true =>
  go_wp2_with fail
  have hbs4 := Blk.new w4 #[.int .i64 4, .int .i64 5, .int .i64 10] 3
  refine (contains_any [4, 5, 10] (by simp) w4.heap.size 3 x0.h.k _ (fun i hi => hbs4.cell i (by
   have : i = 0 ∨ i = 1 ∨ i = 2 := by simp at hi; omega
   rcases this with rfl | rfl | rfl <;> rfl))).mono ?_
  generalize hd : decide (x0.h.k ∈ [(4 : Int), 5, 10]) = d
  have HD := Lib.hid hd; clear hd
  rintro e w5 ⟨rfl, hk6⟩
  have hk7 : Keep Nb w3 w5 := (hk5.alloc _).trans hk6 (fun _ _ h => h)
  go_wp2_with fail
  go_ret
  exact ⟨ret_bool (by rw [← HD.out]; simp), hb3.keep hk7 id, (hk4.trans hk7 (fun _ _ h => h)).ob⟩
 | false =>
  go_wp2_with fail
  go_ret
  exact ⟨ret_bool (by simp), hb3.keep hk5 id, (hk4.trans hk5 (fun _ _ h => h)).ob⟩
end Go.Proofs.Ytkidjbfapldmbaa
