/- Whether a node is as it should be, but for those in it: (*checker).own of the program. -/
import Derived.Test.YtkidjbfapldmbaaOwn1
import Derived.Test.YtkidjbfapldmbaaTop
namespace Go.Proofs.Ytkidjbfapldmbaa
set_option linter.unusedVariables false
set_option linter.unusedSimpArgs false
open Go.RowKit P8

/-- What goes through nodes: how many groups began, which ended. -/
structure Chk where
  g : Int
  E : Nat → Bool

def Chk.row (s : Chk) : Array Value := #[.int .i64 s.g, .bool (s.E 0), .bool (s.E 1), .bool (s.E 2), .bool (s.E 3), .bool (s.E 4), .bool (s.E 5), .bool (s.E 6), .bool (s.E 7), .bool (s.E 8), .bool (s.E 9)]

def headOk (T : Nd) : Bool := decide (1 ≤ T.h.k ∧ T.h.k ≤ 10 ∧ neededH T.h = T.h ∧ (kidsOf T.h.k < 0 ∨ kidsOf T.h.k = T.l.length))
def own (T : Nd) (s : Chk) : Bool :=
  headOk T && (if T.h.k = 6 then decide (s.g + 1 ≤ 9 ∧ T.h.n = s.g + 1) else if T.h.k = 7 then decide (0 < T.h.n ∧ T.h.n ≤ 9) && s.E T.h.n.toNat
    else if T.h.k = 8 then decide (T.l.length ≠ 1) else if T.h.k = 9 then decide (1 < T.l.length)
    else if T.h.k = 10 then boundsOk T.h && decide (∀ x, T.l[0]? = some x → x.h.k ∉ [(4 : Int), 5, 10]) else true)
def ownS (T : Nd) (s : Chk) : Chk := if headOk T = true ∧ T.h.k = 6 then { s with g := s.g + 1 } else s

set_option maxRecDepth 100000 in
set_option maxHeartbeats 4000000 in
theorem own_bad1 (T : Nd) (hb : T.h.k < 1) (b : Nat) (v : Value) (w : World) :
    Calls Try.prog 82 #[.pointer (some ⟨b, 0, none⟩), .agg (Nd.row T v)] w fun e w' => e = .returned (.bool false) ∧ Keep Nb w w' := by
  have hnd := needed_any T v
  generalize neededH T.h = H at *
  generalize kidsOf T.h.k = q at *
  have HND := Lib.hid hnd; clear hnd
  simp only [Nd.row]
  go_enter Try.func82, Try.ntmps82
  go_wp2_with fail
  refine (HND.out _).mono ?_
  rintro e w2 ⟨rfl, hk2⟩
  have hs2 := hk2.size
  simp only [World.size_alloc] at hs2
  have hs3 : w.heap.size < w2.heap.size := by omega
  have hbx : Blk w2 w.heap.size (Nd.row T v) 33 := (Blk.new w _ _).keep hk2 id
  (have o0 := Blk.cell hbx 0 (u := .int .i64 T.h.k) rfl; have o1 := Blk.cell hbx 1 (u := .int .u8 T.h.c) rfl; have o2 := Blk.cell hbx 2 (u := .int .u64 T.h.s0) rfl; have o3 := Blk.cell hbx 3 (u := .int .u64 T.h.s1) rfl; have o4 := Blk.cell hbx 4 (u := .int .u64 T.h.s2) rfl; have o5 := Blk.cell hbx 5 (u := .int .u64 T.h.s3) rfl; have o6 := Blk.cell hbx 6 (u := .int .i64 T.h.n) rfl; have o7 := Blk.cell hbx 7 (u := .int .i64 T.h.mn) rfl; have o8 := Blk.cell hbx 8 (u := .int .i64 T.h.mx) rfl; have o9 := Blk.cell hbx 9 (u := v) rfl)
  have hkw : Keep Nb w w2 := Keep.trans (by repeat (first | assumption | exact Keep.refl _ _ | refine Keep.alloc ?_ _ | refine Keep.drew ?_ | refine Keep.setCell ?_ (Or.inl (by simp)) _ | refine Keep.setRow ?_ (Or.inl (by simp)) _)) hk2 (fun _ _ h => h)
  clear hk2 HND hs2
  go_wp2_with fail
  refine wp_region_x (by kernel_rfl) (by kernel_rfl) ?_; (repeat (go_big_quiet_step (((go_at_call 59; exact Calls.ext _ (top_lit _ _ _)))))); refine wpQuiet_nil ?_; rintro w3 ⟨⟨_, hk3⟩, rfl⟩
  have hk23 : Keep Nb w2 w3 := Keep.trans (by repeat (first | assumption | exact Keep.refl _ _ | refine Keep.alloc ?_ _ | refine Keep.drew ?_ | refine Keep.setCell ?_ (Or.inl (by simp)) _ | refine Keep.setRow ?_ (Or.inl (by simp)) _)) hk3 (fun _ _ h => h)
  have hk4 : Keep Nb w w3 := hkw.trans hk23 (fun _ _ h => h)
  have hbx3 := hbx.keep hk23 id
  have hs33 : w.heap.size < w3.heap.size := Nat.lt_of_lt_of_le hs3 hk23.size
  (have p0 := Blk.cell hbx3 0 (u := .int .i64 T.h.k) rfl; have p1 := Blk.cell hbx3 1 (u := .int .u8 T.h.c) rfl; have p2 := Blk.cell hbx3 2 (u := .int .u64 T.h.s0) rfl; have p3 := Blk.cell hbx3 3 (u := .int .u64 T.h.s1) rfl; have p4 := Blk.cell hbx3 4 (u := .int .u64 T.h.s2) rfl; have p5 := Blk.cell hbx3 5 (u := .int .u64 T.h.s3) rfl; have p6 := Blk.cell hbx3 6 (u := .int .i64 T.h.n) rfl; have p7 := Blk.cell hbx3 7 (u := .int .i64 T.h.mn) rfl; have p8 := Blk.cell hbx3 8 (u := .int .i64 T.h.mx) rfl; have p9 := Blk.cell hbx3 9 (u := v) rfl)
  clear hbx hk23
  go_wp2_with fail
  go_ret
  exact ⟨rfl, hk4⟩

set_option maxRecDepth 100000 in
set_option maxHeartbeats 4000000 in
theorem own_bad2 (T : Nd) (h1 : 1 ≤ T.h.k) (hb : 10 < T.h.k) (b : Nat) (v : Value) (w : World) :
    Calls Try.prog 82 #[.pointer (some ⟨b, 0, none⟩), .agg (Nd.row T v)] w fun e w' => e = .returned (.bool false) ∧ Keep Nb w w' := by
  have hnd := needed_any T v
  generalize neededH T.h = H at *
  generalize kidsOf T.h.k = q at *
  have HND := Lib.hid hnd; clear hnd
  have d1 : decide (T.h.k < 1) = false := by simp; omega
  have d2 : decide (10 < T.h.k) = true := by simp; omega
  simp only [Nd.row]
  go_enter Try.func82, Try.ntmps82
  go_wp2_with fail
  refine (HND.out _).mono ?_
  rintro e w2 ⟨rfl, hk2⟩
  have hs2 := hk2.size
  simp only [World.size_alloc] at hs2
  have hs3 : w.heap.size < w2.heap.size := by omega
  have hbx : Blk w2 w.heap.size (Nd.row T v) 33 := (Blk.new w _ _).keep hk2 id
  (have o0 := Blk.cell hbx 0 (u := .int .i64 T.h.k) rfl; have o1 := Blk.cell hbx 1 (u := .int .u8 T.h.c) rfl; have o2 := Blk.cell hbx 2 (u := .int .u64 T.h.s0) rfl; have o3 := Blk.cell hbx 3 (u := .int .u64 T.h.s1) rfl; have o4 := Blk.cell hbx 4 (u := .int .u64 T.h.s2) rfl; have o5 := Blk.cell hbx 5 (u := .int .u64 T.h.s3) rfl; have o6 := Blk.cell hbx 6 (u := .int .i64 T.h.n) rfl; have o7 := Blk.cell hbx 7 (u := .int .i64 T.h.mn) rfl; have o8 := Blk.cell hbx 8 (u := .int .i64 T.h.mx) rfl; have o9 := Blk.cell hbx 9 (u := v) rfl)
  have hkw : Keep Nb w w2 := Keep.trans (by repeat (first | assumption | exact Keep.refl _ _ | refine Keep.alloc ?_ _ | refine Keep.drew ?_ | refine Keep.setCell ?_ (Or.inl (by simp)) _ | refine Keep.setRow ?_ (Or.inl (by simp)) _)) hk2 (fun _ _ h => h)
  clear hk2 HND hs2
  go_wp2_with fail
  refine wp_region_x (by kernel_rfl) (by kernel_rfl) ?_; (repeat (go_big_quiet_step (((go_at_call 59; exact Calls.ext _ (top_lit _ _ _)))))); refine wpQuiet_nil ?_; rintro w3 ⟨⟨_, hk3⟩, rfl⟩
  have hk23 : Keep Nb w2 w3 := Keep.trans (by repeat (first | assumption | exact Keep.refl _ _ | refine Keep.alloc ?_ _ | refine Keep.drew ?_ | refine Keep.setCell ?_ (Or.inl (by simp)) _ | refine Keep.setRow ?_ (Or.inl (by simp)) _)) hk3 (fun _ _ h => h)
  have hk4 : Keep Nb w w3 := hkw.trans hk23 (fun _ _ h => h)
  have hbx3 := hbx.keep hk23 id
  have hs33 : w.heap.size < w3.heap.size := Nat.lt_of_lt_of_le hs3 hk23.size
  (have p0 := Blk.cell hbx3 0 (u := .int .i64 T.h.k) rfl; have p1 := Blk.cell hbx3 1 (u := .int .u8 T.h.c) rfl; have p2 := Blk.cell hbx3 2 (u := .int .u64 T.h.s0) rfl; have p3 := Blk.cell hbx3 3 (u := .int .u64 T.h.s1) rfl; have p4 := Blk.cell hbx3 4 (u := .int .u64 T.h.s2) rfl; have p5 := Blk.cell hbx3 5 (u := .int .u64 T.h.s3) rfl; have p6 := Blk.cell hbx3 6 (u := .int .i64 T.h.n) rfl; have p7 := Blk.cell hbx3 7 (u := .int .i64 T.h.mn) rfl; have p8 := Blk.cell hbx3 8 (u := .int .i64 T.h.mx) rfl; have p9 := Blk.cell hbx3 9 (u := v) rfl)
  clear hbx hk23
  go_wp2_with fail
  go_ret
  exact ⟨rfl, hk4⟩

set_option maxRecDepth 100000 in
set_option maxHeartbeats 4000000 in
theorem own_bad3 (T : Nd) (h1 : 1 ≤ T.h.k) (h2 : T.h.k ≤ 10) (hb : neededH T.h ≠ T.h) (b : Nat) (v : Value) (w : World) :
    Calls Try.prog 82 #[.pointer (some ⟨b, 0, none⟩), .agg (Nd.row T v)] w fun e w' => e = .returned (.bool false) ∧ Keep Nb w w' := by
  have hnd := needed_any T v
  generalize neededH T.h = H at *
  generalize kidsOf T.h.k = q at *
  have HND := Lib.hid hnd; clear hnd
  have d1 : decide (T.h.k < 1) = false := by simp; omega
  have d2 : decide (10 < T.h.k) = false := by simp; omega
  have h3 : headEq ⟨H.k, H.c, H.s0, H.s1, H.s2, H.s3, H.n, H.mn, H.mx⟩ ⟨T.h.k, T.h.c, T.h.s0, T.h.s1, T.h.s2, T.h.s3, T.h.n, T.h.mn, T.h.mx⟩ = false := by rw [Bool.eq_false_iff]; exact fun e => hb (headEq_iff.1 e)
  clear hb
  simp only [Nd.row]
  go_enter Try.func82, Try.ntmps82
  go_wp2_with fail
  refine (HND.out _).mono ?_
  rintro e w2 ⟨rfl, hk2⟩
  have hs2 := hk2.size
  simp only [World.size_alloc] at hs2
  have hs3 : w.heap.size < w2.heap.size := by omega
  have hbx : Blk w2 w.heap.size (Nd.row T v) 33 := (Blk.new w _ _).keep hk2 id
  (have o0 := Blk.cell hbx 0 (u := .int .i64 T.h.k) rfl; have o1 := Blk.cell hbx 1 (u := .int .u8 T.h.c) rfl; have o2 := Blk.cell hbx 2 (u := .int .u64 T.h.s0) rfl; have o3 := Blk.cell hbx 3 (u := .int .u64 T.h.s1) rfl; have o4 := Blk.cell hbx 4 (u := .int .u64 T.h.s2) rfl; have o5 := Blk.cell hbx 5 (u := .int .u64 T.h.s3) rfl; have o6 := Blk.cell hbx 6 (u := .int .i64 T.h.n) rfl; have o7 := Blk.cell hbx 7 (u := .int .i64 T.h.mn) rfl; have o8 := Blk.cell hbx 8 (u := .int .i64 T.h.mx) rfl; have o9 := Blk.cell hbx 9 (u := v) rfl)
  have hkw : Keep Nb w w2 := Keep.trans (by repeat (first | assumption | exact Keep.refl _ _ | refine Keep.alloc ?_ _ | refine Keep.drew ?_ | refine Keep.setCell ?_ (Or.inl (by simp)) _ | refine Keep.setRow ?_ (Or.inl (by simp)) _)) hk2 (fun _ _ h => h)
  clear hk2 HND hs2
  go_wp2_with fail
  refine wp_region_x (by kernel_rfl) (by kernel_rfl) ?_; (repeat (go_big_quiet_step (((go_at_call 59; exact Calls.ext _ (top_lit _ _ _)))))); refine wpQuiet_nil ?_; rintro w3 ⟨⟨_, hk3⟩, rfl⟩
  have hk23 : Keep Nb w2 w3 := Keep.trans (by repeat (first | assumption | exact Keep.refl _ _ | refine Keep.alloc ?_ _ | refine Keep.drew ?_ | refine Keep.setCell ?_ (Or.inl (by simp)) _ | refine Keep.setRow ?_ (Or.inl (by simp)) _)) hk3 (fun _ _ h => h)
  have hk4 : Keep Nb w w3 := hkw.trans hk23 (fun _ _ h => h)
  have hbx3 := hbx.keep hk23 id
  have hs33 : w.heap.size < w3.heap.size := Nat.lt_of_lt_of_le hs3 hk23.size
  (have p0 := Blk.cell hbx3 0 (u := .int .i64 T.h.k) rfl; have p1 := Blk.cell hbx3 1 (u := .int .u8 T.h.c) rfl; have p2 := Blk.cell hbx3 2 (u := .int .u64 T.h.s0) rfl; have p3 := Blk.cell hbx3 3 (u := .int .u64 T.h.s1) rfl; have p4 := Blk.cell hbx3 4 (u := .int .u64 T.h.s2) rfl; have p5 := Blk.cell hbx3 5 (u := .int .u64 T.h.s3) rfl; have p6 := Blk.cell hbx3 6 (u := .int .i64 T.h.n) rfl; have p7 := Blk.cell hbx3 7 (u := .int .i64 T.h.mn) rfl; have p8 := Blk.cell hbx3 8 (u := .int .i64 T.h.mx) rfl; have p9 := Blk.cell hbx3 9 (u := v) rfl)
  clear hbx hk23
  go_wp2_with fail
  go_ret
  exact ⟨rfl, hk4⟩

set_option maxRecDepth 100000 in
set_option maxHeartbeats 4000000 in
theorem own_bad4 (T : Nd) (A : Option Addr) (cap : Nat) (hlen : T.l.length ≤ 1000000) (h1 : 1 ≤ T.h.k) (h2 : T.h.k ≤ 10) (hh : neededH T.h = T.h) (hq : 0 ≤ kidsOf T.h.k) (hb : kidsOf T.h.k ≠ T.l.length) (b : Nat) (w : World) :
    Calls Try.prog 82 #[.pointer (some ⟨b, 0, none⟩), .agg (Nd.row T (.slice A T.l.length cap))] w fun e w' => e = .returned (.bool false) ∧ Keep Nb w w' := by
  have hnd := needed_any T (.slice A T.l.length cap)
  generalize neededH T.h = H at *
  generalize kidsOf T.h.k = q at *
  have HND := Lib.hid hnd; clear hnd
  have d1 : decide (T.h.k < 1) = false := by simp; omega
  have d2 : decide (10 < T.h.k) = false := by simp; omega
  have d4 : decide (0 ≤ q) = true := by simpa using hq
  have h3 : headEq ⟨H.k, H.c, H.s0, H.s1, H.s2, H.s3, H.n, H.mn, H.mx⟩ ⟨T.h.k, T.h.c, T.h.s0, T.h.s1, T.h.s2, T.h.s3, T.h.n, T.h.mn, T.h.mx⟩ = true := headEq_iff.2 hh
  have h5 : (q != (T.l.length : Int)) = true := by simpa using hb
  clear hb hh
  simp only [Nd.row]
  go_enter Try.func82, Try.ntmps82
  go_wp2_with fail
  refine (HND.out _).mono ?_
  rintro e w2 ⟨rfl, hk2⟩
  have hs2 := hk2.size
  simp only [World.size_alloc] at hs2
  have hs3 : w.heap.size < w2.heap.size := by omega
  have hbx : Blk w2 w.heap.size (Nd.row T (.slice A T.l.length cap)) 33 := (Blk.new w _ _).keep hk2 id
  (have o0 := Blk.cell hbx 0 (u := .int .i64 T.h.k) rfl; have o1 := Blk.cell hbx 1 (u := .int .u8 T.h.c) rfl; have o2 := Blk.cell hbx 2 (u := .int .u64 T.h.s0) rfl; have o3 := Blk.cell hbx 3 (u := .int .u64 T.h.s1) rfl; have o4 := Blk.cell hbx 4 (u := .int .u64 T.h.s2) rfl; have o5 := Blk.cell hbx 5 (u := .int .u64 T.h.s3) rfl; have o6 := Blk.cell hbx 6 (u := .int .i64 T.h.n) rfl; have o7 := Blk.cell hbx 7 (u := .int .i64 T.h.mn) rfl; have o8 := Blk.cell hbx 8 (u := .int .i64 T.h.mx) rfl; have o9 := Blk.cell hbx 9 (u := (.slice A T.l.length cap)) rfl)
  have hkw : Keep Nb w w2 := Keep.trans (by repeat (first | assumption | exact Keep.refl _ _ | refine Keep.alloc ?_ _ | refine Keep.drew ?_ | refine Keep.setCell ?_ (Or.inl (by simp)) _ | refine Keep.setRow ?_ (Or.inl (by simp)) _)) hk2 (fun _ _ h => h)
  clear hk2 HND hs2
  go_wp2_with fail
  refine wp_region_x (by kernel_rfl) (by kernel_rfl) ?_; (repeat (go_big_quiet_step (((go_at_call 59; exact Calls.ext _ (top_lit _ _ _)))))); refine wpQuiet_nil ?_; rintro w3 ⟨⟨_, hk3⟩, rfl⟩
  have hk23 : Keep Nb w2 w3 := Keep.trans (by repeat (first | assumption | exact Keep.refl _ _ | refine Keep.alloc ?_ _ | refine Keep.drew ?_ | refine Keep.setCell ?_ (Or.inl (by simp)) _ | refine Keep.setRow ?_ (Or.inl (by simp)) _)) hk3 (fun _ _ h => h)
  have hk4 : Keep Nb w w3 := hkw.trans hk23 (fun _ _ h => h)
  have hbx3 := hbx.keep hk23 id
  have hs33 : w.heap.size < w3.heap.size := Nat.lt_of_lt_of_le hs3 hk23.size
  (have p0 := Blk.cell hbx3 0 (u := .int .i64 T.h.k) rfl; have p1 := Blk.cell hbx3 1 (u := .int .u8 T.h.c) rfl; have p2 := Blk.cell hbx3 2 (u := .int .u64 T.h.s0) rfl; have p3 := Blk.cell hbx3 3 (u := .int .u64 T.h.s1) rfl; have p4 := Blk.cell hbx3 4 (u := .int .u64 T.h.s2) rfl; have p5 := Blk.cell hbx3 5 (u := .int .u64 T.h.s3) rfl; have p6 := Blk.cell hbx3 6 (u := .int .i64 T.h.n) rfl; have p7 := Blk.cell hbx3 7 (u := .int .i64 T.h.mn) rfl; have p8 := Blk.cell hbx3 8 (u := .int .i64 T.h.mx) rfl; have p9 := Blk.cell hbx3 9 (u := (.slice A T.l.length cap)) rfl)
  clear hbx hk23
  go_wp2_with fail
  go_ret
  exact ⟨rfl, hk4⟩

end Go.Proofs.Ytkidjbfapldmbaa
