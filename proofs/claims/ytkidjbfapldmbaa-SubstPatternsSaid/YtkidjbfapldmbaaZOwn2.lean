import Derived.Test.YtkidjbfapldmbaaZTop
import Derived.Test.YtkidjbfapldmbaaZCount
set_option linter.unusedVariables false
set_option linter.unusedSimpArgs false
namespace Go.Proofs.Ytkidjbfapldmbaa
open Go.RowKit P8
def boundsOk (h : Hd) : Bool := decide (0 ≤ h.mn ∧ h.mn ≤ 255 ∧ (h.mx = -1 ∨ (h.mn ≤ h.mx ∧ h.mx ≤ 255)))
set_option maxHeartbeats 1000000 in
theorem bounds_any (T : Nd) (v : Value) (w : World) :
  Calls Try.prog 98 #[.agg (Nd.row T v)] w fun e w' => e = .returned (.bool (boundsOk T.h)) ∧ Keep Nb w w' := by
 obtain ⟨h, l⟩ := T
 simp only [Nd.row, Nd.h]
 generalize hR : boundsOk h = R
 have HR := Lib.hid hR; clear hR
 by_cases e1 : 0 ≤ h.mn
 ·by_cases e2 : h.mn ≤ 255
  ·by_cases e3 : h.mx = -1
   ·have b3 : (h.mx == -1) = true := by simpa using e3
    have H3 := Lib.hid e3; clear e3
    go_enter Try.func98, Try.ntmps98
    go_wp2_with fail
    go_ret
    exact ⟨ret_bool (by rw [← HR.out]; have := H3.out; simp [boundsOk]; omega), kp⟩
   ·have b3 : (h.mx == -1) = false := by simpa using e3
    have H3 := Lib.hid e3; clear e3
    by_cases e4 : h.mn ≤ h.mx
    ·have b4 : (decide (h.mx ≤ 255)) = decide (h.mx ≤ 255) := rfl
     go_enter Try.func98, Try.ntmps98
     go_wp2_with fail
     all_goals
      go_ret
      exact ⟨ret_bool (by rw [← HR.out]; have := H3.out; rw [Bool.eq_iff_iff]; simp [boundsOk]; omega), kp⟩
    ·go_enter Try.func98, Try.ntmps98
     go_wp2_with fail
     go_ret
     exact ⟨ret_bool (by rw [← HR.out]; have := H3.out; simp [boundsOk]; omega), kp⟩
  ·go_enter Try.func98, Try.ntmps98
   go_wp2_with fail
   go_ret
   exact ⟨ret_bool (by rw [← HR.out]; simp [boundsOk]; omega), kp⟩
 ·go_enter Try.func98, Try.ntmps98
  go_wp2_with fail
  go_ret
  exact ⟨ret_bool (by rw [← HR.out]; simp [boundsOk]; omega), kp⟩
def indexOf (xs : List Int) (v : Int) (i : Nat) : Int := match xs with | [] => -1 | x :: r => if v = x then i else indexOf r v (i + 1)
theorem indexOf_drop (xs : List Int) (v : Int) (j : Nat) (hj : j < xs.length) : indexOf (xs.drop j) v j = if v = xs[j] then (j : Int) else indexOf (xs.drop (j + 1)) v (j + 1) := by
 rw [List.drop_eq_getElem_cons hj, indexOf]
theorem indexOf_mem (xs : List Int) (v : Int) (i : Nat) : decide (0 ≤ indexOf xs v i) = decide (v ∈ xs) := by
 induction xs generalizing i with
 | nil => simp [indexOf]
 | cons x r ih =>
  rw [indexOf]
  split
  ·rename_i h; simp [h]
  ·rename_i h; rw [ih]; simp [h]
set_option maxHeartbeats 1000000 in
theorem index_any (xs : List Int) (hx : xs.length ≤ 1000000) (b cap : Nat) (v : Int) (w : World) (hc : ∀ i, (hi : i < xs.length) → w.cell? ⟨b, i, none⟩ = some (.int .i64 xs[i])) :
  Calls Try.prog 112 #[.slice (some ⟨b, 0, none⟩) xs.length cap, .int .i64 v] w fun e w' => e = .returned (.int .i64 (indexOf xs v 0)) ∧ Keep Nb w w' := by
 generalize hR : indexOf xs v 0 = R
 have HR := Lib.hid hR; clear hR
 go_enter Try.func112, Try.ntmps112
 go_wp2_with fail
 go_loopw [8] (fun i wr => ∃ j : Nat, j ≤ xs.length ∧ i = .int .i64 j ∧ Hid (R = indexOf (xs.drop j) v j) ∧ Keep Nb w wr) (fun i _ => xs.length - (intOf i).toNat)
 case atStart => exact ⟨0, by omega, rfl, Lib.hid (by rw [← HR.out]; rfl), Keep.refl _ _⟩
 case round =>
  obtain ⟨j, hj, rfl, hH, hk⟩ := hrel
  by_cases hlt : j < xs.length
  ·have c0 := hk.cell (hc j hlt) id
   have hst := indexOf_drop xs v j hlt
   rw [← hH.out] at hst
   have HS := Lib.hid hst; clear hst hH
   generalize hq : xs[j] = x at c0 HS
   clear hc hq
   by_cases hv : v = x
   ·have b0 : (v == x) = true := by simpa using hv
    have HV := Lib.hid hv; clear hv
    go_wp2_with fail
    go_ret
    exact ⟨ret_int (by rw [HS.out, if_pos HV.out]), hk⟩
   ·have b0 : (v == x) = false := by simpa using hv
    have HV := Lib.hid hv; clear hv
    go_wp2_with fail
    go_roundw
    case rel => exact ⟨j + 1, by omega, by go_num, Lib.hid (by rw [HS.out, if_neg HV.out]), hk⟩
    case measure => simp [intOf]; omega
  ·obtain rfl : j = xs.length := by omega
   have hF := hH.out
   rw [List.drop_length, indexOf] at hF
   have HF := Lib.hid hF; clear hF hH
   go_wp2_with fail
   go_ret
   exact ⟨ret_int HF.out.symm, hk⟩
set_option maxHeartbeats 1000000 in
theorem contains_any (xs : List Int) (hx : xs.length ≤ 1000000) (b cap : Nat) (v : Int) (w : World) (hc : ∀ i, (hi : i < xs.length) → w.cell? ⟨b, i, none⟩ = some (.int .i64 xs[i])) :
  Calls Try.prog 99 #[.slice (some ⟨b, 0, none⟩) xs.length cap, .int .i64 v] w fun e w' => e = .returned (.bool (decide (v ∈ xs))) ∧ Keep Nb w w' := by
 have HC := Lib.hid hc; clear hc
 go_enter Try.func99, Try.ntmps99
 go_wp2_with fail
 refine (index_any xs hx b cap v w HC.out).mono ?_
 rintro e w2 ⟨rfl, hk⟩
 have hm := indexOf_mem xs v 0
 generalize indexOf xs v 0 = q at hm ⊢
 have HM := Lib.hid hm; clear hm
 go_wp2_with fail
 all_goals
  go_ret
  exact ⟨ret_bool HM.out, hk⟩
structure Chk where
 g : Int
 E : Nat → Bool
def Chk.row (s : Chk) : Array Value := #[.int .i64 s.g, .bool (s.E 0), .bool (s.E 1), .bool (s.E 2), .bool (s.E 3), .bool (s.E 4), .bool (s.E 5), .bool (s.E 6), .bool (s.E 7), .bool (s.E 8), .bool (s.E 9)]
def headOk (T : Nd) : Bool := decide (1 ≤ T.h.k ∧ T.h.k ≤ 10 ∧ neededH T.h = T.h ∧ (kidsOf T.h.k < 0 ∨ kidsOf T.h.k = T.l.length))
def own (T : Nd) (s : Chk) : Bool :=
 headOk T && (if T.h.k = 6 then decide (s.g + 1 ≤ 9 ∧ T.h.n = s.g + 1) else if T.h.k = 7 then decide (0 < T.h.n ∧ T.h.n ≤ 9) && s.E T.h.n.toNat
  else if T.h.k = 8 then decide (T.l.length ≠ 1) else if T.h.k = 9 then decide (1 < T.l.length)
  else if T.h.k = 10 then boundsOk T.h && decide (∀ x, T.l[0]? = some x → x.h.k ∉ [(4 : Int), 5, 10]) else true)
def ownS (T : Nd) (s : Chk) : Chk := if headOk T = true ∧ T.h.k = 6 then { s with g := s.g + 1 } else s
set_option maxRecDepth 100000 in
set_option maxHeartbeats 4000000 in
theorem own_bad1 (T : Nd) (hb : T.h.k < 1) (b : Nat) (v : Value) (w : World) :
  Calls Try.prog 82 #[.pointer (some ⟨b, 0, none⟩), .agg (Nd.row T v)] w fun e w' => e = .returned (.bool false) ∧ Keep Nb w w' := by
 have hnd := needed_any T v
 generalize neededH T.h = H at *
 generalize kidsOf T.h.k = q at *
 have HND := Lib.hid hnd; clear hnd
 simp only [Nd.row]
 go_enter Try.func82, Try.ntmps82
 go_wp2_with fail
 refine (HND.out _).mono ?_
 rintro e w2 ⟨rfl, hk2⟩
 have hs2 := hk2.size
 simp only [World.size_alloc] at hs2
 have hs3 : w.heap.size < w2.heap.size := by omega
 have hbx : Blk w2 w.heap.size (Nd.row T v) 33 := (Blk.new w _ _).keep hk2 id
 (have o0 := Blk.cell hbx 0 (u := .int .i64 T.h.k) rfl; have o1 := Blk.cell hbx 1 (u := .int .u8 T.h.c) rfl; have o2 := Blk.cell hbx 2 (u := .int .u64 T.h.s0) rfl; have o3 := Blk.cell hbx 3 (u := .int .u64 T.h.s1) rfl; have o4 := Blk.cell hbx 4 (u := .int .u64 T.h.s2) rfl; have o5 := Blk.cell hbx 5 (u := .int .u64 T.h.s3) rfl; have o6 := Blk.cell hbx 6 (u := .int .i64 T.h.n) rfl; have o7 := Blk.cell hbx 7 (u := .int .i64 T.h.mn) rfl; have o8 := Blk.cell hbx 8 (u := .int .i64 T.h.mx) rfl; have o9 := Blk.cell hbx 9 (u := v) rfl)
 have hkw : Keep Nb w w2 := Keep.trans kp hk2 (fun _ _ h => h)
 clear hk2 HND hs2
 go_wp2_with fail
 refine wp_region_x (by kernel_rfl) (by kernel_rfl) ?_; (repeat (go_big_quiet_step (((go_at_call 59; exact Calls.ext _ (top_lit _ _ _)))))); refine wpQuiet_nil ?_; rintro w3 ⟨⟨_, hk3⟩, rfl⟩
 have hk23 : Keep Nb w2 w3 := Keep.trans kp hk3 (fun _ _ h => h)
 have hk4 : Keep Nb w w3 := hkw.trans hk23 (fun _ _ h => h)
 have hbx3 := hbx.keep hk23 id
 have hs33 : w.heap.size < w3.heap.size := Nat.lt_of_lt_of_le hs3 hk23.size
 (have p0 := Blk.cell hbx3 0 (u := .int .i64 T.h.k) rfl; have p1 := Blk.cell hbx3 1 (u := .int .u8 T.h.c) rfl; have p2 := Blk.cell hbx3 2 (u := .int .u64 T.h.s0) rfl; have p3 := Blk.cell hbx3 3 (u := .int .u64 T.h.s1) rfl; have p4 := Blk.cell hbx3 4 (u := .int .u64 T.h.s2) rfl; have p5 := Blk.cell hbx3 5 (u := .int .u64 T.h.s3) rfl; have p6 := Blk.cell hbx3 6 (u := .int .i64 T.h.n) rfl; have p7 := Blk.cell hbx3 7 (u := .int .i64 T.h.mn) rfl; have p8 := Blk.cell hbx3 8 (u := .int .i64 T.h.mx) rfl; have p9 := Blk.cell hbx3 9 (u := v) rfl)
 clear hbx hk23
 go_wp2_with fail
 go_ret
 exact ⟨rfl, hk4⟩
set_option maxRecDepth 100000 in
set_option maxHeartbeats 4000000 in
theorem own_bad2 (T : Nd) (h1 : 1 ≤ T.h.k) (hb : 10 < T.h.k) (b : Nat) (v : Value) (w : World) :
  Calls Try.prog 82 #[.pointer (some ⟨b, 0, none⟩), .agg (Nd.row T v)] w fun e w' => e = .returned (.bool false) ∧ Keep Nb w w' := by
 have hnd := needed_any T v
 generalize neededH T.h = H at *
 generalize kidsOf T.h.k = q at *
 have HND := Lib.hid hnd; clear hnd
 have d1 : decide (T.h.k < 1) = false := by simp; omega
 have d2 : decide (10 < T.h.k) = true := by simp; omega
 simp only [Nd.row]
 go_enter Try.func82, Try.ntmps82
 go_wp2_with fail
 refine (HND.out _).mono ?_
 rintro e w2 ⟨rfl, hk2⟩
 have hs2 := hk2.size
 simp only [World.size_alloc] at hs2
 have hs3 : w.heap.size < w2.heap.size := by omega
 have hbx : Blk w2 w.heap.size (Nd.row T v) 33 := (Blk.new w _ _).keep hk2 id
 (have o0 := Blk.cell hbx 0 (u := .int .i64 T.h.k) rfl; have o1 := Blk.cell hbx 1 (u := .int .u8 T.h.c) rfl; have o2 := Blk.cell hbx 2 (u := .int .u64 T.h.s0) rfl; have o3 := Blk.cell hbx 3 (u := .int .u64 T.h.s1) rfl; have o4 := Blk.cell hbx 4 (u := .int .u64 T.h.s2) rfl; have o5 := Blk.cell hbx 5 (u := .int .u64 T.h.s3) rfl; have o6 := Blk.cell hbx 6 (u := .int .i64 T.h.n) rfl; have o7 := Blk.cell hbx 7 (u := .int .i64 T.h.mn) rfl; have o8 := Blk.cell hbx 8 (u := .int .i64 T.h.mx) rfl; have o9 := Blk.cell hbx 9 (u := v) rfl)
 have hkw : Keep Nb w w2 := Keep.trans kp hk2 (fun _ _ h => h)
 clear hk2 HND hs2
 go_wp2_with fail
 refine wp_region_x (by kernel_rfl) (by kernel_rfl) ?_; (repeat (go_big_quiet_step (((go_at_call 59; exact Calls.ext _ (top_lit _ _ _)))))); refine wpQuiet_nil ?_; rintro w3 ⟨⟨_, hk3⟩, rfl⟩
 have hk23 : Keep Nb w2 w3 := Keep.trans kp hk3 (fun _ _ h => h)
 have hk4 : Keep Nb w w3 := hkw.trans hk23 (fun _ _ h => h)
 have hbx3 := hbx.keep hk23 id
 have hs33 : w.heap.size < w3.heap.size := Nat.lt_of_lt_of_le hs3 hk23.size
 (have p0 := Blk.cell hbx3 0 (u := .int .i64 T.h.k) rfl; have p1 := Blk.cell hbx3 1 (u := .int .u8 T.h.c) rfl; have p2 := Blk.cell hbx3 2 (u := .int .u64 T.h.s0) rfl; have p3 := Blk.cell hbx3 3 (u := .int .u64 T.h.s1) rfl; have p4 := Blk.cell hbx3 4 (u := .int .u64 T.h.s2) rfl; have p5 := Blk.cell hbx3 5 (u := .int .u64 T.h.s3) rfl; have p6 := Blk.cell hbx3 6 (u := .int .i64 T.h.n) rfl; have p7 := Blk.cell hbx3 7 (u := .int .i64 T.h.mn) rfl; have p8 := Blk.cell hbx3 8 (u := .int .i64 T.h.mx) rfl; have p9 := Blk.cell hbx3 9 (u := v) rfl)
 clear hbx hk23
 go_wp2_with fail
 go_ret
 exact ⟨rfl, hk4⟩
set_option maxRecDepth 100000 in
set_option maxHeartbeats 4000000 in
theorem own_bad3 (T : Nd) (h1 : 1 ≤ T.h.k) (h2 : T.h.k ≤ 10) (hb : neededH T.h ≠ T.h) (b : Nat) (v : Value) (w : World) :
  Calls Try.prog 82 #[.pointer (some ⟨b, 0, none⟩), .agg (Nd.row T v)] w fun e w' => e = .returned (.bool false) ∧ Keep Nb w w' := by
 have hnd := needed_any T v
 generalize neededH T.h = H at *
 generalize kidsOf T.h.k = q at *
 have HND := Lib.hid hnd; clear hnd
 have d1 : decide (T.h.k < 1) = false := by simp; omega
 have d2 : decide (10 < T.h.k) = false := by simp; omega
 have h3 : headEq ⟨H.k, H.c, H.s0, H.s1, H.s2, H.s3, H.n, H.mn, H.mx⟩ ⟨T.h.k, T.h.c, T.h.s0, T.h.s1, T.h.s2, T.h.s3, T.h.n, T.h.mn, T.h.mx⟩ = false := by rw [Bool.eq_false_iff]; exact fun e => hb (headEq_iff.1 e)
 clear hb
 simp only [Nd.row]
 go_enter Try.func82, Try.ntmps82
 go_wp2_with fail
 refine (HND.out _).mono ?_
 rintro e w2 ⟨rfl, hk2⟩
 have hs2 := hk2.size
 simp only [World.size_alloc] at hs2
 have hs3 : w.heap.size < w2.heap.size := by omega
 have hbx : Blk w2 w.heap.size (Nd.row T v) 33 := (Blk.new w _ _).keep hk2 id
 (have o0 := Blk.cell hbx 0 (u := .int .i64 T.h.k) rfl; have o1 := Blk.cell hbx 1 (u := .int .u8 T.h.c) rfl; have o2 := Blk.cell hbx 2 (u := .int .u64 T.h.s0) rfl; have o3 := Blk.cell hbx 3 (u := .int .u64 T.h.s1) rfl; have o4 := Blk.cell hbx 4 (u := .int .u64 T.h.s2) rfl; have o5 := Blk.cell hbx 5 (u := .int .u64 T.h.s3) rfl; have o6 := Blk.cell hbx 6 (u := .int .i64 T.h.n) rfl; have o7 := Blk.cell hbx 7 (u := .int .i64 T.h.mn) rfl; have o8 := Blk.cell hbx 8 (u := .int .i64 T.h.mx) rfl; have o9 := Blk.cell hbx 9 (u := v) rfl)
 have hkw : Keep Nb w w2 := Keep.trans kp hk2 (fun _ _ h => h)
 clear hk2 HND hs2
 go_wp2_with fail
 refine wp_region_x (by kernel_rfl) (by kernel_rfl) ?_; (repeat (go_big_quiet_step (((go_at_call 59; exact Calls.ext _ (top_lit _ _ _)))))); refine wpQuiet_nil ?_; rintro w3 ⟨⟨_, hk3⟩, rfl⟩
 have hk23 : Keep Nb w2 w3 := Keep.trans kp hk3 (fun _ _ h => h)
 have hk4 : Keep Nb w w3 := hkw.trans hk23 (fun _ _ h => h)
 have hbx3 := hbx.keep hk23 id
 have hs33 : w.heap.size < w3.heap.size := Nat.lt_of_lt_of_le hs3 hk23.size
 (have p0 := Blk.cell hbx3 0 (u := .int .i64 T.h.k) rfl; have p1 := Blk.cell hbx3 1 (u := .int .u8 T.h.c) rfl; have p2 := Blk.cell hbx3 2 (u := .int .u64 T.h.s0) rfl; have p3 := Blk.cell hbx3 3 (u := .int .u64 T.h.s1) rfl; have p4 := Blk.cell hbx3 4 (u := .int .u64 T.h.s2) rfl; have p5 := Blk.cell hbx3 5 (u := .int .u64 T.h.s3) rfl; have p6 := Blk.cell hbx3 6 (u := .int .i64 T.h.n) rfl; have p7 := Blk.cell hbx3 7 (u := .int .i64 T.h.mn) rfl; have p8 := Blk.cell hbx3 8 (u := .int .i64 T.h.mx) rfl; have p9 := Blk.cell hbx3 9 (u := v) rfl)
 clear hbx hk23
 go_wp2_with fail
 go_ret
 exact ⟨rfl, hk4⟩
set_option maxRecDepth 100000 in
set_option maxHeartbeats 4000000 in
theorem own_bad4 (T : Nd) (A : Option Addr) (cap : Nat) (hlen : T.l.length ≤ 1000000) (h1 : 1 ≤ T.h.k) (h2 : T.h.k ≤ 10) (hh : neededH T.h = T.h) (hq : 0 ≤ kidsOf T.h.k) (hb : kidsOf T.h.k ≠ T.l.length) (b : Nat) (w : World) :
  Calls Try.prog 82 #[.pointer (some ⟨b, 0, none⟩), .agg (Nd.row T (.slice A T.l.length cap))] w fun e w' => e = .returned (.bool false) ∧ Keep Nb w w' := by
 have hnd := needed_any T (.slice A T.l.length cap)
 generalize neededH T.h = H at *
 generalize kidsOf T.h.k = q at *
 have HND := Lib.hid hnd; clear hnd
 have d1 : decide (T.h.k < 1) = false := by simp; omega
 have d2 : decide (10 < T.h.k) = false := by simp; omega
 have d4 : decide (0 ≤ q) = true := by simpa using hq
 have h3 : headEq ⟨H.k, H.c, H.s0, H.s1, H.s2, H.s3, H.n, H.mn, H.mx⟩ ⟨T.h.k, T.h.c, T.h.s0, T.h.s1, T.h.s2, T.h.s3, T.h.n, T.h.mn, T.h.mx⟩ = true := headEq_iff.2 hh
 have h5 : (q != (T.l.length : Int)) = true := by simpa using hb
 clear hb hh
 simp only [Nd.row]
 go_enter Try.func82, Try.ntmps82
 go_wp2_with fail
 refine (HND.out _).mono ?_
 rintro e w2 ⟨rfl, hk2⟩
 have hs2 := hk2.size
 simp only [World.size_alloc] at hs2
 have hs3 : w.heap.size < w2.heap.size := by omega
 have hbx : Blk w2 w.heap.size (Nd.row T (.slice A T.l.length cap)) 33 := (Blk.new w _ _).keep hk2 id
 (have o0 := Blk.cell hbx 0 (u := .int .i64 T.h.k) rfl; have o1 := Blk.cell hbx 1 (u := .int .u8 T.h.c) rfl; have o2 := Blk.cell hbx 2 (u := .int .u64 T.h.s0) rfl; have o3 := Blk.cell hbx 3 (u := .int .u64 T.h.s1) rfl; have o4 := Blk.cell hbx 4 (u := .int .u64 T.h.s2) rfl; have o5 := Blk.cell hbx 5 (u := .int .u64 T.h.s3) rfl; have o6 := Blk.cell hbx 6 (u := .int .i64 T.h.n) rfl; have o7 := Blk.cell hbx 7 (u := .int .i64 T.h.mn) rfl; have o8 := Blk.cell hbx 8 (u := .int .i64 T.h.mx) rfl; have o9 := Blk.cell hbx 9 (u := (.slice A T.l.length cap)) rfl)
 have hkw : Keep Nb w w2 := Keep.trans kp hk2 (fun _ _ h => h)
 clear hk2 HND hs2
 go_wp2_with fail
 refine wp_region_x (by kernel_rfl) (by kernel_rfl) ?_; (repeat (go_big_quiet_step (((go_at_call 59; exact Calls.ext _ (top_lit _ _ _)))))); refine wpQuiet_nil ?_; rintro w3 ⟨⟨_, hk3⟩, rfl⟩
 have hk23 : Keep Nb w2 w3 := Keep.trans kp hk3 (fun _ _ h => h)
 have hk4 : Keep Nb w w3 := hkw.trans hk23 (fun _ _ h => h)
 have hbx3 := hbx.keep hk23 id
 have hs33 : w.heap.size < w3.heap.size := Nat.lt_of_lt_of_le hs3 hk23.size
 (have p0 := Blk.cell hbx3 0 (u := .int .i64 T.h.k) rfl; have p1 := Blk.cell hbx3 1 (u := .int .u8 T.h.c) rfl; have p2 := Blk.cell hbx3 2 (u := .int .u64 T.h.s0) rfl; have p3 := Blk.cell hbx3 3 (u := .int .u64 T.h.s1) rfl; have p4 := Blk.cell hbx3 4 (u := .int .u64 T.h.s2) rfl; have p5 := Blk.cell hbx3 5 (u := .int .u64 T.h.s3) rfl; have p6 := Blk.cell hbx3 6 (u := .int .i64 T.h.n) rfl; have p7 := Blk.cell hbx3 7 (u := .int .i64 T.h.mn) rfl; have p8 := Blk.cell hbx3 8 (u := .int .i64 T.h.mx) rfl; have p9 := Blk.cell hbx3 9 (u := (.slice A T.l.length cap)) rfl)
 clear hbx hk23
 go_wp2_with fail
 go_ret
 exact ⟨rfl, hk4⟩
end Go.Proofs.Ytkidjbfapldmbaa
