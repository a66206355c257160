/- MatchGroup. -/
import Derived.Test.YtkidjbfapldmbaaFeq
import Derived.Test.YtkidjbfapldmbaaPlw
import Derived.Test.YtkidjbfapldmbaaMeas
import Derived.Deep.DeepCutAuto
namespace Go.Proofs.Ytkidjbfapldmbaa
set_option linter.unusedVariables false
set_option linter.unusedSimpArgs false
open Go.RowKit P8

set_option maxRecDepth 100000 in
set_option maxHeartbeats 1000000 in
theorem grp_few (N : Nd) (v : Value) (T : ByteArray) (a : Int) (bd : Bool) (w : World) (hl : Lies w N v) (hf : few N = false) :
    Calls Try.prog 14 #[.agg (Nd.row N v), .string T, .int .i64 a, .bool bd] w fun e w' => e = .returned (.bool true) ∧ Keep Nb w w' := by
  have h1 := fun wx => few_any N v wx
  rw [hf] at h1
  have H1 := Lib.hid h1; clear h1
  obtain ⟨A, cap, rfl, _⟩ := Lies_def.1 hl
  clear hf
  simp only [Nd.row]
  go_enter Try.func14, Try.ntmps14
  go_wp2_with fail
  refine (awake12 _).mono ?_
  rintro e w2 ⟨rfl, hk2⟩
  have hb1 : Blk w2 w.heap.size (Nd.row N (.slice A N.l.length cap)) 27 := (Blk.new w _ _).keep hk2 id
  have hk : Keep Nb w w2 := Keep.trans (by repeat (first | assumption | exact Keep.refl _ _ | refine Keep.alloc ?_ _ | refine Keep.drew ?_ | refine Keep.setCell ?_ (Or.inl (by simp)) _ | refine Keep.setRow ?_ (Or.inl (by simp)) _)) hk2 (fun _ _ h => h)
  have HB := Lib.hid hb1
  have HK := Lib.hid hk
  clear hb1 hk hk2
  have hb1 := HB.out
  (have o0 := Blk.cell hb1 0 (u := .int .i64 N.h.k) rfl; have o1 := Blk.cell hb1 1 (u := .int .u8 N.h.c) rfl; have o2 := Blk.cell hb1 2 (u := .int .u64 N.h.s0) rfl; have o3 := Blk.cell hb1 3 (u := .int .u64 N.h.s1) rfl; have o4 := Blk.cell hb1 4 (u := .int .u64 N.h.s2) rfl; have o5 := Blk.cell hb1 5 (u := .int .u64 N.h.s3) rfl; have o6 := Blk.cell hb1 6 (u := .int .i64 N.h.n) rfl; have o7 := Blk.cell hb1 7 (u := .int .i64 N.h.mn) rfl; have o8 := Blk.cell hb1 8 (u := .int .i64 N.h.mx) rfl; have o9 := Blk.cell hb1 9 (u := (.slice A N.l.length cap)) rfl)
  have lo := hb1.lt
  clear hb1
  have hlx := Lies_keep HK.out hl
  go_wp2_with fail
  refine (H1.out _ hlx).mono ?_
  rintro e w3 ⟨rfl, hkx⟩
  have HB := Lib.hid (HB.out.keep hkx id)
  have HK := Lib.hid (HK.out.trans hkx (fun _ _ h => h))
  clear hkx hlx
  clear o0 o1 o2 o3 o4 o5 o6 o7 o8 o9 lo
  go_wp2_with fail
  refine (awake12 _).mono ?_
  rintro e w9 ⟨rfl, hk9⟩
  go_wp2_with fail
  go_ret
  exact ⟨rfl, HK.out.trans hk9 (fun _ _ h => h)⟩

set_option maxRecDepth 100000 in
set_option maxHeartbeats 1000000 in
theorem grp_plain (N : Nd) (v : Value) (T : ByteArray) (a : Int) (bd : Bool) (w : World) (hl : Lies w N v) (hf : few N = true) (hp : plainT N = false) :
    Calls Try.prog 14 #[.agg (Nd.row N v), .string T, .int .i64 a, .bool bd] w fun e w' => e = .returned (.bool true) ∧ Keep Nb w w' := by
  have h1 := fun wx => few_any N v wx
  rw [hf] at h1
  have H1 := Lib.hid h1; clear h1
  have hcT := (few_count hf).1
  have h2 := fun wx hx => plain12_any 400 N (by omega) (by omega) v wx hx
  rw [hp] at h2
  have H2 := Lib.hid h2; clear h2
  clear hf hp
  obtain ⟨A, cap, rfl, _⟩ := Lies_def.1 hl
  simp only [Nd.row]
  go_enter Try.func14, Try.ntmps14
  go_wp2_with fail
  refine (awake12 _).mono ?_
  rintro e w2 ⟨rfl, hk2⟩
  have hb1 : Blk w2 w.heap.size (Nd.row N (.slice A N.l.length cap)) 27 := (Blk.new w _ _).keep hk2 id
  have hk : Keep Nb w w2 := Keep.trans (by repeat (first | assumption | exact Keep.refl _ _ | refine Keep.alloc ?_ _ | refine Keep.drew ?_ | refine Keep.setCell ?_ (Or.inl (by simp)) _ | refine Keep.setRow ?_ (Or.inl (by simp)) _)) hk2 (fun _ _ h => h)
  have HB := Lib.hid hb1
  have HK := Lib.hid hk
  clear hb1 hk hk2
  have hb1 := HB.out
  (have o0 := Blk.cell hb1 0 (u := .int .i64 N.h.k) rfl; have o1 := Blk.cell hb1 1 (u := .int .u8 N.h.c) rfl; have o2 := Blk.cell hb1 2 (u := .int .u64 N.h.s0) rfl; have o3 := Blk.cell hb1 3 (u := .int .u64 N.h.s1) rfl; have o4 := Blk.cell hb1 4 (u := .int .u64 N.h.s2) rfl; have o5 := Blk.cell hb1 5 (u := .int .u64 N.h.s3) rfl; have o6 := Blk.cell hb1 6 (u := .int .i64 N.h.n) rfl; have o7 := Blk.cell hb1 7 (u := .int .i64 N.h.mn) rfl; have o8 := Blk.cell hb1 8 (u := .int .i64 N.h.mx) rfl; have o9 := Blk.cell hb1 9 (u := (.slice A N.l.length cap)) rfl)
  have lo := hb1.lt
  clear hb1
  have hlx := Lies_keep HK.out hl
  go_wp2_with fail
  refine (H1.out _ hlx).mono ?_
  rintro e w3 ⟨rfl, hkx⟩
  have HB := Lib.hid (HB.out.keep hkx id)
  have HK := Lib.hid (HK.out.trans hkx (fun _ _ h => h))
  clear hkx hlx
  clear o0 o1 o2 o3 o4 o5 o6 o7 o8 o9 lo
  have hb1 := HB.out
  (have o0 := Blk.cell hb1 0 (u := .int .i64 N.h.k) rfl; have o1 := Blk.cell hb1 1 (u := .int .u8 N.h.c) rfl; have o2 := Blk.cell hb1 2 (u := .int .u64 N.h.s0) rfl; have o3 := Blk.cell hb1 3 (u := .int .u64 N.h.s1) rfl; have o4 := Blk.cell hb1 4 (u := .int .u64 N.h.s2) rfl; have o5 := Blk.cell hb1 5 (u := .int .u64 N.h.s3) rfl; have o6 := Blk.cell hb1 6 (u := .int .i64 N.h.n) rfl; have o7 := Blk.cell hb1 7 (u := .int .i64 N.h.mn) rfl; have o8 := Blk.cell hb1 8 (u := .int .i64 N.h.mx) rfl; have o9 := Blk.cell hb1 9 (u := (.slice A N.l.length cap)) rfl)
  have lo := hb1.lt
  clear hb1
  have hlx := Lies_keep HK.out hl
  go_wp2_with fail
  refine (H2.out _ hlx).mono ?_
  rintro e w4 ⟨rfl, hkx⟩
  have HB := Lib.hid (HB.out.keep hkx id)
  have HK := Lib.hid (HK.out.trans hkx (fun _ _ h => h))
  clear hkx hlx
  clear o0 o1 o2 o3 o4 o5 o6 o7 o8 o9 lo
  go_wp2_with fail
  refine (awake12 _).mono ?_
  rintro e w9 ⟨rfl, hk9⟩
  go_wp2_with fail
  go_ret
  exact ⟨rfl, HK.out.trans hk9 (fun _ _ h => h)⟩

set_option maxRecDepth 100000 in
set_option maxHeartbeats 1000000 in
theorem grp_deep (N : Nd) (v : Value) (T : ByteArray) (a : Int) (bd : Bool) (w : World) (hl : Lies w N v) (hf : few N = true) (hp : plainT N = true) (hd : 9 < deep N) :
    Calls Try.prog 14 #[.agg (Nd.row N v), .string T, .int .i64 a, .bool bd] w fun e w' => e = .returned (.bool true) ∧ Keep Nb w w' := by
  have h1 := fun wx => few_any N v wx
  rw [hf] at h1
  have H1 := Lib.hid h1; clear h1
  have hcT := (few_count hf).1
  have h2 := fun wx hx => plain12_any 400 N (by omega) (by omega) v wx hx
  rw [hp] at h2
  have H2 := Lib.hid h2; clear h2
  have h3 := fun wx hx => rdeep_any 400 N (by omega) (by omega) v wx hx
  obtain ⟨dp, hdp⟩ : ∃ dp, dp = deep N := ⟨_, rfl⟩
  rw [← hdp] at h3 hd
  have H3 := Lib.hid h3
  have HDP := Lib.hid hdp
  clear h3 hdp
  have m1 : decide (9 < (dp : Int)) = true := by simp; omega
  have m2 : decide (9 < dp) = true := by simp; omega
  clear hd hf hp
  obtain ⟨A, cap, rfl, _⟩ := Lies_def.1 hl
  simp only [Nd.row]
  go_enter Try.func14, Try.ntmps14
  go_wp2_with fail
  refine (awake12 _).mono ?_
  rintro e w2 ⟨rfl, hk2⟩
  have hb1 : Blk w2 w.heap.size (Nd.row N (.slice A N.l.length cap)) 27 := (Blk.new w _ _).keep hk2 id
  have hk : Keep Nb w w2 := Keep.trans (by repeat (first | assumption | exact Keep.refl _ _ | refine Keep.alloc ?_ _ | refine Keep.drew ?_ | refine Keep.setCell ?_ (Or.inl (by simp)) _ | refine Keep.setRow ?_ (Or.inl (by simp)) _)) hk2 (fun _ _ h => h)
  have HB := Lib.hid hb1
  have HK := Lib.hid hk
  clear hb1 hk hk2
  have hb1 := HB.out
  (have o0 := Blk.cell hb1 0 (u := .int .i64 N.h.k) rfl; have o1 := Blk.cell hb1 1 (u := .int .u8 N.h.c) rfl; have o2 := Blk.cell hb1 2 (u := .int .u64 N.h.s0) rfl; have o3 := Blk.cell hb1 3 (u := .int .u64 N.h.s1) rfl; have o4 := Blk.cell hb1 4 (u := .int .u64 N.h.s2) rfl; have o5 := Blk.cell hb1 5 (u := .int .u64 N.h.s3) rfl; have o6 := Blk.cell hb1 6 (u := .int .i64 N.h.n) rfl; have o7 := Blk.cell hb1 7 (u := .int .i64 N.h.mn) rfl; have o8 := Blk.cell hb1 8 (u := .int .i64 N.h.mx) rfl; have o9 := Blk.cell hb1 9 (u := (.slice A N.l.length cap)) rfl)
  have lo := hb1.lt
  clear hb1
  have hlx := Lies_keep HK.out hl
  go_wp2_with fail
  refine (H1.out _ hlx).mono ?_
  rintro e w3 ⟨rfl, hkx⟩
  have HB := Lib.hid (HB.out.keep hkx id)
  have HK := Lib.hid (HK.out.trans hkx (fun _ _ h => h))
  clear hkx hlx
  clear o0 o1 o2 o3 o4 o5 o6 o7 o8 o9 lo
  have hb1 := HB.out
  (have o0 := Blk.cell hb1 0 (u := .int .i64 N.h.k) rfl; have o1 := Blk.cell hb1 1 (u := .int .u8 N.h.c) rfl; have o2 := Blk.cell hb1 2 (u := .int .u64 N.h.s0) rfl; have o3 := Blk.cell hb1 3 (u := .int .u64 N.h.s1) rfl; have o4 := Blk.cell hb1 4 (u := .int .u64 N.h.s2) rfl; have o5 := Blk.cell hb1 5 (u := .int .u64 N.h.s3) rfl; have o6 := Blk.cell hb1 6 (u := .int .i64 N.h.n) rfl; have o7 := Blk.cell hb1 7 (u := .int .i64 N.h.mn) rfl; have o8 := Blk.cell hb1 8 (u := .int .i64 N.h.mx) rfl; have o9 := Blk.cell hb1 9 (u := (.slice A N.l.length cap)) rfl)
  have lo := hb1.lt
  clear hb1
  have hlx := Lies_keep HK.out hl
  go_wp2_with fail
  refine (H2.out _ hlx).mono ?_
  rintro e w4 ⟨rfl, hkx⟩
  have HB := Lib.hid (HB.out.keep hkx id)
  have HK := Lib.hid (HK.out.trans hkx (fun _ _ h => h))
  clear hkx hlx
  clear o0 o1 o2 o3 o4 o5 o6 o7 o8 o9 lo
  have hb1 := HB.out
  (have o0 := Blk.cell hb1 0 (u := .int .i64 N.h.k) rfl; have o1 := Blk.cell hb1 1 (u := .int .u8 N.h.c) rfl; have o2 := Blk.cell hb1 2 (u := .int .u64 N.h.s0) rfl; have o3 := Blk.cell hb1 3 (u := .int .u64 N.h.s1) rfl; have o4 := Blk.cell hb1 4 (u := .int .u64 N.h.s2) rfl; have o5 := Blk.cell hb1 5 (u := .int .u64 N.h.s3) rfl; have o6 := Blk.cell hb1 6 (u := .int .i64 N.h.n) rfl; have o7 := Blk.cell hb1 7 (u := .int .i64 N.h.mn) rfl; have o8 := Blk.cell hb1 8 (u := .int .i64 N.h.mx) rfl; have o9 := Blk.cell hb1 9 (u := (.slice A N.l.length cap)) rfl)
  have lo := hb1.lt
  clear hb1
  have hlx := Lies_keep HK.out hl
  go_wp2_with fail
  refine (H3.out _ hlx).mono ?_
  rintro e w5 ⟨rfl, hkx⟩
  have HB := Lib.hid (HB.out.keep hkx id)
  have HK := Lib.hid (HK.out.trans hkx (fun _ _ h => h))
  clear hkx hlx
  clear o0 o1 o2 o3 o4 o5 o6 o7 o8 o9 lo
  go_wp2_with fail
  refine (awake12 _).mono ?_
  rintro e w9 ⟨rfl, hk9⟩
  go_wp2_with fail
  go_ret
  exact ⟨rfl, HK.out.trans hk9 (fun _ _ h => h)⟩

set_option maxRecDepth 100000 in
set_option maxHeartbeats 1000000 in
theorem grp_cnt (N : Nd) (v : Value) (T : ByteArray) (a : Int) (bd : Bool) (w : World) (hl : Lies w N v) (hf : few N = true) (hp : plainT N = true) (hd : deep N ≤ 9) (hn : 199 < count N) :
    Calls Try.prog 14 #[.agg (Nd.row N v), .string T, .int .i64 a, .bool bd] w fun e w' => e = .returned (.bool true) ∧ Keep Nb w w' := by
  have h1 := fun wx => few_any N v wx
  rw [hf] at h1
  have H1 := Lib.hid h1; clear h1
  have hcT := (few_count hf).1
  have h2 := fun wx hx => plain12_any 400 N (by omega) (by omega) v wx hx
  rw [hp] at h2
  have H2 := Lib.hid h2; clear h2
  have h3 := fun wx hx => rdeep_any 400 N (by omega) (by omega) v wx hx
  obtain ⟨dp, hdp⟩ : ∃ dp, dp = deep N := ⟨_, rfl⟩
  rw [← hdp] at h3 hd
  have H3 := Lib.hid h3
  have HDP := Lib.hid hdp
  clear h3 hdp
  have h4 := fun wx hx => rcount_any 400 N (by omega) (by omega) v wx hx
  obtain ⟨cn, hcn⟩ : ∃ cn, cn = count N := ⟨_, rfl⟩
  rw [← hcn] at h4 hn
  have H4 := Lib.hid h4
  have HCN := Lib.hid hcn
  clear h4 hcn
  have m1 : decide (9 < (dp : Int)) = false := by simp; omega
  have m2 : decide (9 < dp) = false := by simp; omega
  have m3 : decide (199 < (cn : Int)) = true := by simp; omega
  have m4 : decide (199 < cn) = true := by simp; omega
  clear hd hn hf hp
  obtain ⟨A, cap, rfl, _⟩ := Lies_def.1 hl
  simp only [Nd.row]
  go_enter Try.func14, Try.ntmps14
  go_wp2_with fail
  refine (awake12 _).mono ?_
  rintro e w2 ⟨rfl, hk2⟩
  have hb1 : Blk w2 w.heap.size (Nd.row N (.slice A N.l.length cap)) 27 := (Blk.new w _ _).keep hk2 id
  have hk : Keep Nb w w2 := Keep.trans (by repeat (first | assumption | exact Keep.refl _ _ | refine Keep.alloc ?_ _ | refine Keep.drew ?_ | refine Keep.setCell ?_ (Or.inl (by simp)) _ | refine Keep.setRow ?_ (Or.inl (by simp)) _)) hk2 (fun _ _ h => h)
  have HB := Lib.hid hb1
  have HK := Lib.hid hk
  clear hb1 hk hk2
  have hb1 := HB.out
  (have o0 := Blk.cell hb1 0 (u := .int .i64 N.h.k) rfl; have o1 := Blk.cell hb1 1 (u := .int .u8 N.h.c) rfl; have o2 := Blk.cell hb1 2 (u := .int .u64 N.h.s0) rfl; have o3 := Blk.cell hb1 3 (u := .int .u64 N.h.s1) rfl; have o4 := Blk.cell hb1 4 (u := .int .u64 N.h.s2) rfl; have o5 := Blk.cell hb1 5 (u := .int .u64 N.h.s3) rfl; have o6 := Blk.cell hb1 6 (u := .int .i64 N.h.n) rfl; have o7 := Blk.cell hb1 7 (u := .int .i64 N.h.mn) rfl; have o8 := Blk.cell hb1 8 (u := .int .i64 N.h.mx) rfl; have o9 := Blk.cell hb1 9 (u := (.slice A N.l.length cap)) rfl)
  have lo := hb1.lt
  clear hb1
  have hlx := Lies_keep HK.out hl
  go_wp2_with fail
  refine (H1.out _ hlx).mono ?_
  rintro e w3 ⟨rfl, hkx⟩
  have HB := Lib.hid (HB.out.keep hkx id)
  have HK := Lib.hid (HK.out.trans hkx (fun _ _ h => h))
  clear hkx hlx
  clear o0 o1 o2 o3 o4 o5 o6 o7 o8 o9 lo
  have hb1 := HB.out
  (have o0 := Blk.cell hb1 0 (u := .int .i64 N.h.k) rfl; have o1 := Blk.cell hb1 1 (u := .int .u8 N.h.c) rfl; have o2 := Blk.cell hb1 2 (u := .int .u64 N.h.s0) rfl; have o3 := Blk.cell hb1 3 (u := .int .u64 N.h.s1) rfl; have o4 := Blk.cell hb1 4 (u := .int .u64 N.h.s2) rfl; have o5 := Blk.cell hb1 5 (u := .int .u64 N.h.s3) rfl; have o6 := Blk.cell hb1 6 (u := .int .i64 N.h.n) rfl; have o7 := Blk.cell hb1 7 (u := .int .i64 N.h.mn) rfl; have o8 := Blk.cell hb1 8 (u := .int .i64 N.h.mx) rfl; have o9 := Blk.cell hb1 9 (u := (.slice A N.l.length cap)) rfl)
  have lo := hb1.lt
  clear hb1
  have hlx := Lies_keep HK.out hl
  go_wp2_with fail
  refine (H2.out _ hlx).mono ?_
  rintro e w4 ⟨rfl, hkx⟩
  have HB := Lib.hid (HB.out.keep hkx id)
  have HK := Lib.hid (HK.out.trans hkx (fun _ _ h => h))
  clear hkx hlx
  clear o0 o1 o2 o3 o4 o5 o6 o7 o8 o9 lo
  have hb1 := HB.out
  (have o0 := Blk.cell hb1 0 (u := .int .i64 N.h.k) rfl; have o1 := Blk.cell hb1 1 (u := .int .u8 N.h.c) rfl; have o2 := Blk.cell hb1 2 (u := .int .u64 N.h.s0) rfl; have o3 := Blk.cell hb1 3 (u := .int .u64 N.h.s1) rfl; have o4 := Blk.cell hb1 4 (u := .int .u64 N.h.s2) rfl; have o5 := Blk.cell hb1 5 (u := .int .u64 N.h.s3) rfl; have o6 := Blk.cell hb1 6 (u := .int .i64 N.h.n) rfl; have o7 := Blk.cell hb1 7 (u := .int .i64 N.h.mn) rfl; have o8 := Blk.cell hb1 8 (u := .int .i64 N.h.mx) rfl; have o9 := Blk.cell hb1 9 (u := (.slice A N.l.length cap)) rfl)
  have lo := hb1.lt
  clear hb1
  have hlx := Lies_keep HK.out hl
  go_wp2_with fail
  refine (H3.out _ hlx).mono ?_
  rintro e w5 ⟨rfl, hkx⟩
  have HB := Lib.hid (HB.out.keep hkx id)
  have HK := Lib.hid (HK.out.trans hkx (fun _ _ h => h))
  clear hkx hlx
  clear o0 o1 o2 o3 o4 o5 o6 o7 o8 o9 lo
  have hb1 := HB.out
  (have o0 := Blk.cell hb1 0 (u := .int .i64 N.h.k) rfl; have o1 := Blk.cell hb1 1 (u := .int .u8 N.h.c) rfl; have o2 := Blk.cell hb1 2 (u := .int .u64 N.h.s0) rfl; have o3 := Blk.cell hb1 3 (u := .int .u64 N.h.s1) rfl; have o4 := Blk.cell hb1 4 (u := .int .u64 N.h.s2) rfl; have o5 := Blk.cell hb1 5 (u := .int .u64 N.h.s3) rfl; have o6 := Blk.cell hb1 6 (u := .int .i64 N.h.n) rfl; have o7 := Blk.cell hb1 7 (u := .int .i64 N.h.mn) rfl; have o8 := Blk.cell hb1 8 (u := .int .i64 N.h.mx) rfl; have o9 := Blk.cell hb1 9 (u := (.slice A N.l.length cap)) rfl)
  have lo := hb1.lt
  clear hb1
  have hlx := Lies_keep HK.out hl
  go_wp2_with fail
  refine (H4.out _ hlx).mono ?_
  rintro e w6 ⟨rfl, hkx⟩
  have HB := Lib.hid (HB.out.keep hkx id)
  have HK := Lib.hid (HK.out.trans hkx (fun _ _ h => h))
  clear hkx hlx
  clear o0 o1 o2 o3 o4 o5 o6 o7 o8 o9 lo
  go_wp2_with fail
  refine (awake12 _).mono ?_
  rintro e w9 ⟨rfl, hk9⟩
  go_wp2_with fail
  go_ret
  exact ⟨rfl, HK.out.trans hk9 (fun _ _ h => h)⟩

theorem lies_grp {w : World} {N : Nd} {A : Option Addr} {cap : Nat} (hl : Lies w N (.slice A N.l.length cap)) :
    Lies (w.alloc (.cells (Nd.row N (.slice A N.l.length cap)) 27)) (grpNd N) (.slice (some ⟨w.heap.size, 0, none⟩) 1 1) := by
  have hk : Keep Nb w (w.alloc (.cells (Nd.row N (.slice A N.l.length cap)) 27)) := Keep.alloc (Keep.refl _ _) _
  have hb : Blk (w.alloc (.cells (Nd.row N (.slice A N.l.length cap)) 27)) w.heap.size (Nd.row N (.slice A N.l.length cap)) 27 := Blk.new w _ _
  unfold grpNd
  rw [Lies_mk]
  refine ⟨_, 1, rfl, Nat.le_refl _, by decide, ?_⟩
  rw [LiesL, LiesPL]
  refine ⟨⟨w.heap.size, 0, _, rfl, trivial, fun j u hu => ?_, Lies_keep hk hl⟩, by rw [LiesPL]; trivial⟩
  rw [Nat.zero_mul, Nat.zero_add]
  exact hb.cell j hu

set_option maxRecDepth 100000 in
set_option maxHeartbeats 4000000 in
theorem grp_true (N : Nd) (v : Value) (T : ByteArray) (a : Int) (bd : Bool) (w : World) (hl : Lies w N v) (hf : few N = true) (hp : plainT N = true) (hd : deep N ≤ 9) (hn : count N ≤ 199) (b : Bool) (err : Int) (cs cs2 : Array Value) (X Y X2 Y2 : Nat) (tr : Int)
    (hsz : Hid (cs.size = 22)) (hone : Hid (cs.all (·.oneCell') = true)) (hsz2 : Hid (cs2.size = 22)) (hone2 : Hid (cs2.all (·.oneCell') = true))
    (e0 : Hid (cs[0]? = some (.complex .f64 X Y))) (e21 : Hid (cs[21]? = some (.int .i64 tr))) (f0 : Hid (cs2[0]? = some (.complex .f64 X Y))) (f21 : Hid (cs2[21]? = some (.int .i64 tr)))
    (f12 : Hid (cs2[12]? = some (.bool b))) (f2 : Hid (cs2[2]? = some (.complex .f64 X2 Y2))) (hXY : Hid (b = true → X2 = X ∧ Y2 = Y))
    (qx : Op.floatEq .f64 X X = true) (qy : Op.floatEq .f64 Y Y = true)
    (hv : findV N T a bd = .tuple #[.agg cs, .bool b, .int .i64 err]) (hv2 : findV (grpNd N) T a bd = .tuple #[.agg cs2, .bool b, .int .i64 err]) :
    Calls Try.prog 14 #[.agg (Nd.row N v), .string T, .int .i64 a, .bool bd] w fun e w' => e = .returned (.bool true) ∧ Keep Nb w w' := by
  have h1 := fun wx => few_any N v wx
  rw [hf] at h1
  have H1 := Lib.hid h1; clear h1
  have hcT := (few_count hf).1
  have h2 := fun wx hx => plain12_any 400 N (by omega) (by omega) v wx hx
  rw [hp] at h2
  have H2 := Lib.hid h2; clear h2
  have h3 := fun wx hx => rdeep_any 400 N (by omega) (by omega) v wx hx
  obtain ⟨dp, hdp⟩ : ∃ dp, dp = deep N := ⟨_, rfl⟩
  rw [← hdp] at h3 hd
  have H3 := Lib.hid h3
  have HDP := Lib.hid hdp
  clear h3 hdp
  have h4 := fun wx hx => rcount_any 400 N (by omega) (by omega) v wx hx
  obtain ⟨cn, hcn⟩ : ∃ cn, cn = count N := ⟨_, rfl⟩
  rw [← hcn] at h4 hn
  have H4 := Lib.hid h4
  have HCN := Lib.hid hcn
  clear h4 hcn
  have m1 : decide (9 < (dp : Int)) = false := by simp; omega
  have m2 : decide (9 < dp) = false := by simp; omega
  have m3 : decide (199 < (cn : Int)) = false := by simp; omega
  have m4 : decide (199 < cn) = false := by simp; omega
  obtain ⟨A, cap, rfl, _⟩ := Lies_def.1 hl
  have cG : count (grpNd N) ≤ 401 := by rw [grpNd, Go.Proofs.Ytkidjbfapldmbaa.P8.count, countL, countL]; omega
  have hF := fun A1 n1 wx hx => find_any N (by omega) A1 n1 T a bd wx hx
  have hG := fun A1 n1 wx hx => find_any (grpNd N) (by omega) A1 n1 T a bd wx hx
  rw [hv] at hF
  rw [hv2] at hG
  have HF := Lib.hid hF
  have HG := Lib.hid hG
  have HTH := Lib.hid (fun wx hx => theirs_any 400 (by omega) N (by omega) (.slice A N.l.length cap) wx hx)
  have HTG := Lib.hid (fun v1 wx hx => theirs_any 401 (by omega) (grpNd N) (by omega) v1 wx hx)
  have q1 : (FloatKind.f64.format.order X X == some .eq) = true := qx
  have q2 : (FloatKind.f64.format.order Y Y == some .eq) = true := qy
  clear hF hG hv hv2 hd hn hf hp hcT cG
  simp only [Nd.row]
  go_enter Try.func14, Try.ntmps14
  go_wp2_with fail
  refine (awake12 _).mono ?_
  rintro e w2 ⟨rfl, hk2⟩
  have hb1 : Blk w2 w.heap.size (Nd.row N (.slice A N.l.length cap)) 27 := (Blk.new w _ _).keep hk2 id
  have hk : Keep Nb w w2 := Keep.trans (by repeat (first | assumption | exact Keep.refl _ _ | refine Keep.alloc ?_ _ | refine Keep.drew ?_ | refine Keep.setCell ?_ (Or.inl (by simp)) _ | refine Keep.setRow ?_ (Or.inl (by simp)) _)) hk2 (fun _ _ h => h)
  have HB := Lib.hid hb1
  have HK := Lib.hid hk
  clear hb1 hk hk2
  have hb1 := HB.out
  (have o0 := Blk.cell hb1 0 (u := .int .i64 N.h.k) rfl; have o1 := Blk.cell hb1 1 (u := .int .u8 N.h.c) rfl; have o2 := Blk.cell hb1 2 (u := .int .u64 N.h.s0) rfl; have o3 := Blk.cell hb1 3 (u := .int .u64 N.h.s1) rfl; have o4 := Blk.cell hb1 4 (u := .int .u64 N.h.s2) rfl; have o5 := Blk.cell hb1 5 (u := .int .u64 N.h.s3) rfl; have o6 := Blk.cell hb1 6 (u := .int .i64 N.h.n) rfl; have o7 := Blk.cell hb1 7 (u := .int .i64 N.h.mn) rfl; have o8 := Blk.cell hb1 8 (u := .int .i64 N.h.mx) rfl; have o9 := Blk.cell hb1 9 (u := (.slice A N.l.length cap)) rfl)
  have lo := hb1.lt
  clear hb1
  have hlx := Lies_keep HK.out hl
  go_wp2_with fail
  refine (H1.out _ hlx).mono ?_
  rintro e w3 ⟨rfl, hkx⟩
  have HB := Lib.hid (HB.out.keep hkx id)
  have HK := Lib.hid (HK.out.trans hkx (fun _ _ h => h))
  clear hkx hlx
  clear o0 o1 o2 o3 o4 o5 o6 o7 o8 o9 lo
  have hb1 := HB.out
  (have o0 := Blk.cell hb1 0 (u := .int .i64 N.h.k) rfl; have o1 := Blk.cell hb1 1 (u := .int .u8 N.h.c) rfl; have o2 := Blk.cell hb1 2 (u := .int .u64 N.h.s0) rfl; have o3 := Blk.cell hb1 3 (u := .int .u64 N.h.s1) rfl; have o4 := Blk.cell hb1 4 (u := .int .u64 N.h.s2) rfl; have o5 := Blk.cell hb1 5 (u := .int .u64 N.h.s3) rfl; have o6 := Blk.cell hb1 6 (u := .int .i64 N.h.n) rfl; have o7 := Blk.cell hb1 7 (u := .int .i64 N.h.mn) rfl; have o8 := Blk.cell hb1 8 (u := .int .i64 N.h.mx) rfl; have o9 := Blk.cell hb1 9 (u := (.slice A N.l.length cap)) rfl)
  have lo := hb1.lt
  clear hb1
  have hlx := Lies_keep HK.out hl
  go_wp2_with fail
  refine (H2.out _ hlx).mono ?_
  rintro e w4 ⟨rfl, hkx⟩
  have HB := Lib.hid (HB.out.keep hkx id)
  have HK := Lib.hid (HK.out.trans hkx (fun _ _ h => h))
  clear hkx hlx
  clear o0 o1 o2 o3 o4 o5 o6 o7 o8 o9 lo
  have hb1 := HB.out
  (have o0 := Blk.cell hb1 0 (u := .int .i64 N.h.k) rfl; have o1 := Blk.cell hb1 1 (u := .int .u8 N.h.c) rfl; have o2 := Blk.cell hb1 2 (u := .int .u64 N.h.s0) rfl; have o3 := Blk.cell hb1 3 (u := .int .u64 N.h.s1) rfl; have o4 := Blk.cell hb1 4 (u := .int .u64 N.h.s2) rfl; have o5 := Blk.cell hb1 5 (u := .int .u64 N.h.s3) rfl; have o6 := Blk.cell hb1 6 (u := .int .i64 N.h.n) rfl; have o7 := Blk.cell hb1 7 (u := .int .i64 N.h.mn) rfl; have o8 := Blk.cell hb1 8 (u := .int .i64 N.h.mx) rfl; have o9 := Blk.cell hb1 9 (u := (.slice A N.l.length cap)) rfl)
  have lo := hb1.lt
  clear hb1
  have hlx := Lies_keep HK.out hl
  go_wp2_with fail
  refine (H3.out _ hlx).mono ?_
  rintro e w5 ⟨rfl, hkx⟩
  have HB := Lib.hid (HB.out.keep hkx id)
  have HK := Lib.hid (HK.out.trans hkx (fun _ _ h => h))
  clear hkx hlx
  clear o0 o1 o2 o3 o4 o5 o6 o7 o8 o9 lo
  have hb1 := HB.out
  (have o0 := Blk.cell hb1 0 (u := .int .i64 N.h.k) rfl; have o1 := Blk.cell hb1 1 (u := .int .u8 N.h.c) rfl; have o2 := Blk.cell hb1 2 (u := .int .u64 N.h.s0) rfl; have o3 := Blk.cell hb1 3 (u := .int .u64 N.h.s1) rfl; have o4 := Blk.cell hb1 4 (u := .int .u64 N.h.s2) rfl; have o5 := Blk.cell hb1 5 (u := .int .u64 N.h.s3) rfl; have o6 := Blk.cell hb1 6 (u := .int .i64 N.h.n) rfl; have o7 := Blk.cell hb1 7 (u := .int .i64 N.h.mn) rfl; have o8 := Blk.cell hb1 8 (u := .int .i64 N.h.mx) rfl; have o9 := Blk.cell hb1 9 (u := (.slice A N.l.length cap)) rfl)
  have lo := hb1.lt
  clear hb1
  have hlx := Lies_keep HK.out hl
  go_wp2_with fail
  refine (H4.out _ hlx).mono ?_
  rintro e w6 ⟨rfl, hkx⟩
  have HB := Lib.hid (HB.out.keep hkx id)
  have HK := Lib.hid (HK.out.trans hkx (fun _ _ h => h))
  clear hkx hlx
  clear o0 o1 o2 o3 o4 o5 o6 o7 o8 o9 lo
  have hb1 := HB.out
  (have o0 := Blk.cell hb1 0 (u := .int .i64 N.h.k) rfl; have o1 := Blk.cell hb1 1 (u := .int .u8 N.h.c) rfl; have o2 := Blk.cell hb1 2 (u := .int .u64 N.h.s0) rfl; have o3 := Blk.cell hb1 3 (u := .int .u64 N.h.s1) rfl; have o4 := Blk.cell hb1 4 (u := .int .u64 N.h.s2) rfl; have o5 := Blk.cell hb1 5 (u := .int .u64 N.h.s3) rfl; have o6 := Blk.cell hb1 6 (u := .int .i64 N.h.n) rfl; have o7 := Blk.cell hb1 7 (u := .int .i64 N.h.mn) rfl; have o8 := Blk.cell hb1 8 (u := .int .i64 N.h.mx) rfl; have o9 := Blk.cell hb1 9 (u := (.slice A N.l.length cap)) rfl)
  have lo := hb1.lt
  clear hb1
  have hlx := Lies_keep HK.out hl
  go_wp2_with fail
  refine (HTH.out _ hlx).mono ?_
  rintro e w7 ⟨S1, rfl, hB1, hk4⟩
  obtain ⟨A1, n1, rfl, _⟩ := LiesP_def.1 hB1
  have hl4 := LiesP_all hB1
  have HB := Lib.hid (HB.out.keep hk4 id)
  have HK := Lib.hid (HK.out.trans hk4 (fun _ _ h => h))
  clear hlx hB1 hk4
  clear o0 o1 o2 o3 o4 o5 o6 o7 o8 o9 lo
  go_wp2_with fail
  refine (HF.out A1 n1 _ hl4).mono ?_
  rintro e wa ⟨rfl, hk5⟩
  have HB := Lib.hid (HB.out.keep hk5 id)
  have HK := Lib.hid (HK.out.trans hk5 (fun _ _ h => h))
  clear hl4 hk5 m1 m2 m3 m4
  have z0 : Blk (wa.alloc (.cells #[.complex .f64 0 0, .complex .f64 0 0, .complex .f64 0 0, .complex .f64 0 0, .complex .f64 0 0, .complex .f64 0 0, .complex .f64 0 0, .complex .f64 0 0, .complex .f64 0 0, .complex .f64 0 0, .complex .f64 0 0, .bool false, .bool false, .bool false, .bool false, .bool false, .bool false, .bool false, .bool false, .bool false, .bool false, .int .i64 0] 49)) wa.heap.size #[.complex .f64 0 0, .complex .f64 0 0, .complex .f64 0 0, .complex .f64 0 0, .complex .f64 0 0, .complex .f64 0 0, .complex .f64 0 0, .complex .f64 0 0, .complex .f64 0 0, .complex .f64 0 0, .complex .f64 0 0, .bool false, .bool false, .bool false, .bool false, .bool false, .bool false, .bool false, .bool false, .bool false, .bool false, .int .i64 0] 49 := Blk.new wa _ _
  have z1 : Blk ((wa.alloc (.cells #[.complex .f64 0 0, .complex .f64 0 0, .complex .f64 0 0, .complex .f64 0 0, .complex .f64 0 0, .complex .f64 0 0, .complex .f64 0 0, .complex .f64 0 0, .complex .f64 0 0, .complex .f64 0 0, .complex .f64 0 0, .bool false, .bool false, .bool false, .bool false, .bool false, .bool false, .bool false, .bool false, .bool false, .bool false, .int .i64 0] 49)).setRow wa.heap.size cs) wa.heap.size cs 49 := z0.setRow _
  have k1 : Keep Nb wa ((wa.alloc (.cells #[.complex .f64 0 0, .complex .f64 0 0, .complex .f64 0 0, .complex .f64 0 0, .complex .f64 0 0, .complex .f64 0 0, .complex .f64 0 0, .complex .f64 0 0, .complex .f64 0 0, .complex .f64 0 0, .complex .f64 0 0, .bool false, .bool false, .bool false, .bool false, .bool false, .bool false, .bool false, .bool false, .bool false, .bool false, .int .i64 0] 49)).setRow wa.heap.size cs) := Keep.setRow (Keep.alloc (Keep.refl _ _) _) (Or.inl (Nat.le_refl _)) _
  have HZ0 := Lib.hid z0
  have HPF := Lib.hid z1
  have HK := Lib.hid (HK.out.trans k1 (fun _ _ h => h))
  have HB := Lib.hid (HB.out.keep k1 id)
  clear z0 z1 k1
  go_upto_region 4 with (refine wpList_store_row rfl 49 (.tmp 9) (.tmp 45) rfl wa.heap.size cs rfl rfl 49 _ HZ0.out (by rw [hsz.out]; exact sizeFo) (by rw [hsz.out]; rfl) hone.out ?_)
  generalize (wa.alloc (.cells #[.complex .f64 0 0, .complex .f64 0 0, .complex .f64 0 0, .complex .f64 0 0, .complex .f64 0 0, .complex .f64 0 0, .complex .f64 0 0, .complex .f64 0 0, .complex .f64 0 0, .complex .f64 0 0, .complex .f64 0 0, .bool false, .bool false, .bool false, .bool false, .bool false, .bool false, .bool false, .bool false, .bool false, .bool false, .int .i64 0] 49)).setRow wa.heap.size cs = w8 at HPF HK HB  ⊢
  generalize wa.heap.size = pf at HPF ⊢
  clear HZ0
  have hb1 := HB.out
  (have o0 := Blk.cell hb1 0 (u := .int .i64 N.h.k) rfl; have o1 := Blk.cell hb1 1 (u := .int .u8 N.h.c) rfl; have o2 := Blk.cell hb1 2 (u := .int .u64 N.h.s0) rfl; have o3 := Blk.cell hb1 3 (u := .int .u64 N.h.s1) rfl; have o4 := Blk.cell hb1 4 (u := .int .u64 N.h.s2) rfl; have o5 := Blk.cell hb1 5 (u := .int .u64 N.h.s3) rfl; have o6 := Blk.cell hb1 6 (u := .int .i64 N.h.n) rfl; have o7 := Blk.cell hb1 7 (u := .int .i64 N.h.mn) rfl; have o8 := Blk.cell hb1 8 (u := .int .i64 N.h.mx) rfl; have o9 := Blk.cell hb1 9 (u := (.slice A N.l.length cap)) rfl)
  have lo := hb1.lt
  clear hb1
  have hl8 := Lies_keep HK.out hl
  have hlg := lies_grp hl8
  have kg : Keep Nb w8 (w8.alloc (.cells #[.int .i64 N.h.k, .int .u8 N.h.c, .int .u64 N.h.s0, .int .u64 N.h.s1, .int .u64 N.h.s2, .int .u64 N.h.s3, .int .i64 N.h.n, .int .i64 N.h.mn, .int .i64 N.h.mx, .slice A N.l.length cap] 27)) := Keep.alloc (Keep.refl _ _) _
  have HLG := Lib.hid (show Lies (w8.alloc (.cells #[.int .i64 N.h.k, .int .u8 N.h.c, .int .u64 N.h.s0, .int .u64 N.h.s1, .int .u64 N.h.s2, .int .u64 N.h.s3, .int .i64 N.h.n, .int .i64 N.h.mn, .int .i64 N.h.mx, .slice A N.l.length cap] 27)) (grpNd N) (.slice (some ⟨w8.heap.size, 0, none⟩) 1 1) from hlg)
  have HB := Lib.hid (HB.out.keep kg id)
  have HK := Lib.hid (HK.out.trans kg (fun _ _ h => h))
  have HPF := Lib.hid (HPF.out.keep kg id)
  have hrow : Nd.row (grpNd N) (.slice (some ⟨w8.heap.size, 0, none⟩) 1 1) = #[.int .i64 6, .int .u8 0, .int .u64 0, .int .u64 0, .int .u64 0, .int .u64 0, .int .i64 1, .int .i64 0, .int .i64 0, .slice (some ⟨w8.heap.size, 0, none⟩) 1 1] := rfl
  have HTX := Lib.hid (HTG.out (.slice (some ⟨w8.heap.size, 0, none⟩) 1 1) (w8.alloc (.cells #[.int .i64 N.h.k, .int .u8 N.h.c, .int .u64 N.h.s0, .int .u64 N.h.s1, .int .u64 N.h.s2, .int .u64 N.h.s3, .int .i64 N.h.n, .int .i64 N.h.mn, .int .i64 N.h.mx, .slice A N.l.length cap] 27)) HLG.out)
  rw [hrow] at HTX
  clear hl8 hlg kg hrow
  go_wp2_with fail
  refine HTX.out.mono ?_
  rintro e wb ⟨S2, rfl, hB1, hk4⟩
  obtain ⟨A2, n2, rfl, _⟩ := LiesP_def.1 hB1
  have hl4 := LiesP_all hB1
  have HB := Lib.hid (HB.out.keep hk4 id)
  have HK := Lib.hid (HK.out.trans hk4 (fun _ _ h => h))
  have HPF := Lib.hid (HPF.out.keep hk4 id)
  clear hB1 hk4 HTX HLG
  clear o0 o1 o2 o3 o4 o5 o6 o7 o8 o9 lo
  go_wp2_with fail
  refine (HG.out A2 n2 _ hl4).mono ?_
  rintro e wc ⟨rfl, hk5⟩
  have HB := Lib.hid (HB.out.keep hk5 id)
  have HK := Lib.hid (HK.out.trans hk5 (fun _ _ h => h))
  have HPF := Lib.hid (HPF.out.keep hk5 id)
  clear hl4 hk5
  have z0 : Blk (wc.alloc (.cells #[.complex .f64 0 0, .complex .f64 0 0, .complex .f64 0 0, .complex .f64 0 0, .complex .f64 0 0, .complex .f64 0 0, .complex .f64 0 0, .complex .f64 0 0, .complex .f64 0 0, .complex .f64 0 0, .complex .f64 0 0, .bool false, .bool false, .bool false, .bool false, .bool false, .bool false, .bool false, .bool false, .bool false, .bool false, .int .i64 0] 49)) wc.heap.size #[.complex .f64 0 0, .complex .f64 0 0, .complex .f64 0 0, .complex .f64 0 0, .complex .f64 0 0, .complex .f64 0 0, .complex .f64 0 0, .complex .f64 0 0, .complex .f64 0 0, .complex .f64 0 0, .complex .f64 0 0, .bool false, .bool false, .bool false, .bool false, .bool false, .bool false, .bool false, .bool false, .bool false, .bool false, .int .i64 0] 49 := Blk.new wc _ _
  have z1 : Blk ((wc.alloc (.cells #[.complex .f64 0 0, .complex .f64 0 0, .complex .f64 0 0, .complex .f64 0 0, .complex .f64 0 0, .complex .f64 0 0, .complex .f64 0 0, .complex .f64 0 0, .complex .f64 0 0, .complex .f64 0 0, .complex .f64 0 0, .bool false, .bool false, .bool false, .bool false, .bool false, .bool false, .bool false, .bool false, .bool false, .bool false, .int .i64 0] 49)).setRow wc.heap.size cs2) wc.heap.size cs2 49 := z0.setRow _
  have k1 : Keep Nb wc ((wc.alloc (.cells #[.complex .f64 0 0, .complex .f64 0 0, .complex .f64 0 0, .complex .f64 0 0, .complex .f64 0 0, .complex .f64 0 0, .complex .f64 0 0, .complex .f64 0 0, .complex .f64 0 0, .complex .f64 0 0, .complex .f64 0 0, .bool false, .bool false, .bool false, .bool false, .bool false, .bool false, .bool false, .bool false, .bool false, .bool false, .int .i64 0] 49)).setRow wc.heap.size cs2) := Keep.setRow (Keep.alloc (Keep.refl _ _) _) (Or.inl (Nat.le_refl _)) _
  have HZ0 := Lib.hid z0
  have HPG := Lib.hid z1
  have HK := Lib.hid (HK.out.trans k1 (fun _ _ h => h))
  have HB := Lib.hid (HB.out.keep k1 id)
  have HPF := Lib.hid (HPF.out.keep k1 id)
  clear z0 z1 k1
  go_upto_region 5 with (refine wpList_store_row rfl 49 (.tmp 12) (.tmp 57) rfl wc.heap.size cs2 rfl rfl 49 _ HZ0.out (by rw [hsz2.out]; exact sizeFo) (by rw [hsz2.out]; rfl) hone2.out ?_)
  generalize (wc.alloc (.cells #[.complex .f64 0 0, .complex .f64 0 0, .complex .f64 0 0, .complex .f64 0 0, .complex .f64 0 0, .complex .f64 0 0, .complex .f64 0 0, .complex .f64 0 0, .complex .f64 0 0, .complex .f64 0 0, .complex .f64 0 0, .bool false, .bool false, .bool false, .bool false, .bool false, .bool false, .bool false, .bool false, .bool false, .bool false, .int .i64 0] 49)).setRow wc.heap.size cs2 = wd at HPG HK HB HPF ⊢
  generalize wc.heap.size = pg at HPG ⊢
  clear HZ0
  have b0 := HPF.out.cell 0 e0.out
  have b21 := HPF.out.cell 21 e21.out
  have lb := HPF.out.lt
  have c0 := HPG.out.cell 0 f0.out
  have c21 := HPG.out.cell 21 f21.out
  have c12 := HPG.out.cell 12 f12.out
  have c2 := HPG.out.cell 2 f2.out
  have lc := HPG.out.lt
  cases b with
  | true =>
    obtain ⟨g1, g2⟩ := hXY.out rfl
    rw [g1, g2] at c2
    clear g1 g2
    go_wp2_with fail
    go_ret
    exact ⟨by first | rfl | (rw [q1, q2]; rfl) | (simp only [q1, q2]; rfl) | simp [q1, q2], HK.out⟩
  | false =>
    go_wp2_with fail
    go_ret
    exact ⟨by first | rfl | (rw [q1, q2]; rfl) | (simp only [q1, q2]; rfl) | simp [q1, q2], HK.out⟩

theorem fLit_0 (s : St) : (fLit s)[0]? = some (.complex .f64 (reV (bestC s 0)) (imV (bestC s 0))) := rfl
theorem fLit_2 (s : St) : (fLit s)[2]? = some (.complex .f64 (reV (bestC s 1)) (imV (bestC s 1))) := rfl
theorem fLit_12 (s : St) : (fLit s)[12]? = some (.bool (bestC s 1).isSome) := rfl
theorem fLit_21 (s : St) : (fLit s)[21]? = some (.int .i64 (s.tries : Int)) := rfl
theorem self_re {n : Nat} {c : Caps} (hc : CapsOk n c) (hn : n ≤ 600) (i : Nat) : Op.floatEq .f64 (reV (c i)) (reV (c i)) = true ∧ Op.floatEq .f64 (imV (c i)) (imV (c i)) = true := by
  obtain ⟨x, y, h, h1, h2⟩ := selfC_grp hc hn i
  rw [grpV_eq] at h
  cases h
  exact ⟨h1, h2⟩
theorem grp_vals (N : Nd) (T : ByteArray) (a : Int) (bd : Bool) (hp : plainT N = true) (hd : deep N ≤ 9) (hn : count N ≤ 199) : ∃ (s y : St) (b : Bool) (err : Int), findV N T a bd = .tuple #[.agg (fLit s), .bool b, .int .i64 err] ∧ findV (grpNd N) T a bd = .tuple #[.agg (fLit y), .bool b, .int .i64 err] ∧
    CapsOk 600 (bestC s) ∧ s.tries = y.tries ∧ bestC s 0 = bestC y 0 ∧ (bestC y 1).isSome = b ∧ (b = true → bestC y 1 = bestC y 0) := by
  have hfm := grp_formed hp hd hn
  have z : CapsOk 600 (bestC ⟨0, false, none⟩) := fun _ _ _ h => by cases h
  by_cases h : formedT N = true ∧ T.size ≤ 600 ∧ 0 ≤ a ∧ a ≤ T.size
  · have h' : formedT (grpNd N) = true ∧ T.size ≤ 600 ∧ 0 ≤ a ∧ a ≤ T.size := ⟨hfm.trans h.1, h.2⟩
    have hv : findV N T a bd = findW (found T.toList bd N (formed_ok h.1) a.toNat) := by rw [findV, dif_pos h]
    have hv2 : findV (grpNd N) T a bd = findW (found T.toList bd (grpNd N) (formed_ok h'.1) a.toNat) := by rw [findV, dif_pos h']
    obtain ⟨k, hk⟩ := found_spec T.toList bd N (formed_ok h.1) a.toNat
    obtain ⟨k2, hk2⟩ := found_spec T.toList bd (grpNd N) (formed_ok h'.1) a.toNat
    have lo := find_again T.toList bd N (formed_ok h.1) k _ _ _ _ hk rfl (Nat.zero_le _) (by rw [toList_len]; omega)
    obtain ⟨y, g1, g2⟩ := grp_find T.toList bd N (formed_ok h.1) (formed_ok h'.1) hp k _ _ _ ⟨0, false, none⟩ _ hk rfl rfl rfl rfl (Nat.zero_le _) (by rw [toList_len]; omega)
    have e1 := findS_more (Nat.le_max_left (k + 2) k2) _ _ _ _ g1
    have e2 := findS_more (Nat.le_max_right (k + 2) k2) _ _ _ _ hk2
    rw [e1] at e2
    have e3 := Option.some.inj e2
    rw [← e3] at hv2
    generalize found T.toList bd N (formed_ok h.1) a.toNat = S at hv lo g2
    by_cases ho : S.over = true
    · rw [findW, if_pos ho] at hv
      rw [findW, if_pos (g2.over ▸ ho)] at hv2
      exact ⟨⟨0, false, none⟩, ⟨0, false, none⟩, false, 12, by rw [hv, zero_lit], by rw [hv2, zero_lit], z, rfl, rfl, rfl, fun h => by cases h⟩
    · rw [findW, if_neg ho, fLit_eq] at hv
      rw [findW, if_neg (g2.over ▸ ho), fLit_eq] at hv2
      cases hb : S.best with
      | none =>
        rw [hb] at hv
        rw [g2.none hb] at hv2
        refine ⟨S, y, false, 0, hv, hv2, ?_, g2.tries, ?_, ?_, fun h => by cases h⟩
        · rw [bestC, hb]; exact fun _ _ _ h => by cases h
        · rw [bestC, bestC, hb, g2.none hb]
        · rw [bestC, g2.none hb]; rfl
      | some o =>
        obtain ⟨q, c⟩ := o
        obtain ⟨c', st, r1, r2, r3, r4⟩ := g2.some q c hb
        rw [hb] at hv
        rw [r1] at hv2
        refine ⟨S, y, true, 0, hv, hv2, ?_, g2.tries, ?_, ?_, fun _ => ?_⟩
        · rw [bestC, hb]
          have h1 := (lo (by simpa using ho) q c hb).1
          intro i x y hi
          have := h1 i x y hi
          rw [toList_len] at this
          omega
        · rw [bestC, bestC, hb, r1]
          exact r2.trans r3.symm
        · rw [bestC, r1]
          simp only []
          rw [r4]; rfl
        · rw [bestC, r1]
          exact r4.trans r3.symm
  · have h' : ¬ (formedT (grpNd N) = true ∧ T.size ≤ 600 ∧ 0 ≤ a ∧ a ≤ T.size) := fun h2 => h ⟨hfm.symm.trans h2.1, h2.2⟩
    have hv : findV N T a bd = noneV := by rw [findV, dif_neg h]
    have hv2 : findV (grpNd N) T a bd = noneV := by rw [findV, dif_neg h']
    exact ⟨⟨0, false, none⟩, ⟨0, false, none⟩, false, 1, by rw [hv, noneV, zero_lit], by rw [hv2, noneV, zero_lit], z, rfl, rfl, rfl, fun h => by cases h⟩
theorem grp_any (N : Nd) (v : Value) (T : ByteArray) (a : Int) (bd : Bool) (w : World) (hl : Lies w N v) :
    Calls Try.prog 14 #[.agg (Nd.row N v), .string T, .int .i64 a, .bool bd] w fun e w' => e = .returned (.bool true) ∧ Keep Nb w w' := by
  by_cases hf : few N = true
  · by_cases hp : plainT N = true
    · by_cases hd : deep N ≤ 9
      · by_cases hn : count N ≤ 199
        · obtain ⟨s, y, b, err, hv, hv2, hc, ht, h0, h1, h2⟩ := grp_vals N T a bd hp hd hn
          exact grp_true N v T a bd w hl hf hp hd hn b err (fLit s) (fLit y) _ _ _ _ _ (Lib.hid rfl) (Lib.hid (fLit_one s)) (Lib.hid rfl) (Lib.hid (fLit_one y)) (Lib.hid (fLit_0 s)) (Lib.hid (fLit_21 s))
            (Lib.hid (by rw [h0]; exact fLit_0 y)) (Lib.hid (by rw [ht]; exact fLit_21 y)) (Lib.hid (by rw [← h1]; exact fLit_12 y)) (Lib.hid (fLit_2 y)) (Lib.hid (fun hb => by rw [h2 hb, ← h0]; exact ⟨rfl, rfl⟩))
            (self_re hc (Nat.le_refl _) 0).1 (self_re hc (Nat.le_refl _) 0).2 hv hv2
        · exact grp_cnt N v T a bd w hl hf hp hd (by omega)
      · exact grp_deep N v T a bd w hl hf hp (by omega)
    · exact grp_plain N v T a bd w hl hf (by simpa using hp)
  · exact grp_few N v T a bd w hl (by simpa using hf)

end Go.Proofs.Ytkidjbfapldmbaa
