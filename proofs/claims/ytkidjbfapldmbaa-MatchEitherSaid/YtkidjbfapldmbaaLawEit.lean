/- MatchEither. -/
import Derived.Test.YtkidjbfapldmbaaEit
import Derived.Test.YtkidjbfapldmbaaFeq
import Derived.Test.YtkidjbfapldmbaaPlw
import Derived.Deep.DeepCutAuto
namespace Go.Proofs.Ytkidjbfapldmbaa
set_option linter.unusedVariables false
set_option linter.unusedSimpArgs false
open Go.RowKit P8

theorem fLit_0e (s : St) : (fLit s)[0]? = some (.complex .f64 (reV (bestC s 0)) (imV (bestC s 0))) := rfl
theorem self_ree {n : Nat} {c : Caps} (hc : CapsOk n c) (hn : n ≤ 600) (i : Nat) : Op.floatEq .f64 (reV (c i)) (reV (c i)) = true ∧ Op.floatEq .f64 (imV (c i)) (imV (c i)) = true := by
  obtain ⟨x, y, h, h1, h2⟩ := selfC_grp hc hn i
  rw [grpV_eq] at h
  cases h
  exact ⟨h1, h2⟩

set_option maxRecDepth 100000 in
set_option maxHeartbeats 1000000 in
theorem eit_f1 (N : Nd) (v : Value) (M : Nd) (u : Value) (T : ByteArray) (a : Int) (w : World) (hl : Lies w N v) (hm : Lies w M u) (hf : few N = false) :
    Calls Try.prog 13 #[.agg (Nd.row N v), .agg (Nd.row M u), .string T, .int .i64 a] w fun e w' => e = .returned (.bool true) ∧ Keep Nb w w' := by
  have h1 := fun wx => few_any N v wx
  rw [hf] at h1
  have H1 := Lib.hid h1; clear h1
  clear hf
  obtain ⟨A, cap, rfl, _⟩ := Lies_def.1 hl
  obtain ⟨B, cap2, rfl, _⟩ := Lies_def.1 hm
  have hb0 : Blk ((w.alloc (.cells #[.int .i64 N.h.k, .int .u8 N.h.c, .int .u64 N.h.s0, .int .u64 N.h.s1, .int .u64 N.h.s2, .int .u64 N.h.s3, .int .i64 N.h.n, .int .i64 N.h.mn, .int .i64 N.h.mx, .slice A N.l.length cap] 27)).alloc (.cells #[.int .i64 M.h.k, .int .u8 M.h.c, .int .u64 M.h.s0, .int .u64 M.h.s1, .int .u64 M.h.s2, .int .u64 M.h.s3, .int .i64 M.h.n, .int .i64 M.h.mn, .int .i64 M.h.mx, .slice B M.l.length cap2] 27)) w.heap.size (Nd.row N (.slice A N.l.length cap)) 27 := (Blk.new w _ _).alloc _
  have hb1 : Blk ((w.alloc (.cells #[.int .i64 N.h.k, .int .u8 N.h.c, .int .u64 N.h.s0, .int .u64 N.h.s1, .int .u64 N.h.s2, .int .u64 N.h.s3, .int .i64 N.h.n, .int .i64 N.h.mn, .int .i64 N.h.mx, .slice A N.l.length cap] 27)).alloc (.cells #[.int .i64 M.h.k, .int .u8 M.h.c, .int .u64 M.h.s0, .int .u64 M.h.s1, .int .u64 M.h.s2, .int .u64 M.h.s3, .int .i64 M.h.n, .int .i64 M.h.mn, .int .i64 M.h.mx, .slice B M.l.length cap2] 27)) (w.heap.size + 1) (Nd.row M (.slice B M.l.length cap2)) 27 := Blk.new' (by simp) _ _
  have hk0 : Keep Nb w ((w.alloc (.cells #[.int .i64 N.h.k, .int .u8 N.h.c, .int .u64 N.h.s0, .int .u64 N.h.s1, .int .u64 N.h.s2, .int .u64 N.h.s3, .int .i64 N.h.n, .int .i64 N.h.mn, .int .i64 N.h.mx, .slice A N.l.length cap] 27)).alloc (.cells #[.int .i64 M.h.k, .int .u8 M.h.c, .int .u64 M.h.s0, .int .u64 M.h.s1, .int .u64 M.h.s2, .int .u64 M.h.s3, .int .i64 M.h.n, .int .i64 M.h.mn, .int .i64 M.h.mx, .slice B M.l.length cap2] 27)) := Keep.alloc (Keep.alloc (Keep.refl _ _) _) _
  have HB := Lib.hid hb0
  have HC := Lib.hid hb1
  have HK := Lib.hid hk0
  clear hb0 hb1 hk0
  simp only [Nd.row]
  go_enter Try.func13, Try.ntmps13
  go_upto_region 1 with fail
  generalize ((w.alloc (.cells #[.int .i64 N.h.k, .int .u8 N.h.c, .int .u64 N.h.s0, .int .u64 N.h.s1, .int .u64 N.h.s2, .int .u64 N.h.s3, .int .i64 N.h.n, .int .i64 N.h.mn, .int .i64 N.h.mx, .slice A N.l.length cap] 27)).alloc (.cells #[.int .i64 M.h.k, .int .u8 M.h.c, .int .u64 M.h.s0, .int .u64 M.h.s1, .int .u64 M.h.s2, .int .u64 M.h.s3, .int .i64 M.h.n, .int .i64 M.h.mn, .int .i64 M.h.mx, .slice B M.l.length cap2] 27)) = w1 at HB HC HK ⊢
  go_wp2_with fail
  refine (awake12 _).mono ?_
  rintro e w2 ⟨rfl, hk2⟩
  have HB := Lib.hid (HB.out.keep hk2 id)
  have HC := Lib.hid (HC.out.keep hk2 id)
  have HK := Lib.hid (HK.out.trans hk2 (fun _ _ h => h))
  clear hk2
  have hb1 := HB.out
  (have o0 := Blk.cell hb1 0 (u := .int .i64 N.h.k) rfl; have o1 := Blk.cell hb1 1 (u := .int .u8 N.h.c) rfl; have o2 := Blk.cell hb1 2 (u := .int .u64 N.h.s0) rfl; have o3 := Blk.cell hb1 3 (u := .int .u64 N.h.s1) rfl; have o4 := Blk.cell hb1 4 (u := .int .u64 N.h.s2) rfl; have o5 := Blk.cell hb1 5 (u := .int .u64 N.h.s3) rfl; have o6 := Blk.cell hb1 6 (u := .int .i64 N.h.n) rfl; have o7 := Blk.cell hb1 7 (u := .int .i64 N.h.mn) rfl; have o8 := Blk.cell hb1 8 (u := .int .i64 N.h.mx) rfl; have o9 := Blk.cell hb1 9 (u := (.slice A N.l.length cap)) rfl)
  have lo := hb1.lt
  clear hb1
  have hlx := Lies_keep HK.out hl
  go_wp2_with fail
  refine (H1.out _ hlx).mono ?_
  rintro e w3 ⟨rfl, hkx⟩
  have HB := Lib.hid (HB.out.keep hkx id)
  have HC := Lib.hid (HC.out.keep hkx id)
  have HK := Lib.hid (HK.out.trans hkx (fun _ _ h => h))
  clear hkx hlx
  clear o0 o1 o2 o3 o4 o5 o6 o7 o8 o9 lo
  go_wp2_with fail
  refine (awake12 _).mono ?_
  rintro e w9 ⟨rfl, hk9⟩
  go_wp2_with fail
  go_ret
  exact ⟨rfl, HK.out.trans hk9 (fun _ _ h => h)⟩

set_option maxRecDepth 100000 in
set_option maxHeartbeats 1000000 in
theorem eit_f2 (N : Nd) (v : Value) (M : Nd) (u : Value) (T : ByteArray) (a : Int) (w : World) (hl : Lies w N v) (hm : Lies w M u) (hf : few N = true) (hg : few M = false) :
    Calls Try.prog 13 #[.agg (Nd.row N v), .agg (Nd.row M u), .string T, .int .i64 a] w fun e w' => e = .returned (.bool true) ∧ Keep Nb w w' := by
  have h1 := fun wx => few_any N v wx
  rw [hf] at h1
  have H1 := Lib.hid h1; clear h1
  have hcT := (few_count hf).1
  have h2 := fun wx => few_any M u wx
  rw [hg] at h2
  have H2 := Lib.hid h2; clear h2
  clear hf hg
  obtain ⟨A, cap, rfl, _⟩ := Lies_def.1 hl
  obtain ⟨B, cap2, rfl, _⟩ := Lies_def.1 hm
  have hb0 : Blk ((w.alloc (.cells #[.int .i64 N.h.k, .int .u8 N.h.c, .int .u64 N.h.s0, .int .u64 N.h.s1, .int .u64 N.h.s2, .int .u64 N.h.s3, .int .i64 N.h.n, .int .i64 N.h.mn, .int .i64 N.h.mx, .slice A N.l.length cap] 27)).alloc (.cells #[.int .i64 M.h.k, .int .u8 M.h.c, .int .u64 M.h.s0, .int .u64 M.h.s1, .int .u64 M.h.s2, .int .u64 M.h.s3, .int .i64 M.h.n, .int .i64 M.h.mn, .int .i64 M.h.mx, .slice B M.l.length cap2] 27)) w.heap.size (Nd.row N (.slice A N.l.length cap)) 27 := (Blk.new w _ _).alloc _
  have hb1 : Blk ((w.alloc (.cells #[.int .i64 N.h.k, .int .u8 N.h.c, .int .u64 N.h.s0, .int .u64 N.h.s1, .int .u64 N.h.s2, .int .u64 N.h.s3, .int .i64 N.h.n, .int .i64 N.h.mn, .int .i64 N.h.mx, .slice A N.l.length cap] 27)).alloc (.cells #[.int .i64 M.h.k, .int .u8 M.h.c, .int .u64 M.h.s0, .int .u64 M.h.s1, .int .u64 M.h.s2, .int .u64 M.h.s3, .int .i64 M.h.n, .int .i64 M.h.mn, .int .i64 M.h.mx, .slice B M.l.length cap2] 27)) (w.heap.size + 1) (Nd.row M (.slice B M.l.length cap2)) 27 := Blk.new' (by simp) _ _
  have hk0 : Keep Nb w ((w.alloc (.cells #[.int .i64 N.h.k, .int .u8 N.h.c, .int .u64 N.h.s0, .int .u64 N.h.s1, .int .u64 N.h.s2, .int .u64 N.h.s3, .int .i64 N.h.n, .int .i64 N.h.mn, .int .i64 N.h.mx, .slice A N.l.length cap] 27)).alloc (.cells #[.int .i64 M.h.k, .int .u8 M.h.c, .int .u64 M.h.s0, .int .u64 M.h.s1, .int .u64 M.h.s2, .int .u64 M.h.s3, .int .i64 M.h.n, .int .i64 M.h.mn, .int .i64 M.h.mx, .slice B M.l.length cap2] 27)) := Keep.alloc (Keep.alloc (Keep.refl _ _) _) _
  have HB := Lib.hid hb0
  have HC := Lib.hid hb1
  have HK := Lib.hid hk0
  clear hb0 hb1 hk0
  simp only [Nd.row]
  go_enter Try.func13, Try.ntmps13
  go_upto_region 1 with fail
  generalize ((w.alloc (.cells #[.int .i64 N.h.k, .int .u8 N.h.c, .int .u64 N.h.s0, .int .u64 N.h.s1, .int .u64 N.h.s2, .int .u64 N.h.s3, .int .i64 N.h.n, .int .i64 N.h.mn, .int .i64 N.h.mx, .slice A N.l.length cap] 27)).alloc (.cells #[.int .i64 M.h.k, .int .u8 M.h.c, .int .u64 M.h.s0, .int .u64 M.h.s1, .int .u64 M.h.s2, .int .u64 M.h.s3, .int .i64 M.h.n, .int .i64 M.h.mn, .int .i64 M.h.mx, .slice B M.l.length cap2] 27)) = w1 at HB HC HK ⊢
  go_wp2_with fail
  refine (awake12 _).mono ?_
  rintro e w2 ⟨rfl, hk2⟩
  have HB := Lib.hid (HB.out.keep hk2 id)
  have HC := Lib.hid (HC.out.keep hk2 id)
  have HK := Lib.hid (HK.out.trans hk2 (fun _ _ h => h))
  clear hk2
  have hb1 := HB.out
  (have o0 := Blk.cell hb1 0 (u := .int .i64 N.h.k) rfl; have o1 := Blk.cell hb1 1 (u := .int .u8 N.h.c) rfl; have o2 := Blk.cell hb1 2 (u := .int .u64 N.h.s0) rfl; have o3 := Blk.cell hb1 3 (u := .int .u64 N.h.s1) rfl; have o4 := Blk.cell hb1 4 (u := .int .u64 N.h.s2) rfl; have o5 := Blk.cell hb1 5 (u := .int .u64 N.h.s3) rfl; have o6 := Blk.cell hb1 6 (u := .int .i64 N.h.n) rfl; have o7 := Blk.cell hb1 7 (u := .int .i64 N.h.mn) rfl; have o8 := Blk.cell hb1 8 (u := .int .i64 N.h.mx) rfl; have o9 := Blk.cell hb1 9 (u := (.slice A N.l.length cap)) rfl)
  have lo := hb1.lt
  clear hb1
  have hlx := Lies_keep HK.out hl
  go_wp2_with fail
  refine (H1.out _ hlx).mono ?_
  rintro e w3 ⟨rfl, hkx⟩
  have HB := Lib.hid (HB.out.keep hkx id)
  have HC := Lib.hid (HC.out.keep hkx id)
  have HK := Lib.hid (HK.out.trans hkx (fun _ _ h => h))
  clear hkx hlx
  clear o0 o1 o2 o3 o4 o5 o6 o7 o8 o9 lo
  have hc1 := HC.out
  (have r0 := Blk.cell hc1 0 (u := .int .i64 M.h.k) rfl; have r1 := Blk.cell hc1 1 (u := .int .u8 M.h.c) rfl; have r2 := Blk.cell hc1 2 (u := .int .u64 M.h.s0) rfl; have r3 := Blk.cell hc1 3 (u := .int .u64 M.h.s1) rfl; have r4 := Blk.cell hc1 4 (u := .int .u64 M.h.s2) rfl; have r5 := Blk.cell hc1 5 (u := .int .u64 M.h.s3) rfl; have r6 := Blk.cell hc1 6 (u := .int .i64 M.h.n) rfl; have r7 := Blk.cell hc1 7 (u := .int .i64 M.h.mn) rfl; have r8 := Blk.cell hc1 8 (u := .int .i64 M.h.mx) rfl; have r9 := Blk.cell hc1 9 (u := (.slice B M.l.length cap2)) rfl)
  have lr := hc1.lt
  clear hc1
  have hlx := Lies_keep HK.out hm
  go_wp2_with fail
  refine (H2.out _ hlx).mono ?_
  rintro e w4 ⟨rfl, hkx⟩
  have HB := Lib.hid (HB.out.keep hkx id)
  have HC := Lib.hid (HC.out.keep hkx id)
  have HK := Lib.hid (HK.out.trans hkx (fun _ _ h => h))
  clear hkx hlx
  clear r0 r1 r2 r3 r4 r5 r6 r7 r8 r9 lr
  go_wp2_with fail
  refine (awake12 _).mono ?_
  rintro e w9 ⟨rfl, hk9⟩
  go_wp2_with fail
  go_ret
  exact ⟨rfl, HK.out.trans hk9 (fun _ _ h => h)⟩

set_option maxRecDepth 100000 in
set_option maxHeartbeats 1000000 in
theorem eit_p1 (N : Nd) (v : Value) (M : Nd) (u : Value) (T : ByteArray) (a : Int) (w : World) (hl : Lies w N v) (hm : Lies w M u) (hf : few N = true) (hg : few M = true) (hp : plainT N = false) :
    Calls Try.prog 13 #[.agg (Nd.row N v), .agg (Nd.row M u), .string T, .int .i64 a] w fun e w' => e = .returned (.bool true) ∧ Keep Nb w w' := by
  have h1 := fun wx => few_any N v wx
  rw [hf] at h1
  have H1 := Lib.hid h1; clear h1
  have hcT := (few_count hf).1
  have h2 := fun wx => few_any M u wx
  rw [hg] at h2
  have H2 := Lib.hid h2; clear h2
  have hcU := (few_count hg).1
  have h3 := fun wx hx => plain12_any 400 N (by omega) (by omega) v wx hx
  rw [hp] at h3
  have H3 := Lib.hid h3; clear h3
  clear hf hg hp
  obtain ⟨A, cap, rfl, _⟩ := Lies_def.1 hl
  obtain ⟨B, cap2, rfl, _⟩ := Lies_def.1 hm
  have hb0 : Blk ((w.alloc (.cells #[.int .i64 N.h.k, .int .u8 N.h.c, .int .u64 N.h.s0, .int .u64 N.h.s1, .int .u64 N.h.s2, .int .u64 N.h.s3, .int .i64 N.h.n, .int .i64 N.h.mn, .int .i64 N.h.mx, .slice A N.l.length cap] 27)).alloc (.cells #[.int .i64 M.h.k, .int .u8 M.h.c, .int .u64 M.h.s0, .int .u64 M.h.s1, .int .u64 M.h.s2, .int .u64 M.h.s3, .int .i64 M.h.n, .int .i64 M.h.mn, .int .i64 M.h.mx, .slice B M.l.length cap2] 27)) w.heap.size (Nd.row N (.slice A N.l.length cap)) 27 := (Blk.new w _ _).alloc _
  have hb1 : Blk ((w.alloc (.cells #[.int .i64 N.h.k, .int .u8 N.h.c, .int .u64 N.h.s0, .int .u64 N.h.s1, .int .u64 N.h.s2, .int .u64 N.h.s3, .int .i64 N.h.n, .int .i64 N.h.mn, .int .i64 N.h.mx, .slice A N.l.length cap] 27)).alloc (.cells #[.int .i64 M.h.k, .int .u8 M.h.c, .int .u64 M.h.s0, .int .u64 M.h.s1, .int .u64 M.h.s2, .int .u64 M.h.s3, .int .i64 M.h.n, .int .i64 M.h.mn, .int .i64 M.h.mx, .slice B M.l.length cap2] 27)) (w.heap.size + 1) (Nd.row M (.slice B M.l.length cap2)) 27 := Blk.new' (by simp) _ _
  have hk0 : Keep Nb w ((w.alloc (.cells #[.int .i64 N.h.k, .int .u8 N.h.c, .int .u64 N.h.s0, .int .u64 N.h.s1, .int .u64 N.h.s2, .int .u64 N.h.s3, .int .i64 N.h.n, .int .i64 N.h.mn, .int .i64 N.h.mx, .slice A N.l.length cap] 27)).alloc (.cells #[.int .i64 M.h.k, .int .u8 M.h.c, .int .u64 M.h.s0, .int .u64 M.h.s1, .int .u64 M.h.s2, .int .u64 M.h.s3, .int .i64 M.h.n, .int .i64 M.h.mn, .int .i64 M.h.mx, .slice B M.l.length cap2] 27)) := Keep.alloc (Keep.alloc (Keep.refl _ _) _) _
  have HB := Lib.hid hb0
  have HC := Lib.hid hb1
  have HK := Lib.hid hk0
  clear hb0 hb1 hk0
  simp only [Nd.row]
  go_enter Try.func13, Try.ntmps13
  go_upto_region 1 with fail
  generalize ((w.alloc (.cells #[.int .i64 N.h.k, .int .u8 N.h.c, .int .u64 N.h.s0, .int .u64 N.h.s1, .int .u64 N.h.s2, .int .u64 N.h.s3, .int .i64 N.h.n, .int .i64 N.h.mn, .int .i64 N.h.mx, .slice A N.l.length cap] 27)).alloc (.cells #[.int .i64 M.h.k, .int .u8 M.h.c, .int .u64 M.h.s0, .int .u64 M.h.s1, .int .u64 M.h.s2, .int .u64 M.h.s3, .int .i64 M.h.n, .int .i64 M.h.mn, .int .i64 M.h.mx, .slice B M.l.length cap2] 27)) = w1 at HB HC HK ⊢
  go_wp2_with fail
  refine (awake12 _).mono ?_
  rintro e w2 ⟨rfl, hk2⟩
  have HB := Lib.hid (HB.out.keep hk2 id)
  have HC := Lib.hid (HC.out.keep hk2 id)
  have HK := Lib.hid (HK.out.trans hk2 (fun _ _ h => h))
  clear hk2
  have hb1 := HB.out
  (have o0 := Blk.cell hb1 0 (u := .int .i64 N.h.k) rfl; have o1 := Blk.cell hb1 1 (u := .int .u8 N.h.c) rfl; have o2 := Blk.cell hb1 2 (u := .int .u64 N.h.s0) rfl; have o3 := Blk.cell hb1 3 (u := .int .u64 N.h.s1) rfl; have o4 := Blk.cell hb1 4 (u := .int .u64 N.h.s2) rfl; have o5 := Blk.cell hb1 5 (u := .int .u64 N.h.s3) rfl; have o6 := Blk.cell hb1 6 (u := .int .i64 N.h.n) rfl; have o7 := Blk.cell hb1 7 (u := .int .i64 N.h.mn) rfl; have o8 := Blk.cell hb1 8 (u := .int .i64 N.h.mx) rfl; have o9 := Blk.cell hb1 9 (u := (.slice A N.l.length cap)) rfl)
  have lo := hb1.lt
  clear hb1
  have hlx := Lies_keep HK.out hl
  go_wp2_with fail
  refine (H1.out _ hlx).mono ?_
  rintro e w3 ⟨rfl, hkx⟩
  have HB := Lib.hid (HB.out.keep hkx id)
  have HC := Lib.hid (HC.out.keep hkx id)
  have HK := Lib.hid (HK.out.trans hkx (fun _ _ h => h))
  clear hkx hlx
  clear o0 o1 o2 o3 o4 o5 o6 o7 o8 o9 lo
  have hc1 := HC.out
  (have r0 := Blk.cell hc1 0 (u := .int .i64 M.h.k) rfl; have r1 := Blk.cell hc1 1 (u := .int .u8 M.h.c) rfl; have r2 := Blk.cell hc1 2 (u := .int .u64 M.h.s0) rfl; have r3 := Blk.cell hc1 3 (u := .int .u64 M.h.s1) rfl; have r4 := Blk.cell hc1 4 (u := .int .u64 M.h.s2) rfl; have r5 := Blk.cell hc1 5 (u := .int .u64 M.h.s3) rfl; have r6 := Blk.cell hc1 6 (u := .int .i64 M.h.n) rfl; have r7 := Blk.cell hc1 7 (u := .int .i64 M.h.mn) rfl; have r8 := Blk.cell hc1 8 (u := .int .i64 M.h.mx) rfl; have r9 := Blk.cell hc1 9 (u := (.slice B M.l.length cap2)) rfl)
  have lr := hc1.lt
  clear hc1
  have hlx := Lies_keep HK.out hm
  go_wp2_with fail
  refine (H2.out _ hlx).mono ?_
  rintro e w4 ⟨rfl, hkx⟩
  have HB := Lib.hid (HB.out.keep hkx id)
  have HC := Lib.hid (HC.out.keep hkx id)
  have HK := Lib.hid (HK.out.trans hkx (fun _ _ h => h))
  clear hkx hlx
  clear r0 r1 r2 r3 r4 r5 r6 r7 r8 r9 lr
  have hb1 := HB.out
  (have o0 := Blk.cell hb1 0 (u := .int .i64 N.h.k) rfl; have o1 := Blk.cell hb1 1 (u := .int .u8 N.h.c) rfl; have o2 := Blk.cell hb1 2 (u := .int .u64 N.h.s0) rfl; have o3 := Blk.cell hb1 3 (u := .int .u64 N.h.s1) rfl; have o4 := Blk.cell hb1 4 (u := .int .u64 N.h.s2) rfl; have o5 := Blk.cell hb1 5 (u := .int .u64 N.h.s3) rfl; have o6 := Blk.cell hb1 6 (u := .int .i64 N.h.n) rfl; have o7 := Blk.cell hb1 7 (u := .int .i64 N.h.mn) rfl; have o8 := Blk.cell hb1 8 (u := .int .i64 N.h.mx) rfl; have o9 := Blk.cell hb1 9 (u := (.slice A N.l.length cap)) rfl)
  have lo := hb1.lt
  clear hb1
  have hlx := Lies_keep HK.out hl
  go_wp2_with fail
  refine (H3.out _ hlx).mono ?_
  rintro e w5 ⟨rfl, hkx⟩
  have HB := Lib.hid (HB.out.keep hkx id)
  have HC := Lib.hid (HC.out.keep hkx id)
  have HK := Lib.hid (HK.out.trans hkx (fun _ _ h => h))
  clear hkx hlx
  clear o0 o1 o2 o3 o4 o5 o6 o7 o8 o9 lo
  go_wp2_with fail
  refine (awake12 _).mono ?_
  rintro e w9 ⟨rfl, hk9⟩
  go_wp2_with fail
  go_ret
  exact ⟨rfl, HK.out.trans hk9 (fun _ _ h => h)⟩

set_option maxRecDepth 100000 in
set_option maxHeartbeats 1000000 in
theorem eit_p2 (N : Nd) (v : Value) (M : Nd) (u : Value) (T : ByteArray) (a : Int) (w : World) (hl : Lies w N v) (hm : Lies w M u) (hf : few N = true) (hg : few M = true) (hp : plainT N = true) (hq : plainT M = false) :
    Calls Try.prog 13 #[.agg (Nd.row N v), .agg (Nd.row M u), .string T, .int .i64 a] w fun e w' => e = .returned (.bool true) ∧ Keep Nb w w' := by
  have h1 := fun wx => few_any N v wx
  rw [hf] at h1
  have H1 := Lib.hid h1; clear h1
  have hcT := (few_count hf).1
  have h2 := fun wx => few_any M u wx
  rw [hg] at h2
  have H2 := Lib.hid h2; clear h2
  have hcU := (few_count hg).1
  have h3 := fun wx hx => plain12_any 400 N (by omega) (by omega) v wx hx
  rw [hp] at h3
  have H3 := Lib.hid h3; clear h3
  have h4 := fun wx hx => plain12_any 400 M (by omega) (by omega) u wx hx
  rw [hq] at h4
  have H4 := Lib.hid h4; clear h4
  clear hf hg hp hq
  obtain ⟨A, cap, rfl, _⟩ := Lies_def.1 hl
  obtain ⟨B, cap2, rfl, _⟩ := Lies_def.1 hm
  have hb0 : Blk ((w.alloc (.cells #[.int .i64 N.h.k, .int .u8 N.h.c, .int .u64 N.h.s0, .int .u64 N.h.s1, .int .u64 N.h.s2, .int .u64 N.h.s3, .int .i64 N.h.n, .int .i64 N.h.mn, .int .i64 N.h.mx, .slice A N.l.length cap] 27)).alloc (.cells #[.int .i64 M.h.k, .int .u8 M.h.c, .int .u64 M.h.s0, .int .u64 M.h.s1, .int .u64 M.h.s2, .int .u64 M.h.s3, .int .i64 M.h.n, .int .i64 M.h.mn, .int .i64 M.h.mx, .slice B M.l.length cap2] 27)) w.heap.size (Nd.row N (.slice A N.l.length cap)) 27 := (Blk.new w _ _).alloc _
  have hb1 : Blk ((w.alloc (.cells #[.int .i64 N.h.k, .int .u8 N.h.c, .int .u64 N.h.s0, .int .u64 N.h.s1, .int .u64 N.h.s2, .int .u64 N.h.s3, .int .i64 N.h.n, .int .i64 N.h.mn, .int .i64 N.h.mx, .slice A N.l.length cap] 27)).alloc (.cells #[.int .i64 M.h.k, .int .u8 M.h.c, .int .u64 M.h.s0, .int .u64 M.h.s1, .int .u64 M.h.s2, .int .u64 M.h.s3, .int .i64 M.h.n, .int .i64 M.h.mn, .int .i64 M.h.mx, .slice B M.l.length cap2] 27)) (w.heap.size + 1) (Nd.row M (.slice B M.l.length cap2)) 27 := Blk.new' (by simp) _ _
  have hk0 : Keep Nb w ((w.alloc (.cells #[.int .i64 N.h.k, .int .u8 N.h.c, .int .u64 N.h.s0, .int .u64 N.h.s1, .int .u64 N.h.s2, .int .u64 N.h.s3, .int .i64 N.h.n, .int .i64 N.h.mn, .int .i64 N.h.mx, .slice A N.l.length cap] 27)).alloc (.cells #[.int .i64 M.h.k, .int .u8 M.h.c, .int .u64 M.h.s0, .int .u64 M.h.s1, .int .u64 M.h.s2, .int .u64 M.h.s3, .int .i64 M.h.n, .int .i64 M.h.mn, .int .i64 M.h.mx, .slice B M.l.length cap2] 27)) := Keep.alloc (Keep.alloc (Keep.refl _ _) _) _
  have HB := Lib.hid hb0
  have HC := Lib.hid hb1
  have HK := Lib.hid hk0
  clear hb0 hb1 hk0
  simp only [Nd.row]
  go_enter Try.func13, Try.ntmps13
  go_upto_region 1 with fail
  generalize ((w.alloc (.cells #[.int .i64 N.h.k, .int .u8 N.h.c, .int .u64 N.h.s0, .int .u64 N.h.s1, .int .u64 N.h.s2, .int .u64 N.h.s3, .int .i64 N.h.n, .int .i64 N.h.mn, .int .i64 N.h.mx, .slice A N.l.length cap] 27)).alloc (.cells #[.int .i64 M.h.k, .int .u8 M.h.c, .int .u64 M.h.s0, .int .u64 M.h.s1, .int .u64 M.h.s2, .int .u64 M.h.s3, .int .i64 M.h.n, .int .i64 M.h.mn, .int .i64 M.h.mx, .slice B M.l.length cap2] 27)) = w1 at HB HC HK ⊢
  go_wp2_with fail
  refine (awake12 _).mono ?_
  rintro e w2 ⟨rfl, hk2⟩
  have HB := Lib.hid (HB.out.keep hk2 id)
  have HC := Lib.hid (HC.out.keep hk2 id)
  have HK := Lib.hid (HK.out.trans hk2 (fun _ _ h => h))
  clear hk2
  have hb1 := HB.out
  (have o0 := Blk.cell hb1 0 (u := .int .i64 N.h.k) rfl; have o1 := Blk.cell hb1 1 (u := .int .u8 N.h.c) rfl; have o2 := Blk.cell hb1 2 (u := .int .u64 N.h.s0) rfl; have o3 := Blk.cell hb1 3 (u := .int .u64 N.h.s1) rfl; have o4 := Blk.cell hb1 4 (u := .int .u64 N.h.s2) rfl; have o5 := Blk.cell hb1 5 (u := .int .u64 N.h.s3) rfl; have o6 := Blk.cell hb1 6 (u := .int .i64 N.h.n) rfl; have o7 := Blk.cell hb1 7 (u := .int .i64 N.h.mn) rfl; have o8 := Blk.cell hb1 8 (u := .int .i64 N.h.mx) rfl; have o9 := Blk.cell hb1 9 (u := (.slice A N.l.length cap)) rfl)
  have lo := hb1.lt
  clear hb1
  have hlx := Lies_keep HK.out hl
  go_wp2_with fail
  refine (H1.out _ hlx).mono ?_
  rintro e w3 ⟨rfl, hkx⟩
  have HB := Lib.hid (HB.out.keep hkx id)
  have HC := Lib.hid (HC.out.keep hkx id)
  have HK := Lib.hid (HK.out.trans hkx (fun _ _ h => h))
  clear hkx hlx
  clear o0 o1 o2 o3 o4 o5 o6 o7 o8 o9 lo
  have hc1 := HC.out
  (have r0 := Blk.cell hc1 0 (u := .int .i64 M.h.k) rfl; have r1 := Blk.cell hc1 1 (u := .int .u8 M.h.c) rfl; have r2 := Blk.cell hc1 2 (u := .int .u64 M.h.s0) rfl; have r3 := Blk.cell hc1 3 (u := .int .u64 M.h.s1) rfl; have r4 := Blk.cell hc1 4 (u := .int .u64 M.h.s2) rfl; have r5 := Blk.cell hc1 5 (u := .int .u64 M.h.s3) rfl; have r6 := Blk.cell hc1 6 (u := .int .i64 M.h.n) rfl; have r7 := Blk.cell hc1 7 (u := .int .i64 M.h.mn) rfl; have r8 := Blk.cell hc1 8 (u := .int .i64 M.h.mx) rfl; have r9 := Blk.cell hc1 9 (u := (.slice B M.l.length cap2)) rfl)
  have lr := hc1.lt
  clear hc1
  have hlx := Lies_keep HK.out hm
  go_wp2_with fail
  refine (H2.out _ hlx).mono ?_
  rintro e w4 ⟨rfl, hkx⟩
  have HB := Lib.hid (HB.out.keep hkx id)
  have HC := Lib.hid (HC.out.keep hkx id)
  have HK := Lib.hid (HK.out.trans hkx (fun _ _ h => h))
  clear hkx hlx
  clear r0 r1 r2 r3 r4 r5 r6 r7 r8 r9 lr
  have hb1 := HB.out
  (have o0 := Blk.cell hb1 0 (u := .int .i64 N.h.k) rfl; have o1 := Blk.cell hb1 1 (u := .int .u8 N.h.c) rfl; have o2 := Blk.cell hb1 2 (u := .int .u64 N.h.s0) rfl; have o3 := Blk.cell hb1 3 (u := .int .u64 N.h.s1) rfl; have o4 := Blk.cell hb1 4 (u := .int .u64 N.h.s2) rfl; have o5 := Blk.cell hb1 5 (u := .int .u64 N.h.s3) rfl; have o6 := Blk.cell hb1 6 (u := .int .i64 N.h.n) rfl; have o7 := Blk.cell hb1 7 (u := .int .i64 N.h.mn) rfl; have o8 := Blk.cell hb1 8 (u := .int .i64 N.h.mx) rfl; have o9 := Blk.cell hb1 9 (u := (.slice A N.l.length cap)) rfl)
  have lo := hb1.lt
  clear hb1
  have hlx := Lies_keep HK.out hl
  go_wp2_with fail
  refine (H3.out _ hlx).mono ?_
  rintro e w5 ⟨rfl, hkx⟩
  have HB := Lib.hid (HB.out.keep hkx id)
  have HC := Lib.hid (HC.out.keep hkx id)
  have HK := Lib.hid (HK.out.trans hkx (fun _ _ h => h))
  clear hkx hlx
  clear o0 o1 o2 o3 o4 o5 o6 o7 o8 o9 lo
  have hc1 := HC.out
  (have r0 := Blk.cell hc1 0 (u := .int .i64 M.h.k) rfl; have r1 := Blk.cell hc1 1 (u := .int .u8 M.h.c) rfl; have r2 := Blk.cell hc1 2 (u := .int .u64 M.h.s0) rfl; have r3 := Blk.cell hc1 3 (u := .int .u64 M.h.s1) rfl; have r4 := Blk.cell hc1 4 (u := .int .u64 M.h.s2) rfl; have r5 := Blk.cell hc1 5 (u := .int .u64 M.h.s3) rfl; have r6 := Blk.cell hc1 6 (u := .int .i64 M.h.n) rfl; have r7 := Blk.cell hc1 7 (u := .int .i64 M.h.mn) rfl; have r8 := Blk.cell hc1 8 (u := .int .i64 M.h.mx) rfl; have r9 := Blk.cell hc1 9 (u := (.slice B M.l.length cap2)) rfl)
  have lr := hc1.lt
  clear hc1
  have hlx := Lies_keep HK.out hm
  go_wp2_with fail
  refine (H4.out _ hlx).mono ?_
  rintro e w6 ⟨rfl, hkx⟩
  have HB := Lib.hid (HB.out.keep hkx id)
  have HC := Lib.hid (HC.out.keep hkx id)
  have HK := Lib.hid (HK.out.trans hkx (fun _ _ h => h))
  clear hkx hlx
  clear r0 r1 r2 r3 r4 r5 r6 r7 r8 r9 lr
  go_wp2_with fail
  refine (awake12 _).mono ?_
  rintro e w9 ⟨rfl, hk9⟩
  go_wp2_with fail
  go_ret
  exact ⟨rfl, HK.out.trans hk9 (fun _ _ h => h)⟩

set_option maxRecDepth 100000 in
set_option maxHeartbeats 1000000 in
theorem eit_k1 (N : Nd) (v : Value) (M : Nd) (u : Value) (T : ByteArray) (a : Int) (w : World) (hl : Lies w N v) (hm : Lies w M u) (hf : few N = true) (hg : few M = true) (hp : plainT N = true) (hq : plainT M = true) (h9 : N.h.k = 9) :
    Calls Try.prog 13 #[.agg (Nd.row N v), .agg (Nd.row M u), .string T, .int .i64 a] w fun e w' => e = .returned (.bool true) ∧ Keep Nb w w' := by
  have h1 := fun wx => few_any N v wx
  rw [hf] at h1
  have H1 := Lib.hid h1; clear h1
  have hcT := (few_count hf).1
  have h2 := fun wx => few_any M u wx
  rw [hg] at h2
  have H2 := Lib.hid h2; clear h2
  have hcU := (few_count hg).1
  have h3 := fun wx hx => plain12_any 400 N (by omega) (by omega) v wx hx
  rw [hp] at h3
  have H3 := Lib.hid h3; clear h3
  have h4 := fun wx hx => plain12_any 400 M (by omega) (by omega) u wx hx
  rw [hq] at h4
  have H4 := Lib.hid h4; clear h4
  have k9 : (N.h.k == 9) = true := by simpa using h9
  have K9 := Lib.hid k9
  clear hf hg hp hq h9 k9
  obtain ⟨A, cap, rfl, _⟩ := Lies_def.1 hl
  obtain ⟨B, cap2, rfl, _⟩ := Lies_def.1 hm
  have hb0 : Blk ((w.alloc (.cells #[.int .i64 N.h.k, .int .u8 N.h.c, .int .u64 N.h.s0, .int .u64 N.h.s1, .int .u64 N.h.s2, .int .u64 N.h.s3, .int .i64 N.h.n, .int .i64 N.h.mn, .int .i64 N.h.mx, .slice A N.l.length cap] 27)).alloc (.cells #[.int .i64 M.h.k, .int .u8 M.h.c, .int .u64 M.h.s0, .int .u64 M.h.s1, .int .u64 M.h.s2, .int .u64 M.h.s3, .int .i64 M.h.n, .int .i64 M.h.mn, .int .i64 M.h.mx, .slice B M.l.length cap2] 27)) w.heap.size (Nd.row N (.slice A N.l.length cap)) 27 := (Blk.new w _ _).alloc _
  have hb1 : Blk ((w.alloc (.cells #[.int .i64 N.h.k, .int .u8 N.h.c, .int .u64 N.h.s0, .int .u64 N.h.s1, .int .u64 N.h.s2, .int .u64 N.h.s3, .int .i64 N.h.n, .int .i64 N.h.mn, .int .i64 N.h.mx, .slice A N.l.length cap] 27)).alloc (.cells #[.int .i64 M.h.k, .int .u8 M.h.c, .int .u64 M.h.s0, .int .u64 M.h.s1, .int .u64 M.h.s2, .int .u64 M.h.s3, .int .i64 M.h.n, .int .i64 M.h.mn, .int .i64 M.h.mx, .slice B M.l.length cap2] 27)) (w.heap.size + 1) (Nd.row M (.slice B M.l.length cap2)) 27 := Blk.new' (by simp) _ _
  have hk0 : Keep Nb w ((w.alloc (.cells #[.int .i64 N.h.k, .int .u8 N.h.c, .int .u64 N.h.s0, .int .u64 N.h.s1, .int .u64 N.h.s2, .int .u64 N.h.s3, .int .i64 N.h.n, .int .i64 N.h.mn, .int .i64 N.h.mx, .slice A N.l.length cap] 27)).alloc (.cells #[.int .i64 M.h.k, .int .u8 M.h.c, .int .u64 M.h.s0, .int .u64 M.h.s1, .int .u64 M.h.s2, .int .u64 M.h.s3, .int .i64 M.h.n, .int .i64 M.h.mn, .int .i64 M.h.mx, .slice B M.l.length cap2] 27)) := Keep.alloc (Keep.alloc (Keep.refl _ _) _) _
  have HB := Lib.hid hb0
  have HC := Lib.hid hb1
  have HK := Lib.hid hk0
  clear hb0 hb1 hk0
  simp only [Nd.row]
  go_enter Try.func13, Try.ntmps13
  go_upto_region 1 with fail
  generalize ((w.alloc (.cells #[.int .i64 N.h.k, .int .u8 N.h.c, .int .u64 N.h.s0, .int .u64 N.h.s1, .int .u64 N.h.s2, .int .u64 N.h.s3, .int .i64 N.h.n, .int .i64 N.h.mn, .int .i64 N.h.mx, .slice A N.l.length cap] 27)).alloc (.cells #[.int .i64 M.h.k, .int .u8 M.h.c, .int .u64 M.h.s0, .int .u64 M.h.s1, .int .u64 M.h.s2, .int .u64 M.h.s3, .int .i64 M.h.n, .int .i64 M.h.mn, .int .i64 M.h.mx, .slice B M.l.length cap2] 27)) = w1 at HB HC HK ⊢
  go_wp2_with fail
  refine (awake12 _).mono ?_
  rintro e w2 ⟨rfl, hk2⟩
  have HB := Lib.hid (HB.out.keep hk2 id)
  have HC := Lib.hid (HC.out.keep hk2 id)
  have HK := Lib.hid (HK.out.trans hk2 (fun _ _ h => h))
  clear hk2
  have hb1 := HB.out
  (have o0 := Blk.cell hb1 0 (u := .int .i64 N.h.k) rfl; have o1 := Blk.cell hb1 1 (u := .int .u8 N.h.c) rfl; have o2 := Blk.cell hb1 2 (u := .int .u64 N.h.s0) rfl; have o3 := Blk.cell hb1 3 (u := .int .u64 N.h.s1) rfl; have o4 := Blk.cell hb1 4 (u := .int .u64 N.h.s2) rfl; have o5 := Blk.cell hb1 5 (u := .int .u64 N.h.s3) rfl; have o6 := Blk.cell hb1 6 (u := .int .i64 N.h.n) rfl; have o7 := Blk.cell hb1 7 (u := .int .i64 N.h.mn) rfl; have o8 := Blk.cell hb1 8 (u := .int .i64 N.h.mx) rfl; have o9 := Blk.cell hb1 9 (u := (.slice A N.l.length cap)) rfl)
  have lo := hb1.lt
  clear hb1
  have hlx := Lies_keep HK.out hl
  go_wp2_with fail
  refine (H1.out _ hlx).mono ?_
  rintro e w3 ⟨rfl, hkx⟩
  have HB := Lib.hid (HB.out.keep hkx id)
  have HC := Lib.hid (HC.out.keep hkx id)
  have HK := Lib.hid (HK.out.trans hkx (fun _ _ h => h))
  clear hkx hlx
  clear o0 o1 o2 o3 o4 o5 o6 o7 o8 o9 lo
  have hc1 := HC.out
  (have r0 := Blk.cell hc1 0 (u := .int .i64 M.h.k) rfl; have r1 := Blk.cell hc1 1 (u := .int .u8 M.h.c) rfl; have r2 := Blk.cell hc1 2 (u := .int .u64 M.h.s0) rfl; have r3 := Blk.cell hc1 3 (u := .int .u64 M.h.s1) rfl; have r4 := Blk.cell hc1 4 (u := .int .u64 M.h.s2) rfl; have r5 := Blk.cell hc1 5 (u := .int .u64 M.h.s3) rfl; have r6 := Blk.cell hc1 6 (u := .int .i64 M.h.n) rfl; have r7 := Blk.cell hc1 7 (u := .int .i64 M.h.mn) rfl; have r8 := Blk.cell hc1 8 (u := .int .i64 M.h.mx) rfl; have r9 := Blk.cell hc1 9 (u := (.slice B M.l.length cap2)) rfl)
  have lr := hc1.lt
  clear hc1
  have hlx := Lies_keep HK.out hm
  go_wp2_with fail
  refine (H2.out _ hlx).mono ?_
  rintro e w4 ⟨rfl, hkx⟩
  have HB := Lib.hid (HB.out.keep hkx id)
  have HC := Lib.hid (HC.out.keep hkx id)
  have HK := Lib.hid (HK.out.trans hkx (fun _ _ h => h))
  clear hkx hlx
  clear r0 r1 r2 r3 r4 r5 r6 r7 r8 r9 lr
  have hb1 := HB.out
  (have o0 := Blk.cell hb1 0 (u := .int .i64 N.h.k) rfl; have o1 := Blk.cell hb1 1 (u := .int .u8 N.h.c) rfl; have o2 := Blk.cell hb1 2 (u := .int .u64 N.h.s0) rfl; have o3 := Blk.cell hb1 3 (u := .int .u64 N.h.s1) rfl; have o4 := Blk.cell hb1 4 (u := .int .u64 N.h.s2) rfl; have o5 := Blk.cell hb1 5 (u := .int .u64 N.h.s3) rfl; have o6 := Blk.cell hb1 6 (u := .int .i64 N.h.n) rfl; have o7 := Blk.cell hb1 7 (u := .int .i64 N.h.mn) rfl; have o8 := Blk.cell hb1 8 (u := .int .i64 N.h.mx) rfl; have o9 := Blk.cell hb1 9 (u := (.slice A N.l.length cap)) rfl)
  have lo := hb1.lt
  clear hb1
  have hlx := Lies_keep HK.out hl
  go_wp2_with fail
  refine (H3.out _ hlx).mono ?_
  rintro e w5 ⟨rfl, hkx⟩
  have HB := Lib.hid (HB.out.keep hkx id)
  have HC := Lib.hid (HC.out.keep hkx id)
  have HK := Lib.hid (HK.out.trans hkx (fun _ _ h => h))
  clear hkx hlx
  clear o0 o1 o2 o3 o4 o5 o6 o7 o8 o9 lo
  have hc1 := HC.out
  (have r0 := Blk.cell hc1 0 (u := .int .i64 M.h.k) rfl; have r1 := Blk.cell hc1 1 (u := .int .u8 M.h.c) rfl; have r2 := Blk.cell hc1 2 (u := .int .u64 M.h.s0) rfl; have r3 := Blk.cell hc1 3 (u := .int .u64 M.h.s1) rfl; have r4 := Blk.cell hc1 4 (u := .int .u64 M.h.s2) rfl; have r5 := Blk.cell hc1 5 (u := .int .u64 M.h.s3) rfl; have r6 := Blk.cell hc1 6 (u := .int .i64 M.h.n) rfl; have r7 := Blk.cell hc1 7 (u := .int .i64 M.h.mn) rfl; have r8 := Blk.cell hc1 8 (u := .int .i64 M.h.mx) rfl; have r9 := Blk.cell hc1 9 (u := (.slice B M.l.length cap2)) rfl)
  have lr := hc1.lt
  clear hc1
  have hlx := Lies_keep HK.out hm
  go_wp2_with fail
  refine (H4.out _ hlx).mono ?_
  rintro e w6 ⟨rfl, hkx⟩
  have HB := Lib.hid (HB.out.keep hkx id)
  have HC := Lib.hid (HC.out.keep hkx id)
  have HK := Lib.hid (HK.out.trans hkx (fun _ _ h => h))
  clear hkx hlx
  clear r0 r1 r2 r3 r4 r5 r6 r7 r8 r9 lr
  have hb1 := HB.out
  (have o0 := Blk.cell hb1 0 (u := .int .i64 N.h.k) rfl; have o1 := Blk.cell hb1 1 (u := .int .u8 N.h.c) rfl; have o2 := Blk.cell hb1 2 (u := .int .u64 N.h.s0) rfl; have o3 := Blk.cell hb1 3 (u := .int .u64 N.h.s1) rfl; have o4 := Blk.cell hb1 4 (u := .int .u64 N.h.s2) rfl; have o5 := Blk.cell hb1 5 (u := .int .u64 N.h.s3) rfl; have o6 := Blk.cell hb1 6 (u := .int .i64 N.h.n) rfl; have o7 := Blk.cell hb1 7 (u := .int .i64 N.h.mn) rfl; have o8 := Blk.cell hb1 8 (u := .int .i64 N.h.mx) rfl; have o9 := Blk.cell hb1 9 (u := (.slice A N.l.length cap)) rfl)
  have lo := hb1.lt
  clear hb1
  have k9 := K9.out
  go_wp2_with fail
  refine (awake12 _).mono ?_
  rintro e w9 ⟨rfl, hk9⟩
  go_wp2_with fail
  go_ret
  exact ⟨rfl, HK.out.trans hk9 (fun _ _ h => h)⟩

set_option maxRecDepth 100000 in
set_option maxHeartbeats 1000000 in
theorem eit_k2 (N : Nd) (v : Value) (M : Nd) (u : Value) (T : ByteArray) (a : Int) (w : World) (hl : Lies w N v) (hm : Lies w M u) (hf : few N = true) (hg : few M = true) (hp : plainT N = true) (hq : plainT M = true) (h9 : ¬ N.h.k = 9) (h9' : M.h.k = 9) :
    Calls Try.prog 13 #[.agg (Nd.row N v), .agg (Nd.row M u), .string T, .int .i64 a] w fun e w' => e = .returned (.bool true) ∧ Keep Nb w w' := by
  have h1 := fun wx => few_any N v wx
  rw [hf] at h1
  have H1 := Lib.hid h1; clear h1
  have hcT := (few_count hf).1
  have h2 := fun wx => few_any M u wx
  rw [hg] at h2
  have H2 := Lib.hid h2; clear h2
  have hcU := (few_count hg).1
  have h3 := fun wx hx => plain12_any 400 N (by omega) (by omega) v wx hx
  rw [hp] at h3
  have H3 := Lib.hid h3; clear h3
  have h4 := fun wx hx => plain12_any 400 M (by omega) (by omega) u wx hx
  rw [hq] at h4
  have H4 := Lib.hid h4; clear h4
  have k9 : (N.h.k == 9) = false := beq_eq_false_iff_ne.2 h9
  have K9 := Lib.hid k9
  have k9' : (M.h.k == 9) = true := by simpa using h9'
  have K9' := Lib.hid k9'
  clear hf hg hp hq h9 h9' k9 k9'
  obtain ⟨A, cap, rfl, _⟩ := Lies_def.1 hl
  obtain ⟨B, cap2, rfl, _⟩ := Lies_def.1 hm
  have hb0 : Blk ((w.alloc (.cells #[.int .i64 N.h.k, .int .u8 N.h.c, .int .u64 N.h.s0, .int .u64 N.h.s1, .int .u64 N.h.s2, .int .u64 N.h.s3, .int .i64 N.h.n, .int .i64 N.h.mn, .int .i64 N.h.mx, .slice A N.l.length cap] 27)).alloc (.cells #[.int .i64 M.h.k, .int .u8 M.h.c, .int .u64 M.h.s0, .int .u64 M.h.s1, .int .u64 M.h.s2, .int .u64 M.h.s3, .int .i64 M.h.n, .int .i64 M.h.mn, .int .i64 M.h.mx, .slice B M.l.length cap2] 27)) w.heap.size (Nd.row N (.slice A N.l.length cap)) 27 := (Blk.new w _ _).alloc _
  have hb1 : Blk ((w.alloc (.cells #[.int .i64 N.h.k, .int .u8 N.h.c, .int .u64 N.h.s0, .int .u64 N.h.s1, .int .u64 N.h.s2, .int .u64 N.h.s3, .int .i64 N.h.n, .int .i64 N.h.mn, .int .i64 N.h.mx, .slice A N.l.length cap] 27)).alloc (.cells #[.int .i64 M.h.k, .int .u8 M.h.c, .int .u64 M.h.s0, .int .u64 M.h.s1, .int .u64 M.h.s2, .int .u64 M.h.s3, .int .i64 M.h.n, .int .i64 M.h.mn, .int .i64 M.h.mx, .slice B M.l.length cap2] 27)) (w.heap.size + 1) (Nd.row M (.slice B M.l.length cap2)) 27 := Blk.new' (by simp) _ _
  have hk0 : Keep Nb w ((w.alloc (.cells #[.int .i64 N.h.k, .int .u8 N.h.c, .int .u64 N.h.s0, .int .u64 N.h.s1, .int .u64 N.h.s2, .int .u64 N.h.s3, .int .i64 N.h.n, .int .i64 N.h.mn, .int .i64 N.h.mx, .slice A N.l.length cap] 27)).alloc (.cells #[.int .i64 M.h.k, .int .u8 M.h.c, .int .u64 M.h.s0, .int .u64 M.h.s1, .int .u64 M.h.s2, .int .u64 M.h.s3, .int .i64 M.h.n, .int .i64 M.h.mn, .int .i64 M.h.mx, .slice B M.l.length cap2] 27)) := Keep.alloc (Keep.alloc (Keep.refl _ _) _) _
  have HB := Lib.hid hb0
  have HC := Lib.hid hb1
  have HK := Lib.hid hk0
  clear hb0 hb1 hk0
  simp only [Nd.row]
  go_enter Try.func13, Try.ntmps13
  go_upto_region 1 with fail
  generalize ((w.alloc (.cells #[.int .i64 N.h.k, .int .u8 N.h.c, .int .u64 N.h.s0, .int .u64 N.h.s1, .int .u64 N.h.s2, .int .u64 N.h.s3, .int .i64 N.h.n, .int .i64 N.h.mn, .int .i64 N.h.mx, .slice A N.l.length cap] 27)).alloc (.cells #[.int .i64 M.h.k, .int .u8 M.h.c, .int .u64 M.h.s0, .int .u64 M.h.s1, .int .u64 M.h.s2, .int .u64 M.h.s3, .int .i64 M.h.n, .int .i64 M.h.mn, .int .i64 M.h.mx, .slice B M.l.length cap2] 27)) = w1 at HB HC HK ⊢
  go_wp2_with fail
  refine (awake12 _).mono ?_
  rintro e w2 ⟨rfl, hk2⟩
  have HB := Lib.hid (HB.out.keep hk2 id)
  have HC := Lib.hid (HC.out.keep hk2 id)
  have HK := Lib.hid (HK.out.trans hk2 (fun _ _ h => h))
  clear hk2
  have hb1 := HB.out
  (have o0 := Blk.cell hb1 0 (u := .int .i64 N.h.k) rfl; have o1 := Blk.cell hb1 1 (u := .int .u8 N.h.c) rfl; have o2 := Blk.cell hb1 2 (u := .int .u64 N.h.s0) rfl; have o3 := Blk.cell hb1 3 (u := .int .u64 N.h.s1) rfl; have o4 := Blk.cell hb1 4 (u := .int .u64 N.h.s2) rfl; have o5 := Blk.cell hb1 5 (u := .int .u64 N.h.s3) rfl; have o6 := Blk.cell hb1 6 (u := .int .i64 N.h.n) rfl; have o7 := Blk.cell hb1 7 (u := .int .i64 N.h.mn) rfl; have o8 := Blk.cell hb1 8 (u := .int .i64 N.h.mx) rfl; have o9 := Blk.cell hb1 9 (u := (.slice A N.l.length cap)) rfl)
  have lo := hb1.lt
  clear hb1
  have hlx := Lies_keep HK.out hl
  go_wp2_with fail
  refine (H1.out _ hlx).mono ?_
  rintro e w3 ⟨rfl, hkx⟩
  have HB := Lib.hid (HB.out.keep hkx id)
  have HC := Lib.hid (HC.out.keep hkx id)
  have HK := Lib.hid (HK.out.trans hkx (fun _ _ h => h))
  clear hkx hlx
  clear o0 o1 o2 o3 o4 o5 o6 o7 o8 o9 lo
  have hc1 := HC.out
  (have r0 := Blk.cell hc1 0 (u := .int .i64 M.h.k) rfl; have r1 := Blk.cell hc1 1 (u := .int .u8 M.h.c) rfl; have r2 := Blk.cell hc1 2 (u := .int .u64 M.h.s0) rfl; have r3 := Blk.cell hc1 3 (u := .int .u64 M.h.s1) rfl; have r4 := Blk.cell hc1 4 (u := .int .u64 M.h.s2) rfl; have r5 := Blk.cell hc1 5 (u := .int .u64 M.h.s3) rfl; have r6 := Blk.cell hc1 6 (u := .int .i64 M.h.n) rfl; have r7 := Blk.cell hc1 7 (u := .int .i64 M.h.mn) rfl; have r8 := Blk.cell hc1 8 (u := .int .i64 M.h.mx) rfl; have r9 := Blk.cell hc1 9 (u := (.slice B M.l.length cap2)) rfl)
  have lr := hc1.lt
  clear hc1
  have hlx := Lies_keep HK.out hm
  go_wp2_with fail
  refine (H2.out _ hlx).mono ?_
  rintro e w4 ⟨rfl, hkx⟩
  have HB := Lib.hid (HB.out.keep hkx id)
  have HC := Lib.hid (HC.out.keep hkx id)
  have HK := Lib.hid (HK.out.trans hkx (fun _ _ h => h))
  clear hkx hlx
  clear r0 r1 r2 r3 r4 r5 r6 r7 r8 r9 lr
  have hb1 := HB.out
  (have o0 := Blk.cell hb1 0 (u := .int .i64 N.h.k) rfl; have o1 := Blk.cell hb1 1 (u := .int .u8 N.h.c) rfl; have o2 := Blk.cell hb1 2 (u := .int .u64 N.h.s0) rfl; have o3 := Blk.cell hb1 3 (u := .int .u64 N.h.s1) rfl; have o4 := Blk.cell hb1 4 (u := .int .u64 N.h.s2) rfl; have o5 := Blk.cell hb1 5 (u := .int .u64 N.h.s3) rfl; have o6 := Blk.cell hb1 6 (u := .int .i64 N.h.n) rfl; have o7 := Blk.cell hb1 7 (u := .int .i64 N.h.mn) rfl; have o8 := Blk.cell hb1 8 (u := .int .i64 N.h.mx) rfl; have o9 := Blk.cell hb1 9 (u := (.slice A N.l.length cap)) rfl)
  have lo := hb1.lt
  clear hb1
  have hlx := Lies_keep HK.out hl
  go_wp2_with fail
  refine (H3.out _ hlx).mono ?_
  rintro e w5 ⟨rfl, hkx⟩
  have HB := Lib.hid (HB.out.keep hkx id)
  have HC := Lib.hid (HC.out.keep hkx id)
  have HK := Lib.hid (HK.out.trans hkx (fun _ _ h => h))
  clear hkx hlx
  clear o0 o1 o2 o3 o4 o5 o6 o7 o8 o9 lo
  have hc1 := HC.out
  (have r0 := Blk.cell hc1 0 (u := .int .i64 M.h.k) rfl; have r1 := Blk.cell hc1 1 (u := .int .u8 M.h.c) rfl; have r2 := Blk.cell hc1 2 (u := .int .u64 M.h.s0) rfl; have r3 := Blk.cell hc1 3 (u := .int .u64 M.h.s1) rfl; have r4 := Blk.cell hc1 4 (u := .int .u64 M.h.s2) rfl; have r5 := Blk.cell hc1 5 (u := .int .u64 M.h.s3) rfl; have r6 := Blk.cell hc1 6 (u := .int .i64 M.h.n) rfl; have r7 := Blk.cell hc1 7 (u := .int .i64 M.h.mn) rfl; have r8 := Blk.cell hc1 8 (u := .int .i64 M.h.mx) rfl; have r9 := Blk.cell hc1 9 (u := (.slice B M.l.length cap2)) rfl)
  have lr := hc1.lt
  clear hc1
  have hlx := Lies_keep HK.out hm
  go_wp2_with fail
  refine (H4.out _ hlx).mono ?_
  rintro e w6 ⟨rfl, hkx⟩
  have HB := Lib.hid (HB.out.keep hkx id)
  have HC := Lib.hid (HC.out.keep hkx id)
  have HK := Lib.hid (HK.out.trans hkx (fun _ _ h => h))
  clear hkx hlx
  clear r0 r1 r2 r3 r4 r5 r6 r7 r8 r9 lr
  have hb1 := HB.out
  (have o0 := Blk.cell hb1 0 (u := .int .i64 N.h.k) rfl; have o1 := Blk.cell hb1 1 (u := .int .u8 N.h.c) rfl; have o2 := Blk.cell hb1 2 (u := .int .u64 N.h.s0) rfl; have o3 := Blk.cell hb1 3 (u := .int .u64 N.h.s1) rfl; have o4 := Blk.cell hb1 4 (u := .int .u64 N.h.s2) rfl; have o5 := Blk.cell hb1 5 (u := .int .u64 N.h.s3) rfl; have o6 := Blk.cell hb1 6 (u := .int .i64 N.h.n) rfl; have o7 := Blk.cell hb1 7 (u := .int .i64 N.h.mn) rfl; have o8 := Blk.cell hb1 8 (u := .int .i64 N.h.mx) rfl; have o9 := Blk.cell hb1 9 (u := (.slice A N.l.length cap)) rfl)
  have lo := hb1.lt
  clear hb1
  have hc1 := HC.out
  (have r0 := Blk.cell hc1 0 (u := .int .i64 M.h.k) rfl; have r1 := Blk.cell hc1 1 (u := .int .u8 M.h.c) rfl; have r2 := Blk.cell hc1 2 (u := .int .u64 M.h.s0) rfl; have r3 := Blk.cell hc1 3 (u := .int .u64 M.h.s1) rfl; have r4 := Blk.cell hc1 4 (u := .int .u64 M.h.s2) rfl; have r5 := Blk.cell hc1 5 (u := .int .u64 M.h.s3) rfl; have r6 := Blk.cell hc1 6 (u := .int .i64 M.h.n) rfl; have r7 := Blk.cell hc1 7 (u := .int .i64 M.h.mn) rfl; have r8 := Blk.cell hc1 8 (u := .int .i64 M.h.mx) rfl; have r9 := Blk.cell hc1 9 (u := (.slice B M.l.length cap2)) rfl)
  have lr := hc1.lt
  clear hc1
  have k9 := K9.out
  have k9' := K9'.out
  go_wp2_with fail
  refine (awake12 _).mono ?_
  rintro e w9 ⟨rfl, hk9⟩
  go_wp2_with fail
  go_ret
  exact ⟨rfl, HK.out.trans hk9 (fun _ _ h => h)⟩

theorem lies_alt {w : World} {N M : Nd} {A B : Option Addr} {cap cap2 : Nat} (hl : Lies w N (.slice A N.l.length cap)) (hm : Lies w M (.slice B M.l.length cap2)) :
    Lies (w.alloc (.cells #[.int .i64 N.h.k, .int .u8 N.h.c, .int .u64 N.h.s0, .int .u64 N.h.s1, .int .u64 N.h.s2, .int .u64 N.h.s3, .int .i64 N.h.n, .int .i64 N.h.mn, .int .i64 N.h.mx, .slice A N.l.length cap, .int .i64 M.h.k, .int .u8 M.h.c, .int .u64 M.h.s0, .int .u64 M.h.s1, .int .u64 M.h.s2, .int .u64 M.h.s3, .int .i64 M.h.n, .int .i64 M.h.mn, .int .i64 M.h.mx, .slice B M.l.length cap2] 27)) (altNd N M) (.slice (some ⟨w.heap.size, 0, none⟩) 2 2) := by
  have hk : Keep Nb w (w.alloc (.cells #[.int .i64 N.h.k, .int .u8 N.h.c, .int .u64 N.h.s0, .int .u64 N.h.s1, .int .u64 N.h.s2, .int .u64 N.h.s3, .int .i64 N.h.n, .int .i64 N.h.mn, .int .i64 N.h.mx, .slice A N.l.length cap, .int .i64 M.h.k, .int .u8 M.h.c, .int .u64 M.h.s0, .int .u64 M.h.s1, .int .u64 M.h.s2, .int .u64 M.h.s3, .int .i64 M.h.n, .int .i64 M.h.mn, .int .i64 M.h.mx, .slice B M.l.length cap2] 27)) := Keep.alloc (Keep.refl _ _) _
  have hb : Blk (w.alloc (.cells #[.int .i64 N.h.k, .int .u8 N.h.c, .int .u64 N.h.s0, .int .u64 N.h.s1, .int .u64 N.h.s2, .int .u64 N.h.s3, .int .i64 N.h.n, .int .i64 N.h.mn, .int .i64 N.h.mx, .slice A N.l.length cap, .int .i64 M.h.k, .int .u8 M.h.c, .int .u64 M.h.s0, .int .u64 M.h.s1, .int .u64 M.h.s2, .int .u64 M.h.s3, .int .i64 M.h.n, .int .i64 M.h.mn, .int .i64 M.h.mx, .slice B M.l.length cap2] 27)) w.heap.size (Nd.row N (.slice A N.l.length cap) ++ Nd.row M (.slice B M.l.length cap2)) 27 := Blk.cong (Blk.new w _ _) (by simp [Nd.row])
  unfold altNd
  rw [Lies_mk]
  refine ⟨_, 2, rfl, Nat.le_refl _, by decide, ?_⟩
  rw [LiesL, LiesPL, LiesPL, LiesPL]
  refine ⟨⟨w.heap.size, 0, _, rfl, trivial, fun j u hu => ?_, Lies_keep hk hl⟩, ⟨w.heap.size, 0, _, rfl, trivial, fun j u hu => ?_, Lies_keep hk hm⟩, trivial⟩
  · have hj := (Array.getElem?_eq_some_iff.1 hu).1
    rw [Nat.zero_mul, Nat.zero_add]
    exact hb.cell j (by rw [Array.getElem?_append_left hj]; exact hu)
  · refine hb.cell (0 + (0 + 1) * 10 + j) ?_
    rw [Array.getElem?_append_right (by simp [Nd.row])]
    rw [← hu]
    congr 1
    simp [Nd.row]

/-- What a span of two, and both of them, must be. -/
def EitOk (b1 b2 b3 : Bool) (X1 X2 Y1 Y2 Z1 Z2 : Nat) : Prop :=
  (b1 = false ∧ b2 = false ∧ b3 = false) ∨ (b1 = true ∧ b2 = false ∧ b3 = true ∧ Z1 = X1 ∧ Z2 = X2) ∨ (b1 = false ∧ b2 = true ∧ b3 = true ∧ Z1 = Y1 ∧ Z2 = Y2) ∨
  (b1 = true ∧ b2 = true ∧ b3 = true ∧
    (((FloatKind.f64.format.order Y1 X1 == some .lt) = true ∧ Z1 = Y1 ∧ Z2 = Y2) ∨
     ((FloatKind.f64.format.order Y1 X1 == some .lt) = false ∧ (FloatKind.f64.format.order Y1 X1 == some .eq) = false ∧ Z1 = X1 ∧ Z2 = X2) ∨
     ((FloatKind.f64.format.order Y1 X1 == some .lt) = false ∧ (FloatKind.f64.format.order Y1 X1 == some .eq) = true ∧ (FloatKind.f64.format.order Y2 X2 == some .gt) = true ∧ Z1 = Y1 ∧ Z2 = Y2) ∨
     ((FloatKind.f64.format.order Y1 X1 == some .lt) = false ∧ (FloatKind.f64.format.order Y1 X1 == some .eq) = true ∧ (FloatKind.f64.format.order Y2 X2 == some .gt) = false ∧ Z1 = X1 ∧ Z2 = X2)))

set_option maxRecDepth 100000 in
set_option maxHeartbeats 8000000 in
theorem eit_true (N : Nd) (v : Value) (M : Nd) (u : Value) (T : ByteArray) (a : Int) (w : World) (hl : Lies w N v) (hm : Lies w M u) (hf : few N = true) (hg : few M = true) (hp : plainT N = true) (hq : plainT M = true) (h9 : N.h.k ≠ 9) (h9' : M.h.k ≠ 9)
    (b1 b2 b3 : Bool) (e1 e2 e3 : Int) (c1 c2 c3 : Array Value) (X1 X2 Y1 Y2 Z1 Z2 : Nat)
    (hs1 : Hid (c1.size = 22)) (ho1 : Hid (c1.all (·.oneCell') = true)) (hs2 : Hid (c2.size = 22)) (ho2 : Hid (c2.all (·.oneCell') = true)) (hs3 : Hid (c3.size = 22)) (ho3 : Hid (c3.all (·.oneCell') = true))
    (f1 : Hid (c1[0]? = some (.complex .f64 X1 X2))) (f2 : Hid (c2[0]? = some (.complex .f64 Y1 Y2))) (f3 : Hid (c3[0]? = some (.complex .f64 Z1 Z2)))
    (hv1 : findV N T a false = .tuple #[.agg c1, .bool b1, .int .i64 e1]) (hv2 : findV M T a false = .tuple #[.agg c2, .bool b2, .int .i64 e2]) (hv3 : findV (altNd N M) T a false = .tuple #[.agg c3, .bool b3, .int .i64 e3])
    (hok : e1 = 0 → e2 = 0 → e3 = 0 → EitOk b1 b2 b3 X1 X2 Y1 Y2 Z1 Z2) (hz1 : Op.floatEq .f64 Z1 Z1 = true) (hz2 : Op.floatEq .f64 Z2 Z2 = true) :
    Calls Try.prog 13 #[.agg (Nd.row N v), .agg (Nd.row M u), .string T, .int .i64 a] w fun e w' => e = .returned (.bool true) ∧ Keep Nb w w' := by
  have h1 := fun wx => few_any N v wx
  rw [hf] at h1
  have H1 := Lib.hid h1; clear h1
  have hcT := (few_count hf).1
  have h2 := fun wx => few_any M u wx
  rw [hg] at h2
  have H2 := Lib.hid h2; clear h2
  have hcU := (few_count hg).1
  have h3 := fun wx hx => plain12_any 400 N (by omega) (by omega) v wx hx
  rw [hp] at h3
  have H3 := Lib.hid h3; clear h3
  have h4 := fun wx hx => plain12_any 400 M (by omega) (by omega) u wx hx
  rw [hq] at h4
  have H4 := Lib.hid h4; clear h4
  have k9 : (N.h.k == 9) = false := beq_eq_false_iff_ne.2 h9
  have k9' : (M.h.k == 9) = false := beq_eq_false_iff_ne.2 h9'
  obtain ⟨A, cap, rfl, _⟩ := Lies_def.1 hl
  obtain ⟨B, cap2, rfl, _⟩ := Lies_def.1 hm
  have cG : count (altNd N M) ≤ 801 := by rw [altNd, Go.Proofs.Ytkidjbfapldmbaa.P8.count, countL, countL, countL]; omega
  have hF1 := fun A1 n1 wx hx => find_any N (by omega) A1 n1 T a false wx hx
  have hF2 := fun A1 n1 wx hx => find_any M (by omega) A1 n1 T a false wx hx
  have hF3 := fun A1 n1 wx hx => find_any (altNd N M) (by omega) A1 n1 T a false wx hx
  rw [hv1] at hF1
  rw [hv2] at hF2
  rw [hv3] at hF3
  have HF1 := Lib.hid hF1
  have HF2 := Lib.hid hF2
  have HF3 := Lib.hid hF3
  have HT1 := Lib.hid (fun wx hx => theirs_any 400 (by omega) N (by omega) (.slice A N.l.length cap) wx hx)
  have HT2 := Lib.hid (fun wx hx => theirs_any 400 (by omega) M (by omega) (.slice B M.l.length cap2) wx hx)
  have HT3 := Lib.hid (fun v1 wx hx => theirs_any 801 (by omega) (altNd N M) (by omega) v1 wx hx)
  have HOK := Lib.hid hok
  have QX := Lib.hid hz1
  have QY := Lib.hid hz2
  have K9 := Lib.hid k9
  have K9' := Lib.hid k9'
  clear hF1 hF2 hF3 hv1 hv2 hv3 hok hf hg hp hq h9 h9' hcT hcU cG hz1 hz2 k9 k9'
  have hb0 : Blk ((w.alloc (.cells #[.int .i64 N.h.k, .int .u8 N.h.c, .int .u64 N.h.s0, .int .u64 N.h.s1, .int .u64 N.h.s2, .int .u64 N.h.s3, .int .i64 N.h.n, .int .i64 N.h.mn, .int .i64 N.h.mx, .slice A N.l.length cap] 27)).alloc (.cells #[.int .i64 M.h.k, .int .u8 M.h.c, .int .u64 M.h.s0, .int .u64 M.h.s1, .int .u64 M.h.s2, .int .u64 M.h.s3, .int .i64 M.h.n, .int .i64 M.h.mn, .int .i64 M.h.mx, .slice B M.l.length cap2] 27)) w.heap.size (Nd.row N (.slice A N.l.length cap)) 27 := (Blk.new w _ _).alloc _
  have hb1 : Blk ((w.alloc (.cells #[.int .i64 N.h.k, .int .u8 N.h.c, .int .u64 N.h.s0, .int .u64 N.h.s1, .int .u64 N.h.s2, .int .u64 N.h.s3, .int .i64 N.h.n, .int .i64 N.h.mn, .int .i64 N.h.mx, .slice A N.l.length cap] 27)).alloc (.cells #[.int .i64 M.h.k, .int .u8 M.h.c, .int .u64 M.h.s0, .int .u64 M.h.s1, .int .u64 M.h.s2, .int .u64 M.h.s3, .int .i64 M.h.n, .int .i64 M.h.mn, .int .i64 M.h.mx, .slice B M.l.length cap2] 27)) (w.heap.size + 1) (Nd.row M (.slice B M.l.length cap2)) 27 := Blk.new' (by simp) _ _
  have hk0 : Keep Nb w ((w.alloc (.cells #[.int .i64 N.h.k, .int .u8 N.h.c, .int .u64 N.h.s0, .int .u64 N.h.s1, .int .u64 N.h.s2, .int .u64 N.h.s3, .int .i64 N.h.n, .int .i64 N.h.mn, .int .i64 N.h.mx, .slice A N.l.length cap] 27)).alloc (.cells #[.int .i64 M.h.k, .int .u8 M.h.c, .int .u64 M.h.s0, .int .u64 M.h.s1, .int .u64 M.h.s2, .int .u64 M.h.s3, .int .i64 M.h.n, .int .i64 M.h.mn, .int .i64 M.h.mx, .slice B M.l.length cap2] 27)) := Keep.alloc (Keep.alloc (Keep.refl _ _) _) _
  have HB := Lib.hid hb0
  have HC := Lib.hid hb1
  have HK := Lib.hid hk0
  clear hb0 hb1 hk0
  simp only [Nd.row]
  go_enter Try.func13, Try.ntmps13
  go_upto_region 1 with fail
  generalize ((w.alloc (.cells #[.int .i64 N.h.k, .int .u8 N.h.c, .int .u64 N.h.s0, .int .u64 N.h.s1, .int .u64 N.h.s2, .int .u64 N.h.s3, .int .i64 N.h.n, .int .i64 N.h.mn, .int .i64 N.h.mx, .slice A N.l.length cap] 27)).alloc (.cells #[.int .i64 M.h.k, .int .u8 M.h.c, .int .u64 M.h.s0, .int .u64 M.h.s1, .int .u64 M.h.s2, .int .u64 M.h.s3, .int .i64 M.h.n, .int .i64 M.h.mn, .int .i64 M.h.mx, .slice B M.l.length cap2] 27)) = w1 at HB HC HK ⊢
  go_wp2_with fail
  refine (awake12 _).mono ?_
  rintro e w2 ⟨rfl, hk2⟩
  have HB := Lib.hid (HB.out.keep hk2 id)
  have HC := Lib.hid (HC.out.keep hk2 id)
  have HK := Lib.hid (HK.out.trans hk2 (fun _ _ h => h))
  clear hk2
  have hb1 := HB.out
  (have o0 := Blk.cell hb1 0 (u := .int .i64 N.h.k) rfl; have o1 := Blk.cell hb1 1 (u := .int .u8 N.h.c) rfl; have o2 := Blk.cell hb1 2 (u := .int .u64 N.h.s0) rfl; have o3 := Blk.cell hb1 3 (u := .int .u64 N.h.s1) rfl; have o4 := Blk.cell hb1 4 (u := .int .u64 N.h.s2) rfl; have o5 := Blk.cell hb1 5 (u := .int .u64 N.h.s3) rfl; have o6 := Blk.cell hb1 6 (u := .int .i64 N.h.n) rfl; have o7 := Blk.cell hb1 7 (u := .int .i64 N.h.mn) rfl; have o8 := Blk.cell hb1 8 (u := .int .i64 N.h.mx) rfl; have o9 := Blk.cell hb1 9 (u := (.slice A N.l.length cap)) rfl)
  have lo := hb1.lt
  clear hb1
  have hlx := Lies_keep HK.out hl
  go_wp2_with fail
  refine (H1.out _ hlx).mono ?_
  rintro e w3 ⟨rfl, hkx⟩
  have HB := Lib.hid (HB.out.keep hkx id)
  have HC := Lib.hid (HC.out.keep hkx id)
  have HK := Lib.hid (HK.out.trans hkx (fun _ _ h => h))
  clear hkx hlx
  clear o0 o1 o2 o3 o4 o5 o6 o7 o8 o9 lo
  have hc1 := HC.out
  (have r0 := Blk.cell hc1 0 (u := .int .i64 M.h.k) rfl; have r1 := Blk.cell hc1 1 (u := .int .u8 M.h.c) rfl; have r2 := Blk.cell hc1 2 (u := .int .u64 M.h.s0) rfl; have r3 := Blk.cell hc1 3 (u := .int .u64 M.h.s1) rfl; have r4 := Blk.cell hc1 4 (u := .int .u64 M.h.s2) rfl; have r5 := Blk.cell hc1 5 (u := .int .u64 M.h.s3) rfl; have r6 := Blk.cell hc1 6 (u := .int .i64 M.h.n) rfl; have r7 := Blk.cell hc1 7 (u := .int .i64 M.h.mn) rfl; have r8 := Blk.cell hc1 8 (u := .int .i64 M.h.mx) rfl; have r9 := Blk.cell hc1 9 (u := (.slice B M.l.length cap2)) rfl)
  have lr := hc1.lt
  clear hc1
  have hlx := Lies_keep HK.out hm
  go_wp2_with fail
  refine (H2.out _ hlx).mono ?_
  rintro e w4 ⟨rfl, hkx⟩
  have HB := Lib.hid (HB.out.keep hkx id)
  have HC := Lib.hid (HC.out.keep hkx id)
  have HK := Lib.hid (HK.out.trans hkx (fun _ _ h => h))
  clear hkx hlx
  clear r0 r1 r2 r3 r4 r5 r6 r7 r8 r9 lr
  have hb1 := HB.out
  (have o0 := Blk.cell hb1 0 (u := .int .i64 N.h.k) rfl; have o1 := Blk.cell hb1 1 (u := .int .u8 N.h.c) rfl; have o2 := Blk.cell hb1 2 (u := .int .u64 N.h.s0) rfl; have o3 := Blk.cell hb1 3 (u := .int .u64 N.h.s1) rfl; have o4 := Blk.cell hb1 4 (u := .int .u64 N.h.s2) rfl; have o5 := Blk.cell hb1 5 (u := .int .u64 N.h.s3) rfl; have o6 := Blk.cell hb1 6 (u := .int .i64 N.h.n) rfl; have o7 := Blk.cell hb1 7 (u := .int .i64 N.h.mn) rfl; have o8 := Blk.cell hb1 8 (u := .int .i64 N.h.mx) rfl; have o9 := Blk.cell hb1 9 (u := (.slice A N.l.length cap)) rfl)
  have lo := hb1.lt
  clear hb1
  have hlx := Lies_keep HK.out hl
  go_wp2_with fail
  refine (H3.out _ hlx).mono ?_
  rintro e w5 ⟨rfl, hkx⟩
  have HB := Lib.hid (HB.out.keep hkx id)
  have HC := Lib.hid (HC.out.keep hkx id)
  have HK := Lib.hid (HK.out.trans hkx (fun _ _ h => h))
  clear hkx hlx
  clear o0 o1 o2 o3 o4 o5 o6 o7 o8 o9 lo
  have hc1 := HC.out
  (have r0 := Blk.cell hc1 0 (u := .int .i64 M.h.k) rfl; have r1 := Blk.cell hc1 1 (u := .int .u8 M.h.c) rfl; have r2 := Blk.cell hc1 2 (u := .int .u64 M.h.s0) rfl; have r3 := Blk.cell hc1 3 (u := .int .u64 M.h.s1) rfl; have r4 := Blk.cell hc1 4 (u := .int .u64 M.h.s2) rfl; have r5 := Blk.cell hc1 5 (u := .int .u64 M.h.s3) rfl; have r6 := Blk.cell hc1 6 (u := .int .i64 M.h.n) rfl; have r7 := Blk.cell hc1 7 (u := .int .i64 M.h.mn) rfl; have r8 := Blk.cell hc1 8 (u := .int .i64 M.h.mx) rfl; have r9 := Blk.cell hc1 9 (u := (.slice B M.l.length cap2)) rfl)
  have lr := hc1.lt
  clear hc1
  have hlx := Lies_keep HK.out hm
  go_wp2_with fail
  refine (H4.out _ hlx).mono ?_
  rintro e w6 ⟨rfl, hkx⟩
  have HB := Lib.hid (HB.out.keep hkx id)
  have HC := Lib.hid (HC.out.keep hkx id)
  have HK := Lib.hid (HK.out.trans hkx (fun _ _ h => h))
  clear hkx hlx
  clear r0 r1 r2 r3 r4 r5 r6 r7 r8 r9 lr
  have hb1 := HB.out
  (have o0 := Blk.cell hb1 0 (u := .int .i64 N.h.k) rfl; have o1 := Blk.cell hb1 1 (u := .int .u8 N.h.c) rfl; have o2 := Blk.cell hb1 2 (u := .int .u64 N.h.s0) rfl; have o3 := Blk.cell hb1 3 (u := .int .u64 N.h.s1) rfl; have o4 := Blk.cell hb1 4 (u := .int .u64 N.h.s2) rfl; have o5 := Blk.cell hb1 5 (u := .int .u64 N.h.s3) rfl; have o6 := Blk.cell hb1 6 (u := .int .i64 N.h.n) rfl; have o7 := Blk.cell hb1 7 (u := .int .i64 N.h.mn) rfl; have o8 := Blk.cell hb1 8 (u := .int .i64 N.h.mx) rfl; have o9 := Blk.cell hb1 9 (u := (.slice A N.l.length cap)) rfl)
  have lo := hb1.lt
  clear hb1
  have hc1 := HC.out
  (have r0 := Blk.cell hc1 0 (u := .int .i64 M.h.k) rfl; have r1 := Blk.cell hc1 1 (u := .int .u8 M.h.c) rfl; have r2 := Blk.cell hc1 2 (u := .int .u64 M.h.s0) rfl; have r3 := Blk.cell hc1 3 (u := .int .u64 M.h.s1) rfl; have r4 := Blk.cell hc1 4 (u := .int .u64 M.h.s2) rfl; have r5 := Blk.cell hc1 5 (u := .int .u64 M.h.s3) rfl; have r6 := Blk.cell hc1 6 (u := .int .i64 M.h.n) rfl; have r7 := Blk.cell hc1 7 (u := .int .i64 M.h.mn) rfl; have r8 := Blk.cell hc1 8 (u := .int .i64 M.h.mx) rfl; have r9 := Blk.cell hc1 9 (u := (.slice B M.l.length cap2)) rfl)
  have lr := hc1.lt
  clear hc1
  have k9 := K9.out
  have k9' := K9'.out
  go_upto_region 3 with fail
  clear k9 k9'
  clear o0 o1 o2 o3 o4 o5 o6 o7 o8 o9 lo
  clear r0 r1 r2 r3 r4 r5 r6 r7 r8 r9 lr
  have hb1 := HB.out
  (have o0 := Blk.cell hb1 0 (u := .int .i64 N.h.k) rfl; have o1 := Blk.cell hb1 1 (u := .int .u8 N.h.c) rfl; have o2 := Blk.cell hb1 2 (u := .int .u64 N.h.s0) rfl; have o3 := Blk.cell hb1 3 (u := .int .u64 N.h.s1) rfl; have o4 := Blk.cell hb1 4 (u := .int .u64 N.h.s2) rfl; have o5 := Blk.cell hb1 5 (u := .int .u64 N.h.s3) rfl; have o6 := Blk.cell hb1 6 (u := .int .i64 N.h.n) rfl; have o7 := Blk.cell hb1 7 (u := .int .i64 N.h.mn) rfl; have o8 := Blk.cell hb1 8 (u := .int .i64 N.h.mx) rfl; have o9 := Blk.cell hb1 9 (u := (.slice A N.l.length cap)) rfl)
  have lo := hb1.lt
  clear hb1
  have hlx := Lies_keep HK.out hl
  go_wp2_with fail
  refine (HT1.out _ hlx).mono ?_
  rintro e wa ⟨S1, rfl, hB1, hk4⟩
  obtain ⟨A1, n1, rfl, _⟩ := LiesP_def.1 hB1
  have hl4 := LiesP_all hB1
  have HB := Lib.hid (HB.out.keep hk4 id)
  have HC := Lib.hid (HC.out.keep hk4 id)
  have HK := Lib.hid (HK.out.trans hk4 (fun _ _ h => h))
  clear hlx hB1 hk4
  clear o0 o1 o2 o3 o4 o5 o6 o7 o8 o9 lo
  go_wp2_with fail
  refine (HF1.out A1 n1 _ hl4).mono ?_
  rintro e wb ⟨rfl, hk5⟩
  have HB := Lib.hid (HB.out.keep hk5 id)
  have HC := Lib.hid (HC.out.keep hk5 id)
  have HK := Lib.hid (HK.out.trans hk5 (fun _ _ h => h))
  clear hl4 hk5
  have z0 : Blk (wb.alloc (.cells #[.complex .f64 0 0, .complex .f64 0 0, .complex .f64 0 0, .complex .f64 0 0, .complex .f64 0 0, .complex .f64 0 0, .complex .f64 0 0, .complex .f64 0 0, .complex .f64 0 0, .complex .f64 0 0, .complex .f64 0 0, .bool false, .bool false, .bool false, .bool false, .bool false, .bool false, .bool false, .bool false, .bool false, .bool false, .int .i64 0] 49)) wb.heap.size #[.complex .f64 0 0, .complex .f64 0 0, .complex .f64 0 0, .complex .f64 0 0, .complex .f64 0 0, .complex .f64 0 0, .complex .f64 0 0, .complex .f64 0 0, .complex .f64 0 0, .complex .f64 0 0, .complex .f64 0 0, .bool false, .bool false, .bool false, .bool false, .bool false, .bool false, .bool false, .bool false, .bool false, .bool false, .int .i64 0] 49 := Blk.new wb _ _
  have z1 : Blk ((wb.alloc (.cells #[.complex .f64 0 0, .complex .f64 0 0, .complex .f64 0 0, .complex .f64 0 0, .complex .f64 0 0, .complex .f64 0 0, .complex .f64 0 0, .complex .f64 0 0, .complex .f64 0 0, .complex .f64 0 0, .complex .f64 0 0, .bool false, .bool false, .bool false, .bool false, .bool false, .bool false, .bool false, .bool false, .bool false, .bool false, .int .i64 0] 49)).setRow wb.heap.size c1) wb.heap.size c1 49 := z0.setRow _
  have k1 : Keep Nb wb ((wb.alloc (.cells #[.complex .f64 0 0, .complex .f64 0 0, .complex .f64 0 0, .complex .f64 0 0, .complex .f64 0 0, .complex .f64 0 0, .complex .f64 0 0, .complex .f64 0 0, .complex .f64 0 0, .complex .f64 0 0, .complex .f64 0 0, .bool false, .bool false, .bool false, .bool false, .bool false, .bool false, .bool false, .bool false, .bool false, .bool false, .int .i64 0] 49)).setRow wb.heap.size c1) := Keep.setRow (Keep.alloc (Keep.refl _ _) _) (Or.inl (Nat.le_refl _)) _
  have HZ0 := Lib.hid z0
  have HPX := Lib.hid z1
  have HB := Lib.hid (HB.out.keep k1 id)
  have HC := Lib.hid (HC.out.keep k1 id)
  have HK := Lib.hid (HK.out.trans k1 (fun _ _ h => h))
  clear z0 z1 k1
  go_upto_region 4 with (refine wpList_store_row rfl 49 (.tmp 9) (.tmp 58) rfl wb.heap.size c1 rfl rfl 49 _ HZ0.out (by rw [hs1.out]; exact sizeFo) (by rw [hs1.out]; rfl) ho1.out ?_)
  generalize (wb.alloc (.cells #[.complex .f64 0 0, .complex .f64 0 0, .complex .f64 0 0, .complex .f64 0 0, .complex .f64 0 0, .complex .f64 0 0, .complex .f64 0 0, .complex .f64 0 0, .complex .f64 0 0, .complex .f64 0 0, .complex .f64 0 0, .bool false, .bool false, .bool false, .bool false, .bool false, .bool false, .bool false, .bool false, .bool false, .bool false, .int .i64 0] 49)).setRow wb.heap.size c1 = wc at HPX HK HB HC  ⊢
  generalize wb.heap.size = px at HPX ⊢
  clear HZ0
  have hc1 := HC.out
  (have r0 := Blk.cell hc1 0 (u := .int .i64 M.h.k) rfl; have r1 := Blk.cell hc1 1 (u := .int .u8 M.h.c) rfl; have r2 := Blk.cell hc1 2 (u := .int .u64 M.h.s0) rfl; have r3 := Blk.cell hc1 3 (u := .int .u64 M.h.s1) rfl; have r4 := Blk.cell hc1 4 (u := .int .u64 M.h.s2) rfl; have r5 := Blk.cell hc1 5 (u := .int .u64 M.h.s3) rfl; have r6 := Blk.cell hc1 6 (u := .int .i64 M.h.n) rfl; have r7 := Blk.cell hc1 7 (u := .int .i64 M.h.mn) rfl; have r8 := Blk.cell hc1 8 (u := .int .i64 M.h.mx) rfl; have r9 := Blk.cell hc1 9 (u := (.slice B M.l.length cap2)) rfl)
  have lr := hc1.lt
  clear hc1
  have hlx := Lies_keep HK.out hm
  go_wp2_with fail
  refine (HT2.out _ hlx).mono ?_
  rintro e wa2 ⟨S1, rfl, hB1, hk4⟩
  obtain ⟨A1, n1, rfl, _⟩ := LiesP_def.1 hB1
  have hl4 := LiesP_all hB1
  have HB := Lib.hid (HB.out.keep hk4 id)
  have HC := Lib.hid (HC.out.keep hk4 id)
  have HK := Lib.hid (HK.out.trans hk4 (fun _ _ h => h))
  have HPX := Lib.hid (HPX.out.keep hk4 id)
  clear hlx hB1 hk4
  clear r0 r1 r2 r3 r4 r5 r6 r7 r8 r9 lr
  go_wp2_with fail
  refine (HF2.out A1 n1 _ hl4).mono ?_
  rintro e wb2 ⟨rfl, hk5⟩
  have HB := Lib.hid (HB.out.keep hk5 id)
  have HC := Lib.hid (HC.out.keep hk5 id)
  have HK := Lib.hid (HK.out.trans hk5 (fun _ _ h => h))
  have HPX := Lib.hid (HPX.out.keep hk5 id)
  clear hl4 hk5
  have z0 : Blk (wb2.alloc (.cells #[.complex .f64 0 0, .complex .f64 0 0, .complex .f64 0 0, .complex .f64 0 0, .complex .f64 0 0, .complex .f64 0 0, .complex .f64 0 0, .complex .f64 0 0, .complex .f64 0 0, .complex .f64 0 0, .complex .f64 0 0, .bool false, .bool false, .bool false, .bool false, .bool false, .bool false, .bool false, .bool false, .bool false, .bool false, .int .i64 0] 49)) wb2.heap.size #[.complex .f64 0 0, .complex .f64 0 0, .complex .f64 0 0, .complex .f64 0 0, .complex .f64 0 0, .complex .f64 0 0, .complex .f64 0 0, .complex .f64 0 0, .complex .f64 0 0, .complex .f64 0 0, .complex .f64 0 0, .bool false, .bool false, .bool false, .bool false, .bool false, .bool false, .bool false, .bool false, .bool false, .bool false, .int .i64 0] 49 := Blk.new wb2 _ _
  have z1 : Blk ((wb2.alloc (.cells #[.complex .f64 0 0, .complex .f64 0 0, .complex .f64 0 0, .complex .f64 0 0, .complex .f64 0 0, .complex .f64 0 0, .complex .f64 0 0, .complex .f64 0 0, .complex .f64 0 0, .complex .f64 0 0, .complex .f64 0 0, .bool false, .bool false, .bool false, .bool false, .bool false, .bool false, .bool false, .bool false, .bool false, .bool false, .int .i64 0] 49)).setRow wb2.heap.size c2) wb2.heap.size c2 49 := z0.setRow _
  have k1 : Keep Nb wb2 ((wb2.alloc (.cells #[.complex .f64 0 0, .complex .f64 0 0, .complex .f64 0 0, .complex .f64 0 0, .complex .f64 0 0, .complex .f64 0 0, .complex .f64 0 0, .complex .f64 0 0, .complex .f64 0 0, .complex .f64 0 0, .complex .f64 0 0, .bool false, .bool false, .bool false, .bool false, .bool false, .bool false, .bool false, .bool false, .bool false, .bool false, .int .i64 0] 49)).setRow wb2.heap.size c2) := Keep.setRow (Keep.alloc (Keep.refl _ _) _) (Or.inl (Nat.le_refl _)) _
  have HZ0 := Lib.hid z0
  have HPY := Lib.hid z1
  have HB := Lib.hid (HB.out.keep k1 id)
  have HC := Lib.hid (HC.out.keep k1 id)
  have HK := Lib.hid (HK.out.trans k1 (fun _ _ h => h))
  have HPX := Lib.hid (HPX.out.keep k1 id)
  clear z0 z1 k1
  go_upto_region 5 with (refine wpList_store_row rfl 49 (.tmp 12) (.tmp 67) rfl wb2.heap.size c2 rfl rfl 49 _ HZ0.out (by rw [hs2.out]; exact sizeFo) (by rw [hs2.out]; rfl) ho2.out ?_)
  generalize (wb2.alloc (.cells #[.complex .f64 0 0, .complex .f64 0 0, .complex .f64 0 0, .complex .f64 0 0, .complex .f64 0 0, .complex .f64 0 0, .complex .f64 0 0, .complex .f64 0 0, .complex .f64 0 0, .complex .f64 0 0, .complex .f64 0 0, .bool false, .bool false, .bool false, .bool false, .bool false, .bool false, .bool false, .bool false, .bool false, .bool false, .int .i64 0] 49)).setRow wb2.heap.size c2 = wd at HPY HK HB HC HPX ⊢
  generalize wb2.heap.size = py at HPY ⊢
  clear HZ0
  have hb1 := HB.out
  (have o0 := Blk.cell hb1 0 (u := .int .i64 N.h.k) rfl; have o1 := Blk.cell hb1 1 (u := .int .u8 N.h.c) rfl; have o2 := Blk.cell hb1 2 (u := .int .u64 N.h.s0) rfl; have o3 := Blk.cell hb1 3 (u := .int .u64 N.h.s1) rfl; have o4 := Blk.cell hb1 4 (u := .int .u64 N.h.s2) rfl; have o5 := Blk.cell hb1 5 (u := .int .u64 N.h.s3) rfl; have o6 := Blk.cell hb1 6 (u := .int .i64 N.h.n) rfl; have o7 := Blk.cell hb1 7 (u := .int .i64 N.h.mn) rfl; have o8 := Blk.cell hb1 8 (u := .int .i64 N.h.mx) rfl; have o9 := Blk.cell hb1 9 (u := (.slice A N.l.length cap)) rfl)
  have lo := hb1.lt
  clear hb1
  have hc1 := HC.out
  (have r0 := Blk.cell hc1 0 (u := .int .i64 M.h.k) rfl; have r1 := Blk.cell hc1 1 (u := .int .u8 M.h.c) rfl; have r2 := Blk.cell hc1 2 (u := .int .u64 M.h.s0) rfl; have r3 := Blk.cell hc1 3 (u := .int .u64 M.h.s1) rfl; have r4 := Blk.cell hc1 4 (u := .int .u64 M.h.s2) rfl; have r5 := Blk.cell hc1 5 (u := .int .u64 M.h.s3) rfl; have r6 := Blk.cell hc1 6 (u := .int .i64 M.h.n) rfl; have r7 := Blk.cell hc1 7 (u := .int .i64 M.h.mn) rfl; have r8 := Blk.cell hc1 8 (u := .int .i64 M.h.mx) rfl; have r9 := Blk.cell hc1 9 (u := (.slice B M.l.length cap2)) rfl)
  have lr := hc1.lt
  clear hc1
  have hl8 := Lies_keep HK.out hl
  have hm8 := Lies_keep HK.out hm
  have hlg := lies_alt hl8 hm8
  have kg : Keep Nb wd (wd.alloc (.cells #[.int .i64 N.h.k, .int .u8 N.h.c, .int .u64 N.h.s0, .int .u64 N.h.s1, .int .u64 N.h.s2, .int .u64 N.h.s3, .int .i64 N.h.n, .int .i64 N.h.mn, .int .i64 N.h.mx, .slice A N.l.length cap, .int .i64 M.h.k, .int .u8 M.h.c, .int .u64 M.h.s0, .int .u64 M.h.s1, .int .u64 M.h.s2, .int .u64 M.h.s3, .int .i64 M.h.n, .int .i64 M.h.mn, .int .i64 M.h.mx, .slice B M.l.length cap2] 27)) := Keep.alloc (Keep.refl _ _) _
  have HLG := Lib.hid hlg
  have HB := Lib.hid (HB.out.keep kg id)
  have HC := Lib.hid (HC.out.keep kg id)
  have HK := Lib.hid (HK.out.trans kg (fun _ _ h => h))
  have HPX := Lib.hid (HPX.out.keep kg id)
  have HPY := Lib.hid (HPY.out.keep kg id)
  have HTX := Lib.hid (HT3.out (.slice (some ⟨wd.heap.size, 0, none⟩) 2 2) (wd.alloc (.cells #[.int .i64 N.h.k, .int .u8 N.h.c, .int .u64 N.h.s0, .int .u64 N.h.s1, .int .u64 N.h.s2, .int .u64 N.h.s3, .int .i64 N.h.n, .int .i64 N.h.mn, .int .i64 N.h.mx, .slice A N.l.length cap, .int .i64 M.h.k, .int .u8 M.h.c, .int .u64 M.h.s0, .int .u64 M.h.s1, .int .u64 M.h.s2, .int .u64 M.h.s3, .int .i64 M.h.n, .int .i64 M.h.mn, .int .i64 M.h.mx, .slice B M.l.length cap2] 27)) HLG.out)
  rw [show Nd.row (altNd N M) (.slice (some ⟨wd.heap.size, 0, none⟩) 2 2) = #[.int .i64 9, .int .u8 0, .int .u64 0, .int .u64 0, .int .u64 0, .int .u64 0, .int .i64 0, .int .i64 0, .int .i64 0, .slice (some ⟨wd.heap.size, 0, none⟩) 2 2] from rfl] at HTX
  clear hl8 hm8 hlg kg
  go_wp2_with fail
  refine HTX.out.mono ?_
  rintro e we ⟨S2, rfl, hB1, hk4⟩
  obtain ⟨A2, n2, rfl, _⟩ := LiesP_def.1 hB1
  have hl4 := LiesP_all hB1
  have HB := Lib.hid (HB.out.keep hk4 id)
  have HC := Lib.hid (HC.out.keep hk4 id)
  have HK := Lib.hid (HK.out.trans hk4 (fun _ _ h => h))
  have HPX := Lib.hid (HPX.out.keep hk4 id)
  have HPY := Lib.hid (HPY.out.keep hk4 id)
  clear hB1 hk4 HTX HLG
  clear o0 o1 o2 o3 o4 o5 o6 o7 o8 o9 lo
  clear r0 r1 r2 r3 r4 r5 r6 r7 r8 r9 lr
  go_wp2_with fail
  refine (HF3.out A2 n2 _ hl4).mono ?_
  rintro e wf ⟨rfl, hk5⟩
  have HB := Lib.hid (HB.out.keep hk5 id)
  have HC := Lib.hid (HC.out.keep hk5 id)
  have HK := Lib.hid (HK.out.trans hk5 (fun _ _ h => h))
  have HPX := Lib.hid (HPX.out.keep hk5 id)
  have HPY := Lib.hid (HPY.out.keep hk5 id)
  clear hl4 hk5
  have z0 : Blk (wf.alloc (.cells #[.complex .f64 0 0, .complex .f64 0 0, .complex .f64 0 0, .complex .f64 0 0, .complex .f64 0 0, .complex .f64 0 0, .complex .f64 0 0, .complex .f64 0 0, .complex .f64 0 0, .complex .f64 0 0, .complex .f64 0 0, .bool false, .bool false, .bool false, .bool false, .bool false, .bool false, .bool false, .bool false, .bool false, .bool false, .int .i64 0] 49)) wf.heap.size #[.complex .f64 0 0, .complex .f64 0 0, .complex .f64 0 0, .complex .f64 0 0, .complex .f64 0 0, .complex .f64 0 0, .complex .f64 0 0, .complex .f64 0 0, .complex .f64 0 0, .complex .f64 0 0, .complex .f64 0 0, .bool false, .bool false, .bool false, .bool false, .bool false, .bool false, .bool false, .bool false, .bool false, .bool false, .int .i64 0] 49 := Blk.new wf _ _
  have z1 : Blk ((wf.alloc (.cells #[.complex .f64 0 0, .complex .f64 0 0, .complex .f64 0 0, .complex .f64 0 0, .complex .f64 0 0, .complex .f64 0 0, .complex .f64 0 0, .complex .f64 0 0, .complex .f64 0 0, .complex .f64 0 0, .complex .f64 0 0, .bool false, .bool false, .bool false, .bool false, .bool false, .bool false, .bool false, .bool false, .bool false, .bool false, .int .i64 0] 49)).setRow wf.heap.size c3) wf.heap.size c3 49 := z0.setRow _
  have k1 : Keep Nb wf ((wf.alloc (.cells #[.complex .f64 0 0, .complex .f64 0 0, .complex .f64 0 0, .complex .f64 0 0, .complex .f64 0 0, .complex .f64 0 0, .complex .f64 0 0, .complex .f64 0 0, .complex .f64 0 0, .complex .f64 0 0, .complex .f64 0 0, .bool false, .bool false, .bool false, .bool false, .bool false, .bool false, .bool false, .bool false, .bool false, .bool false, .int .i64 0] 49)).setRow wf.heap.size c3) := Keep.setRow (Keep.alloc (Keep.refl _ _) _) (Or.inl (Nat.le_refl _)) _
  have HZ0 := Lib.hid z0
  have HPZ := Lib.hid z1
  have HB := Lib.hid (HB.out.keep k1 id)
  have HC := Lib.hid (HC.out.keep k1 id)
  have HK := Lib.hid (HK.out.trans k1 (fun _ _ h => h))
  have HPX := Lib.hid (HPX.out.keep k1 id)
  have HPY := Lib.hid (HPY.out.keep k1 id)
  clear z0 z1 k1
  go_upto_region 6 with (refine wpList_store_row rfl 49 (.tmp 15) (.tmp 79) rfl wf.heap.size c3 rfl rfl 49 _ HZ0.out (by rw [hs3.out]; exact sizeFo) (by rw [hs3.out]; rfl) ho3.out ?_)
  generalize (wf.alloc (.cells #[.complex .f64 0 0, .complex .f64 0 0, .complex .f64 0 0, .complex .f64 0 0, .complex .f64 0 0, .complex .f64 0 0, .complex .f64 0 0, .complex .f64 0 0, .complex .f64 0 0, .complex .f64 0 0, .complex .f64 0 0, .bool false, .bool false, .bool false, .bool false, .bool false, .bool false, .bool false, .bool false, .bool false, .bool false, .int .i64 0] 49)).setRow wf.heap.size c3 = wg at HPZ HK HB HC HPX HPY ⊢
  generalize wf.heap.size = pz at HPZ ⊢
  clear HZ0
  have x0 := HPX.out.cell 0 f1.out
  have lx := HPX.out.lt
  have y0 := HPY.out.cell 0 f2.out
  have ly := HPY.out.lt
  have z0 := HPZ.out.cell 0 f3.out
  have lz := HPZ.out.lt
  by_cases h1 : e1 = 0
  · by_cases h2 : e2 = 0
    · by_cases h3 : e3 = 0
      · have hE := HOK.out h1 h2 h3
        subst h1
        subst h2
        subst h3
        have qx : (FloatKind.f64.format.order Z1 Z1 == some .eq) = true := QX.out
        have qy : (FloatKind.f64.format.order Z2 Z2 == some .eq) = true := QY.out
        rcases hE with ⟨rfl, rfl, rfl⟩ | ⟨rfl, rfl, rfl, rfl, rfl⟩ | ⟨rfl, rfl, rfl, rfl, rfl⟩ | ⟨rfl, rfl, rfl, ⟨g1, rfl, rfl⟩ | ⟨g1, g2, rfl, rfl⟩ | ⟨g1, g2, g3, rfl, rfl⟩ | ⟨g1, g2, g3, rfl, rfl⟩⟩
        all_goals
          go_wp2_with fail
          go_ret
          exact ⟨by first | rfl | simp [qx, qy] | simp, HK.out⟩
      · have m3 : (e3 != 0) = true := by simpa using h3
        have m3' : (e3 == 0) = false := beq_eq_false_iff_ne.2 h3
        subst h1
        subst h2
        go_wp2_with fail
        go_ret
        exact ⟨rfl, HK.out⟩
    · have m2 : (e2 != 0) = true := by simpa using h2
      have m2' : (e2 == 0) = false := beq_eq_false_iff_ne.2 h2
      subst h1
      go_wp2_with fail
      go_ret
      exact ⟨rfl, HK.out⟩
  · have m1 : (e1 != 0) = true := by simpa using h1
    have m1' : (e1 == 0) = false := beq_eq_false_iff_ne.2 h1
    go_wp2_with fail
    go_ret
    exact ⟨rfl, HK.out⟩

theorem findV_parts (N : Nd) (T : ByteArray) (a : Int) : ∃ (s : St) (b : Bool) (err : Int), findV N T a false = .tuple #[.agg (fLit s), .bool b, .int .i64 err] ∧ CapsOk 600 (bestC s) ∧
    (err = 0 → ∃ hF : formedT N = true, T.size ≤ 600 ∧ 0 ≤ a ∧ a ≤ T.size ∧
      ((∃ st q c, b = true ∧ s.best = some (q, c) ∧ c 0 = some (st, q) ∧ a.toNat ≤ st ∧ st ≤ T.size ∧ q ≤ T.size ∧ Fresh T.toList false N st (some q) ∧ ∀ i, a.toNat ≤ i → i < st → Fresh T.toList false N i none) ∨
       (b = false ∧ ∀ i, a.toNat ≤ i → i ≤ T.size → Fresh T.toList false N i none))) := by
  have z : CapsOk 600 (bestC ⟨0, false, none⟩) := fun _ _ _ h => by cases h
  by_cases h : formedT N = true ∧ T.size ≤ 600 ∧ 0 ≤ a ∧ a ≤ T.size
  · have hv : findV N T a false = findW (found T.toList false N (formed_ok h.1) a.toNat) := by rw [findV, dif_pos h]
    obtain ⟨k, hk⟩ := found_spec T.toList false N (formed_ok h.1) a.toNat
    have lo := find_again T.toList false N (formed_ok h.1) k _ _ _ _ hk rfl (Nat.zero_le _) (by rw [toList_len]; omega)
    have fr := find_fresh T.toList false N (formed_ok h.1) k _ _ _ _ hk rfl (Nat.zero_le _) (by rw [toList_len]; omega)
    generalize found T.toList false N (formed_ok h.1) a.toNat = S at hv lo fr
    by_cases ho : S.over = true
    · rw [findW, if_pos ho] at hv
      exact ⟨⟨0, false, none⟩, false, 12, by rw [hv, zero_lit], z, fun h => by cases h⟩
    · rw [findW, if_neg ho, fLit_eq] at hv
      have fr := fr (by simpa using ho)
      rw [toList_len] at fr
      refine ⟨S, _, 0, hv, ?_, fun _ => ⟨h.1, h.2.1, h.2.2.1, h.2.2.2, ?_⟩⟩
      · cases hb : S.best with
        | none => rw [bestC, hb]; exact fun _ _ _ h => by cases h
        | some o =>
          obtain ⟨q, c⟩ := o
          rw [bestC, hb]
          have h1 := (lo (by simpa using ho) q c hb).1
          intro i x y hi
          have := h1 i x y hi
          rw [toList_len] at this
          omega
      · rcases fr with ⟨st, q, c, r1, r2, r3, r4, r5, r6, r7⟩ | ⟨r1, r2⟩
        · exact .inl ⟨st, q, c, by rw [r1]; rfl, r1, r2, r3, r4, r5, r6, r7⟩
        · exact .inr ⟨by rw [r1]; rfl, r2⟩
  · have hv : findV N T a false = noneV := by rw [findV, dif_neg h]
    exact ⟨⟨0, false, none⟩, false, 1, by rw [hv, noneV, zero_lit], z, fun h => by cases h⟩
theorem re_of {s : St} {st q : Nat} {c : Caps} (h : s.best = some (q, c)) (h0 : c 0 = some (st, q)) : reV (bestC s 0) = F st ∧ imV (bestC s 0) = F q := by
  have : bestC s 0 = some (st, q) := by rw [bestC, h]; exact h0
  rw [this]
  exact ⟨rfl, rfl⟩
theorem eit_any (N : Nd) (v : Value) (M : Nd) (u : Value) (T : ByteArray) (a : Int) (w : World) (hl : Lies w N v) (hm : Lies w M u) :
    Calls Try.prog 13 #[.agg (Nd.row N v), .agg (Nd.row M u), .string T, .int .i64 a] w fun e w' => e = .returned (.bool true) ∧ Keep Nb w w' := by
  by_cases hf : few N = true
  · by_cases hg : few M = true
    · by_cases hp : plainT N = true
      · by_cases hq : plainT M = true
        · by_cases h9 : N.h.k = 9
          · exact eit_k1 N v M u T a w hl hm hf hg hp hq h9
          · by_cases h9' : M.h.k = 9
            · exact eit_k2 N v M u T a w hl hm hf hg hp hq h9 h9'
            · obtain ⟨s1, b1, e1, v1, c1, r1⟩ := findV_parts N T a
              obtain ⟨s2, b2, e2, v2, c2, r2⟩ := findV_parts M T a
              obtain ⟨s3, b3, e3, v3, c3, r3⟩ := findV_parts (altNd N M) T a
              refine eit_true N v M u T a w hl hm hf hg hp hq h9 h9' b1 b2 b3 e1 e2 e3 _ _ _ _ _ _ _ _ _ (Lib.hid rfl) (Lib.hid (fLit_one s1)) (Lib.hid rfl) (Lib.hid (fLit_one s2)) (Lib.hid rfl) (Lib.hid (fLit_one s3))
                (Lib.hid (fLit_0e s1)) (Lib.hid (fLit_0e s2)) (Lib.hid (fLit_0e s3)) v1 v2 v3 (fun z1 z2 z3 => ?_) (self_ree c3 (Nat.le_refl _) 0).1 (self_ree c3 (Nat.le_refl _) 0).2
              obtain ⟨f1, hT, ha, hb, r1⟩ := r1 z1
              obtain ⟨f2, _, _, _, r2⟩ := r2 z2
              obtain ⟨f3, _, _, _, r3⟩ := r3 z3
              have al := fun i R (h : Fresh T.toList false (altNd N M) i R) => fresh_alt hp hq (formed_ok f1) (formed_ok f2) h
              rcases r3 with ⟨st, q, c, g1, g2, g3, g4, g5, g6, g7, g8⟩ | ⟨g1, g2⟩
              · obtain ⟨Rx, Ry, u1, u2, u3⟩ := al st _ g7
                have ahead : ∀ i, a.toNat ≤ i → i < st → Fresh T.toList false N i none ∧ Fresh T.toList false M i none := fun i h1 h2 => by
                  obtain ⟨Rx, Ry, w1, w2, w3⟩ := al i _ (g8 i h1 h2)
                  cases Rx with
                  | none => cases Ry with
                    | none => exact ⟨w1, w2⟩
                    | some y => cases w3
                  | some x => cases Ry <;> cases w3
                obtain ⟨Z1, Z2⟩ := re_of g2 g3
                have first : ∀ {K : Nd} {sx : Nat} {qx : Nat} {R : Option Nat}, Fresh T.toList false K sx (some qx) → a.toNat ≤ sx → (∀ i, a.toNat ≤ i → i < sx → Fresh T.toList false K i none) → (∀ i, a.toNat ≤ i → i < st → Fresh T.toList false K i none) → Fresh T.toList false K st R → (R = none → st < sx) ∧ (∀ y, R = some y → sx = st ∧ qx = y) := fun {K sx qx R} h1 h2 h3 h4 h5 => by
                  have hle : st ≤ sx := by
                    rcases Nat.lt_or_ge sx st with hc | hc
                    · have := h1.one (h4 sx h2 hc); cases this
                    · exact hc
                  refine ⟨fun hR => ?_, fun y hR => ?_⟩
                  · subst hR
                    rcases Nat.lt_or_ge st sx with hc | hc
                    · exact hc
                    · have : sx = st := by omega
                      subst this
                      have := h1.one h5; cases this
                  · subst hR
                    rcases Nat.lt_or_ge st sx with hc | hc
                    · have := (h3 st g4 hc).one h5; cases this
                    · have : sx = st := by omega
                      subst this
                      have := h1.one h5; cases this; exact ⟨rfl, rfl⟩
                have nof : ∀ {K : Nd} {R : Option Nat}, (∀ i, a.toNat ≤ i → i ≤ T.size → Fresh T.toList false K i none) → Fresh T.toList false K st R → R = none := fun {K R} h1 h2 => h2.one (h1 st g4 g5)
                rcases r1 with ⟨sx, qx, cx, x1, x2, x3, x4, x5, x6, x7, x8⟩ | ⟨x1, x2⟩
                · obtain ⟨X1, X2⟩ := re_of x2 x3
                  have kx := first x7 x4 x8 (fun i h1 h2 => (ahead i h1 h2).1) u1
                  rcases r2 with ⟨sy, qy, cy, y1, y2, y3, y4, y5, y6, y7, y8⟩ | ⟨y1, y2⟩
                  · obtain ⟨Y1, Y2⟩ := re_of y2 y3
                    have ky := first y7 y4 y8 (fun i h1 h2 => (ahead i h1 h2).2) u2
                    refine .inr (.inr (.inr ⟨x1, y1, g1, ?_⟩))
                    rw [X1, X2, Y1, Y2, Z1, Z2, F_lt (by omega) (by omega), F_eq (by omega) (by omega), F_gt (by omega) (by omega)]
                    cases Rx with
                    | none =>
                      have h1 := kx.1 rfl
                      cases Ry with
                      | none => cases u3
                      | some y =>
                        obtain ⟨h2, h3⟩ := ky.2 y rfl
                        cases u3
                        exact .inl ⟨by simp; omega, by rw [h2], by rw [h3]⟩
                    | some x =>
                      obtain ⟨h1, h2⟩ := kx.2 x rfl
                      cases Ry with
                      | none =>
                        have h3 := ky.1 rfl
                        cases u3
                        exact .inr (.inl ⟨by simp; omega, by simp; omega, by rw [h1], by rw [h2]⟩)
                      | some y =>
                        obtain ⟨h3, h4⟩ := ky.2 y rfl
                        have hq : q = max x y := by cases u3; rfl
                        by_cases hxy : x < y
                        · exact .inr (.inr (.inl ⟨by simp; omega, by simp; omega, by simp; omega, by rw [h3], by rw [h4, hq, Nat.max_eq_right (by omega)]⟩))
                        · exact .inr (.inr (.inr ⟨by simp; omega, by simp; omega, by simp; omega, by rw [h1], by rw [h2, hq, Nat.max_eq_left (by omega)]⟩))
                  · have hy := nof y2 u2
                    subst hy
                    refine .inr (.inl ⟨x1, y1, g1, ?_⟩)
                    cases Rx with
                    | none => cases u3
                    | some x =>
                      obtain ⟨h1, h2⟩ := kx.2 x rfl
                      cases u3
                      rw [X1, X2, Z1, Z2, h1, h2]
                      exact ⟨rfl, rfl⟩
                · have hx := nof x2 u1
                  subst hx
                  rcases r2 with ⟨sy, qy, cy, y1, y2, y3, y4, y5, y6, y7, y8⟩ | ⟨y1, y2⟩
                  · obtain ⟨Y1, Y2⟩ := re_of y2 y3
                    have ky := first y7 y4 y8 (fun i h1 h2 => (ahead i h1 h2).2) u2
                    refine .inr (.inr (.inl ⟨x1, y1, g1, ?_⟩))
                    cases Ry with
                    | none => cases u3
                    | some y =>
                      obtain ⟨h1, h2⟩ := ky.2 y rfl
                      cases u3
                      rw [Y1, Y2, Z1, Z2, h1, h2]
                      exact ⟨rfl, rfl⟩
                  · have hy := nof y2 u2
                    subst hy
                    cases u3
              · have both : ∀ i, a.toNat ≤ i → i ≤ T.size → Fresh T.toList false N i none ∧ Fresh T.toList false M i none := fun i h1 h2 => by
                  obtain ⟨Rx, Ry, w1, w2, w3⟩ := al i _ (g2 i h1 h2)
                  cases Rx with
                  | none => cases Ry with
                    | none => exact ⟨w1, w2⟩
                    | some y => cases w3
                  | some x => cases Ry <;> cases w3
                refine .inl ⟨?_, ?_, g1⟩
                · rcases r1 with ⟨sx, qx, cx, x1, x2, x3, x4, x5, x6, x7, x8⟩ | ⟨x1, x2⟩
                  · have := x7.one (both sx x4 x5).1; cases this
                  · exact x1
                · rcases r2 with ⟨sx, qx, cx, x1, x2, x3, x4, x5, x6, x7, x8⟩ | ⟨x1, x2⟩
                  · have := x7.one (both sx x4 x5).2; cases this
                  · exact x1
        · exact eit_p2 N v M u T a w hl hm hf hg hp (by simpa using hq)
      · exact eit_p1 N v M u T a w hl hm hf hg (by simpa using hp)
    · exact eit_f2 N v M u T a w hl hm hf (by simpa using hg)
  · exact eit_f1 N v M u T a w hl hm (by simpa using hf)

end Go.Proofs.Ytkidjbfapldmbaa
