/- MatchWithin, where nothing is found. -/
import Derived.Test.YtkidjbfapldmbaaWit
import Derived.Test.YtkidjbfapldmbaaFna
import Derived.Deep.DeepCutAuto
namespace Go.Proofs.Ytkidjbfapldmbaa
set_option linter.unusedVariables false
set_option linter.unusedSimpArgs false
open Go.RowKit P8

set_option maxRecDepth 100000 in
set_option maxHeartbeats 1000000 in
theorem wit_false (N : Nd) (v : Value) (T : ByteArray) (a : Int) (w : World) (hl : Lies w N v) (hf : few N = false) :
    Calls Try.prog 9 #[.agg (Nd.row N v), .string T, .int .i64 a] w fun e w' => e = .returned (.bool true) ∧ Keep Nb w w' := by
  have h1 := fun wx => few_any N v wx
  rw [hf] at h1
  have H1 := Lib.hid h1; clear h1 hf
  obtain ⟨A, cap, rfl, _⟩ := Lies_def.1 hl
  simp only [Nd.row]
  go_enter Try.func9, Try.ntmps9
  go_wp2_with fail
  refine (awake12 _).mono ?_
  rintro e w2 ⟨rfl, hk2⟩
  have hb1 : Blk w2 w.heap.size (Nd.row N (.slice A N.l.length cap)) 27 := (Blk.new w _ _).keep hk2 id
  have hk2' : Keep Nb w w2 := Keep.trans (by repeat (first | assumption | exact Keep.refl _ _ | refine Keep.alloc ?_ _ | refine Keep.drew ?_ | refine Keep.setCell ?_ (Or.inl (by simp)) _ | refine Keep.setRow ?_ (Or.inl (by simp)) _)) hk2 (fun _ _ h => h)
  (have o0 := Blk.cell hb1 0 (u := .int .i64 N.h.k) rfl; have o1 := Blk.cell hb1 1 (u := .int .u8 N.h.c) rfl; have o2 := Blk.cell hb1 2 (u := .int .u64 N.h.s0) rfl; have o3 := Blk.cell hb1 3 (u := .int .u64 N.h.s1) rfl; have o4 := Blk.cell hb1 4 (u := .int .u64 N.h.s2) rfl; have o5 := Blk.cell hb1 5 (u := .int .u64 N.h.s3) rfl; have o6 := Blk.cell hb1 6 (u := .int .i64 N.h.n) rfl; have o7 := Blk.cell hb1 7 (u := .int .i64 N.h.mn) rfl; have o8 := Blk.cell hb1 8 (u := .int .i64 N.h.mx) rfl; have o9 := Blk.cell hb1 9 (u := (.slice A N.l.length cap)) rfl)
  go_wp2_with fail
  refine (H1.out _ (Lies_keep hk2' hl)).mono ?_
  rintro e w3 ⟨rfl, hk3⟩
  go_wp2_with fail
  refine (awake12 _).mono ?_
  rintro e w4 ⟨rfl, hk4⟩
  go_wp2_with fail
  go_ret
  exact ⟨rfl, (hk2'.trans hk3 (fun _ _ h => h)).trans hk4 (fun _ _ h => h)⟩

set_option maxRecDepth 100000 in
set_option maxHeartbeats 1000000 in
theorem wit_long (N : Nd) (v : Value) (T : ByteArray) (a : Int) (w : World) (hl : Lies w N v) (hf : few N = true) (h6 : 600 < T.size) :
    Calls Try.prog 9 #[.agg (Nd.row N v), .string T, .int .i64 a] w fun e w' => e = .returned (.bool true) ∧ Keep Nb w w' := by
  have h1 := fun wx => few_any N v wx
  rw [hf] at h1
  have H1 := Lib.hid h1; clear h1 hf
  have m1 : decide (600 < (T.size : Int)) = true := by simp; omega
  have m2 : decide (600 < T.size) = true := by simp; omega
  clear h6
  obtain ⟨A, cap, rfl, _⟩ := Lies_def.1 hl
  simp only [Nd.row]
  go_enter Try.func9, Try.ntmps9
  go_wp2_with fail
  refine (awake12 _).mono ?_
  rintro e w2 ⟨rfl, hk2⟩
  have hb1 : Blk w2 w.heap.size (Nd.row N (.slice A N.l.length cap)) 27 := (Blk.new w _ _).keep hk2 id
  have hk2' : Keep Nb w w2 := Keep.trans (by repeat (first | assumption | exact Keep.refl _ _ | refine Keep.alloc ?_ _ | refine Keep.drew ?_ | refine Keep.setCell ?_ (Or.inl (by simp)) _ | refine Keep.setRow ?_ (Or.inl (by simp)) _)) hk2 (fun _ _ h => h)
  (have o0 := Blk.cell hb1 0 (u := .int .i64 N.h.k) rfl; have o1 := Blk.cell hb1 1 (u := .int .u8 N.h.c) rfl; have o2 := Blk.cell hb1 2 (u := .int .u64 N.h.s0) rfl; have o3 := Blk.cell hb1 3 (u := .int .u64 N.h.s1) rfl; have o4 := Blk.cell hb1 4 (u := .int .u64 N.h.s2) rfl; have o5 := Blk.cell hb1 5 (u := .int .u64 N.h.s3) rfl; have o6 := Blk.cell hb1 6 (u := .int .i64 N.h.n) rfl; have o7 := Blk.cell hb1 7 (u := .int .i64 N.h.mn) rfl; have o8 := Blk.cell hb1 8 (u := .int .i64 N.h.mx) rfl; have o9 := Blk.cell hb1 9 (u := (.slice A N.l.length cap)) rfl)
  go_wp2_with fail
  refine (H1.out _ (Lies_keep hk2' hl)).mono ?_
  rintro e w3 ⟨rfl, hk3⟩
  go_wp2_with fail
  refine (awake12 _).mono ?_
  rintro e w4 ⟨rfl, hk4⟩
  go_wp2_with fail
  go_ret
  exact ⟨rfl, (hk2'.trans hk3 (fun _ _ h => h)).trans hk4 (fun _ _ h => h)⟩

set_option maxRecDepth 100000 in
set_option maxHeartbeats 2000000 in
theorem wit_n1 (N : Nd) (v : Value) (T : ByteArray) (a : Int) (w : World) (hl : Lies w N v) (hf : few N = true) (h6 : T.size ≤ 600) (cs : Array Value) (hsz : Hid (cs.size = 22)) (hone : Hid (cs.all (·.oneCell') = true)) (hc0 : Hid (cs[0]? = some (.complex .f64 0 0))) (hv : findV N T a false = .tuple #[.agg cs, .bool false, .int .i64 1]) :
    Calls Try.prog 9 #[.agg (Nd.row N v), .string T, .int .i64 a] w fun e w' => e = .returned (.bool true) ∧ Keep Nb w w' := by
  have h1 := fun wx => few_any N v wx
  have hcT := (few_count hf).1
  rw [hf] at h1
  have H1 := Lib.hid h1; clear h1 hf
  have m1 : decide (600 < (T.size : Int)) = false := by simp; omega
  have m2 : decide (600 < T.size) = false := by simp; omega
  obtain ⟨A, cap, rfl, _⟩ := Lies_def.1 hl
  have HF := Lib.hid (fun A1 n1 wx hx => find_any N (by omega) A1 n1 T a false wx hx)
  have zz : (FloatKind.f64.format.order 0 0 == some .eq) = true := by decide +kernel
  simp only [Nd.row]
  go_enter Try.func9, Try.ntmps9
  go_wp2_with fail
  refine (awake12 _).mono ?_
  rintro e w2 ⟨rfl, hk2⟩
  have hb1 : Blk w2 w.heap.size (Nd.row N (.slice A N.l.length cap)) 27 := (Blk.new w _ _).keep hk2 id
  have hk2' : Keep Nb w w2 := Keep.trans (by repeat (first | assumption | exact Keep.refl _ _ | refine Keep.alloc ?_ _ | refine Keep.drew ?_ | refine Keep.setCell ?_ (Or.inl (by simp)) _ | refine Keep.setRow ?_ (Or.inl (by simp)) _)) hk2 (fun _ _ h => h)
  (have o0 := Blk.cell hb1 0 (u := .int .i64 N.h.k) rfl; have o1 := Blk.cell hb1 1 (u := .int .u8 N.h.c) rfl; have o2 := Blk.cell hb1 2 (u := .int .u64 N.h.s0) rfl; have o3 := Blk.cell hb1 3 (u := .int .u64 N.h.s1) rfl; have o4 := Blk.cell hb1 4 (u := .int .u64 N.h.s2) rfl; have o5 := Blk.cell hb1 5 (u := .int .u64 N.h.s3) rfl; have o6 := Blk.cell hb1 6 (u := .int .i64 N.h.n) rfl; have o7 := Blk.cell hb1 7 (u := .int .i64 N.h.mn) rfl; have o8 := Blk.cell hb1 8 (u := .int .i64 N.h.mx) rfl; have o9 := Blk.cell hb1 9 (u := (.slice A N.l.length cap)) rfl)
  go_wp2_with fail
  refine (H1.out _ (Lies_keep hk2' hl)).mono ?_
  rintro e w3 ⟨rfl, hk3⟩
  have hk3' := hk2'.trans hk3 (fun _ _ h => h)
  have hb13 := hb1.keep hk3 id
  clear o0 o1 o2 o3 o4 o5 o6 o7 o8 o9 hb1 hk2 hk2' hk3
  (have o0 := Blk.cell hb13 0 (u := .int .i64 N.h.k) rfl; have o1 := Blk.cell hb13 1 (u := .int .u8 N.h.c) rfl; have o2 := Blk.cell hb13 2 (u := .int .u64 N.h.s0) rfl; have o3 := Blk.cell hb13 3 (u := .int .u64 N.h.s1) rfl; have o4 := Blk.cell hb13 4 (u := .int .u64 N.h.s2) rfl; have o5 := Blk.cell hb13 5 (u := .int .u64 N.h.s3) rfl; have o6 := Blk.cell hb13 6 (u := .int .i64 N.h.n) rfl; have o7 := Blk.cell hb13 7 (u := .int .i64 N.h.mn) rfl; have o8 := Blk.cell hb13 8 (u := .int .i64 N.h.mx) rfl; have o9 := Blk.cell hb13 9 (u := (.slice A N.l.length cap)) rfl)
  go_wp2_with fail
  refine (theirs_any 400 (by omega) N (by omega) _ _ (Lies_keep hk3' hl)).mono ?_
  rintro e w4 ⟨S1, rfl, hB1, hk4⟩
  obtain ⟨A1, n1, rfl, _⟩ := LiesP_def.1 hB1
  have hl4 := LiesP_all hB1
  have hk4' := hk3'.trans hk4 (fun _ _ h => h)
  clear o0 o1 o2 o3 o4 o5 o6 o7 o8 o9 hb13 hk4 hk3' H1 hB1
  simp only [Nd.row]
  go_wp2_with fail
  have ku : Keep Nb w4 (w4.alloc (.cells #[.int .i64 N.h.k, .int .u8 N.h.c, .int .u64 N.h.s0, .int .u64 N.h.s1, .int .u64 N.h.s2, .int .u64 N.h.s3, .int .i64 N.h.n, .int .i64 N.h.mn, .int .i64 N.h.mx, .slice A1 N.l.length n1] 33)) := Keep.alloc (Keep.refl _ _) _
  have hu : Blk (w4.alloc (.cells #[.int .i64 N.h.k, .int .u8 N.h.c, .int .u64 N.h.s0, .int .u64 N.h.s1, .int .u64 N.h.s2, .int .u64 N.h.s3, .int .i64 N.h.n, .int .i64 N.h.mn, .int .i64 N.h.mx, .slice A1 N.l.length n1] 33)) w4.heap.size (Nd.row N (.slice A1 N.l.length n1)) 33 := Blk.new w4 _ _
  generalize w4.alloc (.cells #[.int .i64 N.h.k, .int .u8 N.h.c, .int .u64 N.h.s0, .int .u64 N.h.s1, .int .u64 N.h.s2, .int .u64 N.h.s3, .int .i64 N.h.n, .int .i64 N.h.mn, .int .i64 N.h.mx, .slice A1 N.l.length n1] 33) = wc at ku hu ⊢
  generalize w4.heap.size = pu at hu ⊢
  have kc := Lib.hid (hk4'.trans ku (fun _ _ h => h))
  have hlc := Lies_keep ku hl4
  clear ku hk4' hl4
  (have u0 := Blk.cell hu 0 (u := .int .i64 N.h.k) rfl; have u1 := Blk.cell hu 1 (u := .int .u8 N.h.c) rfl; have u2 := Blk.cell hu 2 (u := .int .u64 N.h.s0) rfl; have u3 := Blk.cell hu 3 (u := .int .u64 N.h.s1) rfl; have u4 := Blk.cell hu 4 (u := .int .u64 N.h.s2) rfl; have u5 := Blk.cell hu 5 (u := .int .u64 N.h.s3) rfl; have u6 := Blk.cell hu 6 (u := .int .i64 N.h.n) rfl; have u7 := Blk.cell hu 7 (u := .int .i64 N.h.mn) rfl; have u8 := Blk.cell hu 8 (u := .int .i64 N.h.mx) rfl; have u9 := Blk.cell hu 9 (u := (.slice A1 N.l.length n1)) rfl)
  go_wp2_with fail
  refine (HF.out A1 n1 _ hlc).mono ?_
  rintro e w5 ⟨rfl, hk5⟩
  rw [hv]
  have HU := Lib.hid (hu.keep hk5 id)
  have hK5 := Lib.hid (kc.out.trans hk5 (fun _ _ h => h))
  have HLC := Lib.hid (Lies_keep hk5 hlc)
  clear u0 u1 u2 u3 u4 u5 u6 u7 u8 u9 kc hk5 hlc hu hv
  have z0 : Blk (w5.alloc (.cells #[.complex .f64 0 0, .complex .f64 0 0, .complex .f64 0 0, .complex .f64 0 0, .complex .f64 0 0, .complex .f64 0 0, .complex .f64 0 0, .complex .f64 0 0, .complex .f64 0 0, .complex .f64 0 0, .complex .f64 0 0, .bool false, .bool false, .bool false, .bool false, .bool false, .bool false, .bool false, .bool false, .bool false, .bool false, .int .i64 0] 49)) w5.heap.size #[.complex .f64 0 0, .complex .f64 0 0, .complex .f64 0 0, .complex .f64 0 0, .complex .f64 0 0, .complex .f64 0 0, .complex .f64 0 0, .complex .f64 0 0, .complex .f64 0 0, .complex .f64 0 0, .complex .f64 0 0, .bool false, .bool false, .bool false, .bool false, .bool false, .bool false, .bool false, .bool false, .bool false, .bool false, .int .i64 0] 49 := Blk.new w5 _ _
  have z1 : Blk ((w5.alloc (.cells #[.complex .f64 0 0, .complex .f64 0 0, .complex .f64 0 0, .complex .f64 0 0, .complex .f64 0 0, .complex .f64 0 0, .complex .f64 0 0, .complex .f64 0 0, .complex .f64 0 0, .complex .f64 0 0, .complex .f64 0 0, .bool false, .bool false, .bool false, .bool false, .bool false, .bool false, .bool false, .bool false, .bool false, .bool false, .int .i64 0] 49)).setRow w5.heap.size cs) w5.heap.size cs 49 := z0.setRow _
  have k1 : Keep Nb w ((w5.alloc (.cells #[.complex .f64 0 0, .complex .f64 0 0, .complex .f64 0 0, .complex .f64 0 0, .complex .f64 0 0, .complex .f64 0 0, .complex .f64 0 0, .complex .f64 0 0, .complex .f64 0 0, .complex .f64 0 0, .complex .f64 0 0, .bool false, .bool false, .bool false, .bool false, .bool false, .bool false, .bool false, .bool false, .bool false, .bool false, .int .i64 0] 49)).setRow w5.heap.size cs) := Keep.setRow (Keep.alloc hK5.out _) (Or.inl hK5.out.size) _
  have HZ0 := Lib.hid z0
  have HZ1 := Lib.hid z1
  have HK1 := Lib.hid k1
  clear z0 k1
  have c0 := z1.cell 0 hc0.out
  have l1 := z1.lt
  clear z1
  go_wp2_with (refine wpList_store_row rfl 49 (.tmp 8) (.tmp 38) rfl w5.heap.size cs rfl rfl 49 _ HZ0.out (by rw [hsz.out]; exact sizeFo) (by rw [hsz.out]; rfl) hone.out ?_)
  go_ret
  exact ⟨by first | rfl | (rw [zz]; rfl) | (simp only [zz]; rfl), HK1.out⟩

set_option maxRecDepth 100000 in
set_option maxHeartbeats 2000000 in
theorem wit_n12 (N : Nd) (v : Value) (T : ByteArray) (a : Int) (w : World) (hl : Lies w N v) (hf : few N = true) (h6 : T.size ≤ 600) (cs : Array Value) (hsz : Hid (cs.size = 22)) (hone : Hid (cs.all (·.oneCell') = true)) (hc0 : Hid (cs[0]? = some (.complex .f64 0 0))) (hv : findV N T a false = .tuple #[.agg cs, .bool false, .int .i64 12]) :
    Calls Try.prog 9 #[.agg (Nd.row N v), .string T, .int .i64 a] w fun e w' => e = .returned (.bool true) ∧ Keep Nb w w' := by
  have h1 := fun wx => few_any N v wx
  have hcT := (few_count hf).1
  rw [hf] at h1
  have H1 := Lib.hid h1; clear h1 hf
  have m1 : decide (600 < (T.size : Int)) = false := by simp; omega
  have m2 : decide (600 < T.size) = false := by simp; omega
  obtain ⟨A, cap, rfl, _⟩ := Lies_def.1 hl
  have HF := Lib.hid (fun A1 n1 wx hx => find_any N (by omega) A1 n1 T a false wx hx)
  have zz : (FloatKind.f64.format.order 0 0 == some .eq) = true := by decide +kernel
  simp only [Nd.row]
  go_enter Try.func9, Try.ntmps9
  go_wp2_with fail
  refine (awake12 _).mono ?_
  rintro e w2 ⟨rfl, hk2⟩
  have hb1 : Blk w2 w.heap.size (Nd.row N (.slice A N.l.length cap)) 27 := (Blk.new w _ _).keep hk2 id
  have hk2' : Keep Nb w w2 := Keep.trans (by repeat (first | assumption | exact Keep.refl _ _ | refine Keep.alloc ?_ _ | refine Keep.drew ?_ | refine Keep.setCell ?_ (Or.inl (by simp)) _ | refine Keep.setRow ?_ (Or.inl (by simp)) _)) hk2 (fun _ _ h => h)
  (have o0 := Blk.cell hb1 0 (u := .int .i64 N.h.k) rfl; have o1 := Blk.cell hb1 1 (u := .int .u8 N.h.c) rfl; have o2 := Blk.cell hb1 2 (u := .int .u64 N.h.s0) rfl; have o3 := Blk.cell hb1 3 (u := .int .u64 N.h.s1) rfl; have o4 := Blk.cell hb1 4 (u := .int .u64 N.h.s2) rfl; have o5 := Blk.cell hb1 5 (u := .int .u64 N.h.s3) rfl; have o6 := Blk.cell hb1 6 (u := .int .i64 N.h.n) rfl; have o7 := Blk.cell hb1 7 (u := .int .i64 N.h.mn) rfl; have o8 := Blk.cell hb1 8 (u := .int .i64 N.h.mx) rfl; have o9 := Blk.cell hb1 9 (u := (.slice A N.l.length cap)) rfl)
  go_wp2_with fail
  refine (H1.out _ (Lies_keep hk2' hl)).mono ?_
  rintro e w3 ⟨rfl, hk3⟩
  have hk3' := hk2'.trans hk3 (fun _ _ h => h)
  have hb13 := hb1.keep hk3 id
  clear o0 o1 o2 o3 o4 o5 o6 o7 o8 o9 hb1 hk2 hk2' hk3
  (have o0 := Blk.cell hb13 0 (u := .int .i64 N.h.k) rfl; have o1 := Blk.cell hb13 1 (u := .int .u8 N.h.c) rfl; have o2 := Blk.cell hb13 2 (u := .int .u64 N.h.s0) rfl; have o3 := Blk.cell hb13 3 (u := .int .u64 N.h.s1) rfl; have o4 := Blk.cell hb13 4 (u := .int .u64 N.h.s2) rfl; have o5 := Blk.cell hb13 5 (u := .int .u64 N.h.s3) rfl; have o6 := Blk.cell hb13 6 (u := .int .i64 N.h.n) rfl; have o7 := Blk.cell hb13 7 (u := .int .i64 N.h.mn) rfl; have o8 := Blk.cell hb13 8 (u := .int .i64 N.h.mx) rfl; have o9 := Blk.cell hb13 9 (u := (.slice A N.l.length cap)) rfl)
  go_wp2_with fail
  refine (theirs_any 400 (by omega) N (by omega) _ _ (Lies_keep hk3' hl)).mono ?_
  rintro e w4 ⟨S1, rfl, hB1, hk4⟩
  obtain ⟨A1, n1, rfl, _⟩ := LiesP_def.1 hB1
  have hl4 := LiesP_all hB1
  have hk4' := hk3'.trans hk4 (fun _ _ h => h)
  clear o0 o1 o2 o3 o4 o5 o6 o7 o8 o9 hb13 hk4 hk3' H1 hB1
  simp only [Nd.row]
  go_wp2_with fail
  have ku : Keep Nb w4 (w4.alloc (.cells #[.int .i64 N.h.k, .int .u8 N.h.c, .int .u64 N.h.s0, .int .u64 N.h.s1, .int .u64 N.h.s2, .int .u64 N.h.s3, .int .i64 N.h.n, .int .i64 N.h.mn, .int .i64 N.h.mx, .slice A1 N.l.length n1] 33)) := Keep.alloc (Keep.refl _ _) _
  have hu : Blk (w4.alloc (.cells #[.int .i64 N.h.k, .int .u8 N.h.c, .int .u64 N.h.s0, .int .u64 N.h.s1, .int .u64 N.h.s2, .int .u64 N.h.s3, .int .i64 N.h.n, .int .i64 N.h.mn, .int .i64 N.h.mx, .slice A1 N.l.length n1] 33)) w4.heap.size (Nd.row N (.slice A1 N.l.length n1)) 33 := Blk.new w4 _ _
  generalize w4.alloc (.cells #[.int .i64 N.h.k, .int .u8 N.h.c, .int .u64 N.h.s0, .int .u64 N.h.s1, .int .u64 N.h.s2, .int .u64 N.h.s3, .int .i64 N.h.n, .int .i64 N.h.mn, .int .i64 N.h.mx, .slice A1 N.l.length n1] 33) = wc at ku hu ⊢
  generalize w4.heap.size = pu at hu ⊢
  have kc := Lib.hid (hk4'.trans ku (fun _ _ h => h))
  have hlc := Lies_keep ku hl4
  clear ku hk4' hl4
  (have u0 := Blk.cell hu 0 (u := .int .i64 N.h.k) rfl; have u1 := Blk.cell hu 1 (u := .int .u8 N.h.c) rfl; have u2 := Blk.cell hu 2 (u := .int .u64 N.h.s0) rfl; have u3 := Blk.cell hu 3 (u := .int .u64 N.h.s1) rfl; have u4 := Blk.cell hu 4 (u := .int .u64 N.h.s2) rfl; have u5 := Blk.cell hu 5 (u := .int .u64 N.h.s3) rfl; have u6 := Blk.cell hu 6 (u := .int .i64 N.h.n) rfl; have u7 := Blk.cell hu 7 (u := .int .i64 N.h.mn) rfl; have u8 := Blk.cell hu 8 (u := .int .i64 N.h.mx) rfl; have u9 := Blk.cell hu 9 (u := (.slice A1 N.l.length n1)) rfl)
  go_wp2_with fail
  refine (HF.out A1 n1 _ hlc).mono ?_
  rintro e w5 ⟨rfl, hk5⟩
  rw [hv]
  have HU := Lib.hid (hu.keep hk5 id)
  have hK5 := Lib.hid (kc.out.trans hk5 (fun _ _ h => h))
  have HLC := Lib.hid (Lies_keep hk5 hlc)
  clear u0 u1 u2 u3 u4 u5 u6 u7 u8 u9 kc hk5 hlc hu hv
  have z0 : Blk (w5.alloc (.cells #[.complex .f64 0 0, .complex .f64 0 0, .complex .f64 0 0, .complex .f64 0 0, .complex .f64 0 0, .complex .f64 0 0, .complex .f64 0 0, .complex .f64 0 0, .complex .f64 0 0, .complex .f64 0 0, .complex .f64 0 0, .bool false, .bool false, .bool false, .bool false, .bool false, .bool false, .bool false, .bool false, .bool false, .bool false, .int .i64 0] 49)) w5.heap.size #[.complex .f64 0 0, .complex .f64 0 0, .complex .f64 0 0, .complex .f64 0 0, .complex .f64 0 0, .complex .f64 0 0, .complex .f64 0 0, .complex .f64 0 0, .complex .f64 0 0, .complex .f64 0 0, .complex .f64 0 0, .bool false, .bool false, .bool false, .bool false, .bool false, .bool false, .bool false, .bool false, .bool false, .bool false, .int .i64 0] 49 := Blk.new w5 _ _
  have z1 : Blk ((w5.alloc (.cells #[.complex .f64 0 0, .complex .f64 0 0, .complex .f64 0 0, .complex .f64 0 0, .complex .f64 0 0, .complex .f64 0 0, .complex .f64 0 0, .complex .f64 0 0, .complex .f64 0 0, .complex .f64 0 0, .complex .f64 0 0, .bool false, .bool false, .bool false, .bool false, .bool false, .bool false, .bool false, .bool false, .bool false, .bool false, .int .i64 0] 49)).setRow w5.heap.size cs) w5.heap.size cs 49 := z0.setRow _
  have k1 : Keep Nb w ((w5.alloc (.cells #[.complex .f64 0 0, .complex .f64 0 0, .complex .f64 0 0, .complex .f64 0 0, .complex .f64 0 0, .complex .f64 0 0, .complex .f64 0 0, .complex .f64 0 0, .complex .f64 0 0, .complex .f64 0 0, .complex .f64 0 0, .bool false, .bool false, .bool false, .bool false, .bool false, .bool false, .bool false, .bool false, .bool false, .bool false, .int .i64 0] 49)).setRow w5.heap.size cs) := Keep.setRow (Keep.alloc hK5.out _) (Or.inl hK5.out.size) _
  have HZ0 := Lib.hid z0
  have HZ1 := Lib.hid z1
  have HK1 := Lib.hid k1
  clear z0 k1
  have c0 := z1.cell 0 hc0.out
  have l1 := z1.lt
  clear z1
  go_wp2_with (refine wpList_store_row rfl 49 (.tmp 8) (.tmp 38) rfl w5.heap.size cs rfl rfl 49 _ HZ0.out (by rw [hsz.out]; exact sizeFo) (by rw [hsz.out]; rfl) hone.out ?_)
  go_ret
  exact ⟨by first | rfl | (rw [zz]; rfl) | (simp only [zz]; rfl), HK1.out⟩

set_option maxRecDepth 100000 in
set_option maxHeartbeats 2000000 in
theorem wit_n0 (N : Nd) (v : Value) (T : ByteArray) (a : Int) (w : World) (hl : Lies w N v) (hf : few N = true) (h6 : T.size ≤ 600) (cs : Array Value) (hsz : Hid (cs.size = 22)) (hone : Hid (cs.all (·.oneCell') = true)) (hc0 : Hid (cs[0]? = some (.complex .f64 0 0))) (hv : findV N T a false = .tuple #[.agg cs, .bool false, .int .i64 0]) :
    Calls Try.prog 9 #[.agg (Nd.row N v), .string T, .int .i64 a] w fun e w' => e = .returned (.bool true) ∧ Keep Nb w w' := by
  have h1 := fun wx => few_any N v wx
  have hcT := (few_count hf).1
  rw [hf] at h1
  have H1 := Lib.hid h1; clear h1 hf
  have m1 : decide (600 < (T.size : Int)) = false := by simp; omega
  have m2 : decide (600 < T.size) = false := by simp; omega
  obtain ⟨A, cap, rfl, _⟩ := Lies_def.1 hl
  have HF := Lib.hid (fun A1 n1 wx hx => find_any N (by omega) A1 n1 T a false wx hx)
  have zz : (FloatKind.f64.format.order 0 0 == some .eq) = true := by decide +kernel
  simp only [Nd.row]
  go_enter Try.func9, Try.ntmps9
  go_wp2_with fail
  refine (awake12 _).mono ?_
  rintro e w2 ⟨rfl, hk2⟩
  have hb1 : Blk w2 w.heap.size (Nd.row N (.slice A N.l.length cap)) 27 := (Blk.new w _ _).keep hk2 id
  have hk2' : Keep Nb w w2 := Keep.trans (by repeat (first | assumption | exact Keep.refl _ _ | refine Keep.alloc ?_ _ | refine Keep.drew ?_ | refine Keep.setCell ?_ (Or.inl (by simp)) _ | refine Keep.setRow ?_ (Or.inl (by simp)) _)) hk2 (fun _ _ h => h)
  (have o0 := Blk.cell hb1 0 (u := .int .i64 N.h.k) rfl; have o1 := Blk.cell hb1 1 (u := .int .u8 N.h.c) rfl; have o2 := Blk.cell hb1 2 (u := .int .u64 N.h.s0) rfl; have o3 := Blk.cell hb1 3 (u := .int .u64 N.h.s1) rfl; have o4 := Blk.cell hb1 4 (u := .int .u64 N.h.s2) rfl; have o5 := Blk.cell hb1 5 (u := .int .u64 N.h.s3) rfl; have o6 := Blk.cell hb1 6 (u := .int .i64 N.h.n) rfl; have o7 := Blk.cell hb1 7 (u := .int .i64 N.h.mn) rfl; have o8 := Blk.cell hb1 8 (u := .int .i64 N.h.mx) rfl; have o9 := Blk.cell hb1 9 (u := (.slice A N.l.length cap)) rfl)
  go_wp2_with fail
  refine (H1.out _ (Lies_keep hk2' hl)).mono ?_
  rintro e w3 ⟨rfl, hk3⟩
  have hk3' := hk2'.trans hk3 (fun _ _ h => h)
  have hb13 := hb1.keep hk3 id
  clear o0 o1 o2 o3 o4 o5 o6 o7 o8 o9 hb1 hk2 hk2' hk3
  (have o0 := Blk.cell hb13 0 (u := .int .i64 N.h.k) rfl; have o1 := Blk.cell hb13 1 (u := .int .u8 N.h.c) rfl; have o2 := Blk.cell hb13 2 (u := .int .u64 N.h.s0) rfl; have o3 := Blk.cell hb13 3 (u := .int .u64 N.h.s1) rfl; have o4 := Blk.cell hb13 4 (u := .int .u64 N.h.s2) rfl; have o5 := Blk.cell hb13 5 (u := .int .u64 N.h.s3) rfl; have o6 := Blk.cell hb13 6 (u := .int .i64 N.h.n) rfl; have o7 := Blk.cell hb13 7 (u := .int .i64 N.h.mn) rfl; have o8 := Blk.cell hb13 8 (u := .int .i64 N.h.mx) rfl; have o9 := Blk.cell hb13 9 (u := (.slice A N.l.length cap)) rfl)
  go_wp2_with fail
  refine (theirs_any 400 (by omega) N (by omega) _ _ (Lies_keep hk3' hl)).mono ?_
  rintro e w4 ⟨S1, rfl, hB1, hk4⟩
  obtain ⟨A1, n1, rfl, _⟩ := LiesP_def.1 hB1
  have hl4 := LiesP_all hB1
  have hk4' := hk3'.trans hk4 (fun _ _ h => h)
  clear o0 o1 o2 o3 o4 o5 o6 o7 o8 o9 hb13 hk4 hk3' H1 hB1
  simp only [Nd.row]
  go_wp2_with fail
  have ku : Keep Nb w4 (w4.alloc (.cells #[.int .i64 N.h.k, .int .u8 N.h.c, .int .u64 N.h.s0, .int .u64 N.h.s1, .int .u64 N.h.s2, .int .u64 N.h.s3, .int .i64 N.h.n, .int .i64 N.h.mn, .int .i64 N.h.mx, .slice A1 N.l.length n1] 33)) := Keep.alloc (Keep.refl _ _) _
  have hu : Blk (w4.alloc (.cells #[.int .i64 N.h.k, .int .u8 N.h.c, .int .u64 N.h.s0, .int .u64 N.h.s1, .int .u64 N.h.s2, .int .u64 N.h.s3, .int .i64 N.h.n, .int .i64 N.h.mn, .int .i64 N.h.mx, .slice A1 N.l.length n1] 33)) w4.heap.size (Nd.row N (.slice A1 N.l.length n1)) 33 := Blk.new w4 _ _
  generalize w4.alloc (.cells #[.int .i64 N.h.k, .int .u8 N.h.c, .int .u64 N.h.s0, .int .u64 N.h.s1, .int .u64 N.h.s2, .int .u64 N.h.s3, .int .i64 N.h.n, .int .i64 N.h.mn, .int .i64 N.h.mx, .slice A1 N.l.length n1] 33) = wc at ku hu ⊢
  generalize w4.heap.size = pu at hu ⊢
  have kc := Lib.hid (hk4'.trans ku (fun _ _ h => h))
  have hlc := Lies_keep ku hl4
  clear ku hk4' hl4
  (have u0 := Blk.cell hu 0 (u := .int .i64 N.h.k) rfl; have u1 := Blk.cell hu 1 (u := .int .u8 N.h.c) rfl; have u2 := Blk.cell hu 2 (u := .int .u64 N.h.s0) rfl; have u3 := Blk.cell hu 3 (u := .int .u64 N.h.s1) rfl; have u4 := Blk.cell hu 4 (u := .int .u64 N.h.s2) rfl; have u5 := Blk.cell hu 5 (u := .int .u64 N.h.s3) rfl; have u6 := Blk.cell hu 6 (u := .int .i64 N.h.n) rfl; have u7 := Blk.cell hu 7 (u := .int .i64 N.h.mn) rfl; have u8 := Blk.cell hu 8 (u := .int .i64 N.h.mx) rfl; have u9 := Blk.cell hu 9 (u := (.slice A1 N.l.length n1)) rfl)
  go_wp2_with fail
  refine (HF.out A1 n1 _ hlc).mono ?_
  rintro e w5 ⟨rfl, hk5⟩
  rw [hv]
  have HU := Lib.hid (hu.keep hk5 id)
  have hK5 := Lib.hid (kc.out.trans hk5 (fun _ _ h => h))
  have HLC := Lib.hid (Lies_keep hk5 hlc)
  clear u0 u1 u2 u3 u4 u5 u6 u7 u8 u9 kc hk5 hlc hu hv
  have z0 : Blk (w5.alloc (.cells #[.complex .f64 0 0, .complex .f64 0 0, .complex .f64 0 0, .complex .f64 0 0, .complex .f64 0 0, .complex .f64 0 0, .complex .f64 0 0, .complex .f64 0 0, .complex .f64 0 0, .complex .f64 0 0, .complex .f64 0 0, .bool false, .bool false, .bool false, .bool false, .bool false, .bool false, .bool false, .bool false, .bool false, .bool false, .int .i64 0] 49)) w5.heap.size #[.complex .f64 0 0, .complex .f64 0 0, .complex .f64 0 0, .complex .f64 0 0, .complex .f64 0 0, .complex .f64 0 0, .complex .f64 0 0, .complex .f64 0 0, .complex .f64 0 0, .complex .f64 0 0, .complex .f64 0 0, .bool false, .bool false, .bool false, .bool false, .bool false, .bool false, .bool false, .bool false, .bool false, .bool false, .int .i64 0] 49 := Blk.new w5 _ _
  have z1 : Blk ((w5.alloc (.cells #[.complex .f64 0 0, .complex .f64 0 0, .complex .f64 0 0, .complex .f64 0 0, .complex .f64 0 0, .complex .f64 0 0, .complex .f64 0 0, .complex .f64 0 0, .complex .f64 0 0, .complex .f64 0 0, .complex .f64 0 0, .bool false, .bool false, .bool false, .bool false, .bool false, .bool false, .bool false, .bool false, .bool false, .bool false, .int .i64 0] 49)).setRow w5.heap.size cs) w5.heap.size cs 49 := z0.setRow _
  have k1 : Keep Nb w ((w5.alloc (.cells #[.complex .f64 0 0, .complex .f64 0 0, .complex .f64 0 0, .complex .f64 0 0, .complex .f64 0 0, .complex .f64 0 0, .complex .f64 0 0, .complex .f64 0 0, .complex .f64 0 0, .complex .f64 0 0, .complex .f64 0 0, .bool false, .bool false, .bool false, .bool false, .bool false, .bool false, .bool false, .bool false, .bool false, .bool false, .int .i64 0] 49)).setRow w5.heap.size cs) := Keep.setRow (Keep.alloc hK5.out _) (Or.inl hK5.out.size) _
  have HZ0 := Lib.hid z0
  have HZ1 := Lib.hid z1
  have HK1 := Lib.hid k1
  clear z0 k1
  have c0 := z1.cell 0 hc0.out
  have l1 := z1.lt
  clear z1
  go_wp2_with (refine wpList_store_row rfl 49 (.tmp 8) (.tmp 38) rfl w5.heap.size cs rfl rfl 49 _ HZ0.out (by rw [hsz.out]; exact sizeFo) (by rw [hsz.out]; rfl) hone.out ?_)
  go_ret
  exact ⟨by first | rfl | (rw [zz]; rfl) | (simp only [zz]; rfl), HK1.out⟩

end Go.Proofs.Ytkidjbfapldmbaa
