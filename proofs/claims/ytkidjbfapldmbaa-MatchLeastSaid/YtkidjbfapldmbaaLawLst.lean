/- MatchLeast. -/
import Derived.Test.YtkidjbfapldmbaaLst
import Derived.Test.YtkidjbfapldmbaaFna
import Derived.Test.YtkidjbfapldmbaaRleast
import Derived.Deep.DeepCutAuto
namespace Go.Proofs.Ytkidjbfapldmbaa
set_option linter.unusedVariables false
set_option linter.unusedSimpArgs false
open Go.RowKit P8

theorem lst_false (N : Nd) (v : Value) (T : ByteArray) (a : Int) (bd : Bool) (w : World) (hl : Lies w N v) (hf : few N = false) :
    Calls Try.prog 12 #[.agg (Nd.row N v), .string T, .int .i64 a, .bool bd] w fun e w' => e = .returned (.bool true) ∧ Keep Nb w w' := by
  have h1 := fun wx => few_any N v wx
  rw [hf] at h1
  have H1 := Lib.hid h1; clear h1 hf
  obtain ⟨A, cap, rfl, _⟩ := Lies_def.1 hl
  simp only [Nd.row]
  go_enter Try.func12, Try.ntmps12
  go_wp2_with fail
  refine (awake12 _).mono ?_
  rintro e w2 ⟨rfl, hk2⟩
  have hb1 : Blk w2 w.heap.size (Nd.row N (.slice A N.l.length cap)) 27 := (Blk.new w _ _).keep hk2 id
  have hk2' : Keep Nb w w2 := Keep.trans (by repeat (first | assumption | exact Keep.refl _ _ | refine Keep.alloc ?_ _ | refine Keep.drew ?_ | refine Keep.setCell ?_ (Or.inl (by simp)) _ | refine Keep.setRow ?_ (Or.inl (by simp)) _)) hk2 (fun _ _ h => h)
  (have o0 := Blk.cell hb1 0 (u := .int .i64 N.h.k) rfl; have o1 := Blk.cell hb1 1 (u := .int .u8 N.h.c) rfl; have o2 := Blk.cell hb1 2 (u := .int .u64 N.h.s0) rfl; have o3 := Blk.cell hb1 3 (u := .int .u64 N.h.s1) rfl; have o4 := Blk.cell hb1 4 (u := .int .u64 N.h.s2) rfl; have o5 := Blk.cell hb1 5 (u := .int .u64 N.h.s3) rfl; have o6 := Blk.cell hb1 6 (u := .int .i64 N.h.n) rfl; have o7 := Blk.cell hb1 7 (u := .int .i64 N.h.mn) rfl; have o8 := Blk.cell hb1 8 (u := .int .i64 N.h.mx) rfl; have o9 := Blk.cell hb1 9 (u := (.slice A N.l.length cap)) rfl)
  go_wp2_with fail
  refine (H1.out _ (Lies_keep hk2' hl)).mono ?_
  rintro e w3 ⟨rfl, hk3⟩
  go_wp2_with fail
  refine (awake12 _).mono ?_
  rintro e w4 ⟨rfl, hk4⟩
  go_wp2_with fail
  go_ret
  exact ⟨rfl, (hk2'.trans hk3 (fun _ _ h => h)).trans hk4 (fun _ _ h => h)⟩

set_option maxRecDepth 100000 in
set_option maxHeartbeats 2000000 in
theorem lst_n1 (N : Nd) (v : Value) (T : ByteArray) (a : Int) (bd : Bool) (w : World) (hl : Lies w N v) (hf : few N = true) (cs : Array Value) (hsz : Hid (cs.size = 22)) (hone : Hid (cs.all (·.oneCell') = true)) (hc0 : Hid (cs[0]? = some (.complex .f64 0 0))) (hv : findV N T a bd = .tuple #[.agg cs, .bool false, .int .i64 1]) :
    Calls Try.prog 12 #[.agg (Nd.row N v), .string T, .int .i64 a, .bool bd] w fun e w' => e = .returned (.bool true) ∧ Keep Nb w w' := by
  have h1 := fun wx => few_any N v wx
  have hcT := (few_count hf).1
  rw [hf] at h1
  have H1 := Lib.hid h1; clear h1 hf
  obtain ⟨A, cap, rfl, _⟩ := Lies_def.1 hl
  have HF := Lib.hid (fun A1 n1 wx hx => find_any N (by omega) A1 n1 T a bd wx hx)
  have zz : (FloatKind.f64.format.order 0 0 == some .eq) = true := by decide +kernel
  simp only [Nd.row]
  go_enter Try.func12, Try.ntmps12
  go_wp2_with fail
  refine (awake12 _).mono ?_
  rintro e w2 ⟨rfl, hk2⟩
  have hb1 : Blk w2 w.heap.size (Nd.row N (.slice A N.l.length cap)) 27 := (Blk.new w _ _).keep hk2 id
  have hk2' : Keep Nb w w2 := Keep.trans (by repeat (first | assumption | exact Keep.refl _ _ | refine Keep.alloc ?_ _ | refine Keep.drew ?_ | refine Keep.setCell ?_ (Or.inl (by simp)) _ | refine Keep.setRow ?_ (Or.inl (by simp)) _)) hk2 (fun _ _ h => h)
  (have o0 := Blk.cell hb1 0 (u := .int .i64 N.h.k) rfl; have o1 := Blk.cell hb1 1 (u := .int .u8 N.h.c) rfl; have o2 := Blk.cell hb1 2 (u := .int .u64 N.h.s0) rfl; have o3 := Blk.cell hb1 3 (u := .int .u64 N.h.s1) rfl; have o4 := Blk.cell hb1 4 (u := .int .u64 N.h.s2) rfl; have o5 := Blk.cell hb1 5 (u := .int .u64 N.h.s3) rfl; have o6 := Blk.cell hb1 6 (u := .int .i64 N.h.n) rfl; have o7 := Blk.cell hb1 7 (u := .int .i64 N.h.mn) rfl; have o8 := Blk.cell hb1 8 (u := .int .i64 N.h.mx) rfl; have o9 := Blk.cell hb1 9 (u := (.slice A N.l.length cap)) rfl)
  go_wp2_with fail
  refine (H1.out _ (Lies_keep hk2' hl)).mono ?_
  rintro e w3 ⟨rfl, hk3⟩
  have hk3' := hk2'.trans hk3 (fun _ _ h => h)
  have hb13 := hb1.keep hk3 id
  clear o0 o1 o2 o3 o4 o5 o6 o7 o8 o9 hb1 hk2 hk2' hk3
  (have o0 := Blk.cell hb13 0 (u := .int .i64 N.h.k) rfl; have o1 := Blk.cell hb13 1 (u := .int .u8 N.h.c) rfl; have o2 := Blk.cell hb13 2 (u := .int .u64 N.h.s0) rfl; have o3 := Blk.cell hb13 3 (u := .int .u64 N.h.s1) rfl; have o4 := Blk.cell hb13 4 (u := .int .u64 N.h.s2) rfl; have o5 := Blk.cell hb13 5 (u := .int .u64 N.h.s3) rfl; have o6 := Blk.cell hb13 6 (u := .int .i64 N.h.n) rfl; have o7 := Blk.cell hb13 7 (u := .int .i64 N.h.mn) rfl; have o8 := Blk.cell hb13 8 (u := .int .i64 N.h.mx) rfl; have o9 := Blk.cell hb13 9 (u := (.slice A N.l.length cap)) rfl)
  go_wp2_with fail
  refine (theirs_any 400 (by omega) N (by omega) _ _ (Lies_keep hk3' hl)).mono ?_
  rintro e w4 ⟨S1, rfl, hB1, hk4⟩
  obtain ⟨A1, n1, rfl, _⟩ := LiesP_def.1 hB1
  have hl4 := LiesP_all hB1
  have hk4' := hk3'.trans hk4 (fun _ _ h => h)
  have hx := hb13.keep hk4 id
  clear o0 o1 o2 o3 o4 o5 o6 o7 o8 o9 hb13 hk4 hk3' H1 hB1
  go_wp2_with fail
  refine (HF.out A1 n1 _ hl4).mono ?_
  rintro e w5 ⟨rfl, hk5⟩
  rw [hv]
  have hy := Lib.hid (hx.keep hk5 id)
  have hK5 := Lib.hid (hk4'.trans hk5 (fun _ _ h => h))
  clear hk4' hk5 hx hl4 HF hv
  have z0 : Blk (w5.alloc (.cells #[.complex .f64 0 0, .complex .f64 0 0, .complex .f64 0 0, .complex .f64 0 0, .complex .f64 0 0, .complex .f64 0 0, .complex .f64 0 0, .complex .f64 0 0, .complex .f64 0 0, .complex .f64 0 0, .complex .f64 0 0, .bool false, .bool false, .bool false, .bool false, .bool false, .bool false, .bool false, .bool false, .bool false, .bool false, .int .i64 0] 49)) w5.heap.size #[.complex .f64 0 0, .complex .f64 0 0, .complex .f64 0 0, .complex .f64 0 0, .complex .f64 0 0, .complex .f64 0 0, .complex .f64 0 0, .complex .f64 0 0, .complex .f64 0 0, .complex .f64 0 0, .complex .f64 0 0, .bool false, .bool false, .bool false, .bool false, .bool false, .bool false, .bool false, .bool false, .bool false, .bool false, .int .i64 0] 49 := Blk.new w5 _ _
  have z1 : Blk ((w5.alloc (.cells #[.complex .f64 0 0, .complex .f64 0 0, .complex .f64 0 0, .complex .f64 0 0, .complex .f64 0 0, .complex .f64 0 0, .complex .f64 0 0, .complex .f64 0 0, .complex .f64 0 0, .complex .f64 0 0, .complex .f64 0 0, .bool false, .bool false, .bool false, .bool false, .bool false, .bool false, .bool false, .bool false, .bool false, .bool false, .int .i64 0] 49)).setRow w5.heap.size cs) w5.heap.size cs 49 := z0.setRow _
  have k1 : Keep Nb w ((w5.alloc (.cells #[.complex .f64 0 0, .complex .f64 0 0, .complex .f64 0 0, .complex .f64 0 0, .complex .f64 0 0, .complex .f64 0 0, .complex .f64 0 0, .complex .f64 0 0, .complex .f64 0 0, .complex .f64 0 0, .complex .f64 0 0, .bool false, .bool false, .bool false, .bool false, .bool false, .bool false, .bool false, .bool false, .bool false, .bool false, .int .i64 0] 49)).setRow w5.heap.size cs) := Keep.setRow (Keep.alloc hK5.out _) (Or.inl hK5.out.size) _
  have y1 : Blk ((w5.alloc (.cells #[.complex .f64 0 0, .complex .f64 0 0, .complex .f64 0 0, .complex .f64 0 0, .complex .f64 0 0, .complex .f64 0 0, .complex .f64 0 0, .complex .f64 0 0, .complex .f64 0 0, .complex .f64 0 0, .complex .f64 0 0, .bool false, .bool false, .bool false, .bool false, .bool false, .bool false, .bool false, .bool false, .bool false, .bool false, .int .i64 0] 49)).setRow w5.heap.size cs) w.heap.size (Nd.row N (.slice A N.l.length cap)) 27 := (hy.out.alloc _).setRowOther (Nat.ne_of_lt hy.out.lt) _
  have HZ0 := Lib.hid z0
  have HZ1 := Lib.hid z1
  have HK1 := Lib.hid k1
  have HY1 := Lib.hid y1
  clear z0 k1 y1
  have c0 := z1.cell 0 hc0.out
  have l1 := z1.lt
  clear z1
  go_wp2_with (refine wpList_store_row rfl 49 (.tmp 9) (.tmp 27) rfl w5.heap.size cs rfl rfl 49 _ HZ0.out (by rw [hsz.out]; exact sizeFo) (by rw [hsz.out]; rfl) hone.out ?_)
  go_ret
  exact ⟨by first | rfl | (rw [zz]; rfl) | (simp only [zz]; rfl), HK1.out⟩

set_option maxRecDepth 100000 in
set_option maxHeartbeats 2000000 in
theorem lst_n12 (N : Nd) (v : Value) (T : ByteArray) (a : Int) (bd : Bool) (w : World) (hl : Lies w N v) (hf : few N = true) (cs : Array Value) (hsz : Hid (cs.size = 22)) (hone : Hid (cs.all (·.oneCell') = true)) (hc0 : Hid (cs[0]? = some (.complex .f64 0 0))) (hv : findV N T a bd = .tuple #[.agg cs, .bool false, .int .i64 12]) :
    Calls Try.prog 12 #[.agg (Nd.row N v), .string T, .int .i64 a, .bool bd] w fun e w' => e = .returned (.bool true) ∧ Keep Nb w w' := by
  have h1 := fun wx => few_any N v wx
  have hcT := (few_count hf).1
  rw [hf] at h1
  have H1 := Lib.hid h1; clear h1 hf
  obtain ⟨A, cap, rfl, _⟩ := Lies_def.1 hl
  have HF := Lib.hid (fun A1 n1 wx hx => find_any N (by omega) A1 n1 T a bd wx hx)
  have zz : (FloatKind.f64.format.order 0 0 == some .eq) = true := by decide +kernel
  simp only [Nd.row]
  go_enter Try.func12, Try.ntmps12
  go_wp2_with fail
  refine (awake12 _).mono ?_
  rintro e w2 ⟨rfl, hk2⟩
  have hb1 : Blk w2 w.heap.size (Nd.row N (.slice A N.l.length cap)) 27 := (Blk.new w _ _).keep hk2 id
  have hk2' : Keep Nb w w2 := Keep.trans (by repeat (first | assumption | exact Keep.refl _ _ | refine Keep.alloc ?_ _ | refine Keep.drew ?_ | refine Keep.setCell ?_ (Or.inl (by simp)) _ | refine Keep.setRow ?_ (Or.inl (by simp)) _)) hk2 (fun _ _ h => h)
  (have o0 := Blk.cell hb1 0 (u := .int .i64 N.h.k) rfl; have o1 := Blk.cell hb1 1 (u := .int .u8 N.h.c) rfl; have o2 := Blk.cell hb1 2 (u := .int .u64 N.h.s0) rfl; have o3 := Blk.cell hb1 3 (u := .int .u64 N.h.s1) rfl; have o4 := Blk.cell hb1 4 (u := .int .u64 N.h.s2) rfl; have o5 := Blk.cell hb1 5 (u := .int .u64 N.h.s3) rfl; have o6 := Blk.cell hb1 6 (u := .int .i64 N.h.n) rfl; have o7 := Blk.cell hb1 7 (u := .int .i64 N.h.mn) rfl; have o8 := Blk.cell hb1 8 (u := .int .i64 N.h.mx) rfl; have o9 := Blk.cell hb1 9 (u := (.slice A N.l.length cap)) rfl)
  go_wp2_with fail
  refine (H1.out _ (Lies_keep hk2' hl)).mono ?_
  rintro e w3 ⟨rfl, hk3⟩
  have hk3' := hk2'.trans hk3 (fun _ _ h => h)
  have hb13 := hb1.keep hk3 id
  clear o0 o1 o2 o3 o4 o5 o6 o7 o8 o9 hb1 hk2 hk2' hk3
  (have o0 := Blk.cell hb13 0 (u := .int .i64 N.h.k) rfl; have o1 := Blk.cell hb13 1 (u := .int .u8 N.h.c) rfl; have o2 := Blk.cell hb13 2 (u := .int .u64 N.h.s0) rfl; have o3 := Blk.cell hb13 3 (u := .int .u64 N.h.s1) rfl; have o4 := Blk.cell hb13 4 (u := .int .u64 N.h.s2) rfl; have o5 := Blk.cell hb13 5 (u := .int .u64 N.h.s3) rfl; have o6 := Blk.cell hb13 6 (u := .int .i64 N.h.n) rfl; have o7 := Blk.cell hb13 7 (u := .int .i64 N.h.mn) rfl; have o8 := Blk.cell hb13 8 (u := .int .i64 N.h.mx) rfl; have o9 := Blk.cell hb13 9 (u := (.slice A N.l.length cap)) rfl)
  go_wp2_with fail
  refine (theirs_any 400 (by omega) N (by omega) _ _ (Lies_keep hk3' hl)).mono ?_
  rintro e w4 ⟨S1, rfl, hB1, hk4⟩
  obtain ⟨A1, n1, rfl, _⟩ := LiesP_def.1 hB1
  have hl4 := LiesP_all hB1
  have hk4' := hk3'.trans hk4 (fun _ _ h => h)
  have hx := hb13.keep hk4 id
  clear o0 o1 o2 o3 o4 o5 o6 o7 o8 o9 hb13 hk4 hk3' H1 hB1
  go_wp2_with fail
  refine (HF.out A1 n1 _ hl4).mono ?_
  rintro e w5 ⟨rfl, hk5⟩
  rw [hv]
  have hy := Lib.hid (hx.keep hk5 id)
  have hK5 := Lib.hid (hk4'.trans hk5 (fun _ _ h => h))
  clear hk4' hk5 hx hl4 HF hv
  have z0 : Blk (w5.alloc (.cells #[.complex .f64 0 0, .complex .f64 0 0, .complex .f64 0 0, .complex .f64 0 0, .complex .f64 0 0, .complex .f64 0 0, .complex .f64 0 0, .complex .f64 0 0, .complex .f64 0 0, .complex .f64 0 0, .complex .f64 0 0, .bool false, .bool false, .bool false, .bool false, .bool false, .bool false, .bool false, .bool false, .bool false, .bool false, .int .i64 0] 49)) w5.heap.size #[.complex .f64 0 0, .complex .f64 0 0, .complex .f64 0 0, .complex .f64 0 0, .complex .f64 0 0, .complex .f64 0 0, .complex .f64 0 0, .complex .f64 0 0, .complex .f64 0 0, .complex .f64 0 0, .complex .f64 0 0, .bool false, .bool false, .bool false, .bool false, .bool false, .bool false, .bool false, .bool false, .bool false, .bool false, .int .i64 0] 49 := Blk.new w5 _ _
  have z1 : Blk ((w5.alloc (.cells #[.complex .f64 0 0, .complex .f64 0 0, .complex .f64 0 0, .complex .f64 0 0, .complex .f64 0 0, .complex .f64 0 0, .complex .f64 0 0, .complex .f64 0 0, .complex .f64 0 0, .complex .f64 0 0, .complex .f64 0 0, .bool false, .bool false, .bool false, .bool false, .bool false, .bool false, .bool false, .bool false, .bool false, .bool false, .int .i64 0] 49)).setRow w5.heap.size cs) w5.heap.size cs 49 := z0.setRow _
  have k1 : Keep Nb w ((w5.alloc (.cells #[.complex .f64 0 0, .complex .f64 0 0, .complex .f64 0 0, .complex .f64 0 0, .complex .f64 0 0, .complex .f64 0 0, .complex .f64 0 0, .complex .f64 0 0, .complex .f64 0 0, .complex .f64 0 0, .complex .f64 0 0, .bool false, .bool false, .bool false, .bool false, .bool false, .bool false, .bool false, .bool false, .bool false, .bool false, .int .i64 0] 49)).setRow w5.heap.size cs) := Keep.setRow (Keep.alloc hK5.out _) (Or.inl hK5.out.size) _
  have y1 : Blk ((w5.alloc (.cells #[.complex .f64 0 0, .complex .f64 0 0, .complex .f64 0 0, .complex .f64 0 0, .complex .f64 0 0, .complex .f64 0 0, .complex .f64 0 0, .complex .f64 0 0, .complex .f64 0 0, .complex .f64 0 0, .complex .f64 0 0, .bool false, .bool false, .bool false, .bool false, .bool false, .bool false, .bool false, .bool false, .bool false, .bool false, .int .i64 0] 49)).setRow w5.heap.size cs) w.heap.size (Nd.row N (.slice A N.l.length cap)) 27 := (hy.out.alloc _).setRowOther (Nat.ne_of_lt hy.out.lt) _
  have HZ0 := Lib.hid z0
  have HZ1 := Lib.hid z1
  have HK1 := Lib.hid k1
  have HY1 := Lib.hid y1
  clear z0 k1 y1
  have c0 := z1.cell 0 hc0.out
  have l1 := z1.lt
  clear z1
  go_wp2_with (refine wpList_store_row rfl 49 (.tmp 9) (.tmp 27) rfl w5.heap.size cs rfl rfl 49 _ HZ0.out (by rw [hsz.out]; exact sizeFo) (by rw [hsz.out]; rfl) hone.out ?_)
  go_ret
  exact ⟨by first | rfl | (rw [zz]; rfl) | (simp only [zz]; rfl), HK1.out⟩

set_option maxRecDepth 100000 in
set_option maxHeartbeats 2000000 in
theorem lst_n0 (N : Nd) (v : Value) (T : ByteArray) (a : Int) (bd : Bool) (w : World) (hl : Lies w N v) (hf : few N = true) (cs : Array Value) (hsz : Hid (cs.size = 22)) (hone : Hid (cs.all (·.oneCell') = true)) (hc0 : Hid (cs[0]? = some (.complex .f64 0 0))) (hv : findV N T a bd = .tuple #[.agg cs, .bool false, .int .i64 0]) :
    Calls Try.prog 12 #[.agg (Nd.row N v), .string T, .int .i64 a, .bool bd] w fun e w' => e = .returned (.bool true) ∧ Keep Nb w w' := by
  have h1 := fun wx => few_any N v wx
  have hcT := (few_count hf).1
  rw [hf] at h1
  have H1 := Lib.hid h1; clear h1 hf
  obtain ⟨A, cap, rfl, _⟩ := Lies_def.1 hl
  have HF := Lib.hid (fun A1 n1 wx hx => find_any N (by omega) A1 n1 T a bd wx hx)
  have zz : (FloatKind.f64.format.order 0 0 == some .eq) = true := by decide +kernel
  simp only [Nd.row]
  go_enter Try.func12, Try.ntmps12
  go_wp2_with fail
  refine (awake12 _).mono ?_
  rintro e w2 ⟨rfl, hk2⟩
  have hb1 : Blk w2 w.heap.size (Nd.row N (.slice A N.l.length cap)) 27 := (Blk.new w _ _).keep hk2 id
  have hk2' : Keep Nb w w2 := Keep.trans (by repeat (first | assumption | exact Keep.refl _ _ | refine Keep.alloc ?_ _ | refine Keep.drew ?_ | refine Keep.setCell ?_ (Or.inl (by simp)) _ | refine Keep.setRow ?_ (Or.inl (by simp)) _)) hk2 (fun _ _ h => h)
  (have o0 := Blk.cell hb1 0 (u := .int .i64 N.h.k) rfl; have o1 := Blk.cell hb1 1 (u := .int .u8 N.h.c) rfl; have o2 := Blk.cell hb1 2 (u := .int .u64 N.h.s0) rfl; have o3 := Blk.cell hb1 3 (u := .int .u64 N.h.s1) rfl; have o4 := Blk.cell hb1 4 (u := .int .u64 N.h.s2) rfl; have o5 := Blk.cell hb1 5 (u := .int .u64 N.h.s3) rfl; have o6 := Blk.cell hb1 6 (u := .int .i64 N.h.n) rfl; have o7 := Blk.cell hb1 7 (u := .int .i64 N.h.mn) rfl; have o8 := Blk.cell hb1 8 (u := .int .i64 N.h.mx) rfl; have o9 := Blk.cell hb1 9 (u := (.slice A N.l.length cap)) rfl)
  go_wp2_with fail
  refine (H1.out _ (Lies_keep hk2' hl)).mono ?_
  rintro e w3 ⟨rfl, hk3⟩
  have hk3' := hk2'.trans hk3 (fun _ _ h => h)
  have hb13 := hb1.keep hk3 id
  clear o0 o1 o2 o3 o4 o5 o6 o7 o8 o9 hb1 hk2 hk2' hk3
  (have o0 := Blk.cell hb13 0 (u := .int .i64 N.h.k) rfl; have o1 := Blk.cell hb13 1 (u := .int .u8 N.h.c) rfl; have o2 := Blk.cell hb13 2 (u := .int .u64 N.h.s0) rfl; have o3 := Blk.cell hb13 3 (u := .int .u64 N.h.s1) rfl; have o4 := Blk.cell hb13 4 (u := .int .u64 N.h.s2) rfl; have o5 := Blk.cell hb13 5 (u := .int .u64 N.h.s3) rfl; have o6 := Blk.cell hb13 6 (u := .int .i64 N.h.n) rfl; have o7 := Blk.cell hb13 7 (u := .int .i64 N.h.mn) rfl; have o8 := Blk.cell hb13 8 (u := .int .i64 N.h.mx) rfl; have o9 := Blk.cell hb13 9 (u := (.slice A N.l.length cap)) rfl)
  go_wp2_with fail
  refine (theirs_any 400 (by omega) N (by omega) _ _ (Lies_keep hk3' hl)).mono ?_
  rintro e w4 ⟨S1, rfl, hB1, hk4⟩
  obtain ⟨A1, n1, rfl, _⟩ := LiesP_def.1 hB1
  have hl4 := LiesP_all hB1
  have hk4' := hk3'.trans hk4 (fun _ _ h => h)
  have hx := hb13.keep hk4 id
  clear o0 o1 o2 o3 o4 o5 o6 o7 o8 o9 hb13 hk4 hk3' H1 hB1
  go_wp2_with fail
  refine (HF.out A1 n1 _ hl4).mono ?_
  rintro e w5 ⟨rfl, hk5⟩
  rw [hv]
  have hy := Lib.hid (hx.keep hk5 id)
  have hK5 := Lib.hid (hk4'.trans hk5 (fun _ _ h => h))
  clear hk4' hk5 hx hl4 HF hv
  have z0 : Blk (w5.alloc (.cells #[.complex .f64 0 0, .complex .f64 0 0, .complex .f64 0 0, .complex .f64 0 0, .complex .f64 0 0, .complex .f64 0 0, .complex .f64 0 0, .complex .f64 0 0, .complex .f64 0 0, .complex .f64 0 0, .complex .f64 0 0, .bool false, .bool false, .bool false, .bool false, .bool false, .bool false, .bool false, .bool false, .bool false, .bool false, .int .i64 0] 49)) w5.heap.size #[.complex .f64 0 0, .complex .f64 0 0, .complex .f64 0 0, .complex .f64 0 0, .complex .f64 0 0, .complex .f64 0 0, .complex .f64 0 0, .complex .f64 0 0, .complex .f64 0 0, .complex .f64 0 0, .complex .f64 0 0, .bool false, .bool false, .bool false, .bool false, .bool false, .bool false, .bool false, .bool false, .bool false, .bool false, .int .i64 0] 49 := Blk.new w5 _ _
  have z1 : Blk ((w5.alloc (.cells #[.complex .f64 0 0, .complex .f64 0 0, .complex .f64 0 0, .complex .f64 0 0, .complex .f64 0 0, .complex .f64 0 0, .complex .f64 0 0, .complex .f64 0 0, .complex .f64 0 0, .complex .f64 0 0, .complex .f64 0 0, .bool false, .bool false, .bool false, .bool false, .bool false, .bool false, .bool false, .bool false, .bool false, .bool false, .int .i64 0] 49)).setRow w5.heap.size cs) w5.heap.size cs 49 := z0.setRow _
  have k1 : Keep Nb w ((w5.alloc (.cells #[.complex .f64 0 0, .complex .f64 0 0, .complex .f64 0 0, .complex .f64 0 0, .complex .f64 0 0, .complex .f64 0 0, .complex .f64 0 0, .complex .f64 0 0, .complex .f64 0 0, .complex .f64 0 0, .complex .f64 0 0, .bool false, .bool false, .bool false, .bool false, .bool false, .bool false, .bool false, .bool false, .bool false, .bool false, .int .i64 0] 49)).setRow w5.heap.size cs) := Keep.setRow (Keep.alloc hK5.out _) (Or.inl hK5.out.size) _
  have y1 : Blk ((w5.alloc (.cells #[.complex .f64 0 0, .complex .f64 0 0, .complex .f64 0 0, .complex .f64 0 0, .complex .f64 0 0, .complex .f64 0 0, .complex .f64 0 0, .complex .f64 0 0, .complex .f64 0 0, .complex .f64 0 0, .complex .f64 0 0, .bool false, .bool false, .bool false, .bool false, .bool false, .bool false, .bool false, .bool false, .bool false, .bool false, .int .i64 0] 49)).setRow w5.heap.size cs) w.heap.size (Nd.row N (.slice A N.l.length cap)) 27 := (hy.out.alloc _).setRowOther (Nat.ne_of_lt hy.out.lt) _
  have HZ0 := Lib.hid z0
  have HZ1 := Lib.hid z1
  have HK1 := Lib.hid k1
  have HY1 := Lib.hid y1
  clear z0 k1 y1
  have c0 := z1.cell 0 hc0.out
  have l1 := z1.lt
  clear z1
  go_wp2_with (refine wpList_store_row rfl 49 (.tmp 9) (.tmp 27) rfl w5.heap.size cs rfl rfl 49 _ HZ0.out (by rw [hsz.out]; exact sizeFo) (by rw [hsz.out]; rfl) hone.out ?_)
  go_ret
  exact ⟨by first | rfl | (rw [zz]; rfl) | (simp only [zz]; rfl), HK1.out⟩

set_option maxRecDepth 100000 in
set_option maxHeartbeats 2000000 in
theorem lst_some (N : Nd) (v : Value) (T : ByteArray) (a : Int) (bd : Bool) (w : World) (hl : Lies w N v) (hf : few N = true) (cs : Array Value) (hsz : Hid (cs.size = 22)) (hone : Hid (cs.all (·.oneCell') = true)) (st q : Nat) (hst : st < 701) (hq : q < 701) (hle : (st : Int) + least N ≤ q) (hc0 : Hid (cs[0]? = some (.complex .f64 (F st) (F q)))) (hv : findV N T a bd = .tuple #[.agg cs, .bool true, .int .i64 0]) :
    Calls Try.prog 12 #[.agg (Nd.row N v), .string T, .int .i64 a, .bool bd] w fun e w' => e = .returned (.bool true) ∧ Keep Nb w w' := by
  have h1 := fun wx => few_any N v wx
  have hcT := (few_count hf).1
  rw [hf] at h1
  have H1 := Lib.hid h1; clear h1 hf
  obtain ⟨A, cap, rfl, _⟩ := Lies_def.1 hl
  have HF := Lib.hid (fun A1 n1 wx hx => find_any N (by omega) A1 n1 T a bd wx hx)
  have HL := Lib.hid (fun wx hx => rleast_any 400 (by omega) N (by omega) (.slice A N.l.length cap) wx hx)
  have v1 := fun wx => F_back (a := st) hst wx
  have v2 := fun wx => F_back (a := q) hq wx
  have sb : IntKind.wrap .i64 ((q : Int) - (st : Int)) = (q : Int) - (st : Int) := by simp [IntKind.wrap, IntKind.bits, IntKind.signed]; omega
  have ge : decide ((q : Int) - (st : Int) ≥ least N) = true := by simp; omega
  have ge2 : decide (least N ≤ (q : Int) - (st : Int)) = true := by simp; omega
  simp only [Nd.row]
  go_enter Try.func12, Try.ntmps12
  go_wp2_with fail
  refine (awake12 _).mono ?_
  rintro e w2 ⟨rfl, hk2⟩
  have hb1 : Blk w2 w.heap.size (Nd.row N (.slice A N.l.length cap)) 27 := (Blk.new w _ _).keep hk2 id
  have hk2' : Keep Nb w w2 := Keep.trans (by repeat (first | assumption | exact Keep.refl _ _ | refine Keep.alloc ?_ _ | refine Keep.drew ?_ | refine Keep.setCell ?_ (Or.inl (by simp)) _ | refine Keep.setRow ?_ (Or.inl (by simp)) _)) hk2 (fun _ _ h => h)
  (have o0 := Blk.cell hb1 0 (u := .int .i64 N.h.k) rfl; have o1 := Blk.cell hb1 1 (u := .int .u8 N.h.c) rfl; have o2 := Blk.cell hb1 2 (u := .int .u64 N.h.s0) rfl; have o3 := Blk.cell hb1 3 (u := .int .u64 N.h.s1) rfl; have o4 := Blk.cell hb1 4 (u := .int .u64 N.h.s2) rfl; have o5 := Blk.cell hb1 5 (u := .int .u64 N.h.s3) rfl; have o6 := Blk.cell hb1 6 (u := .int .i64 N.h.n) rfl; have o7 := Blk.cell hb1 7 (u := .int .i64 N.h.mn) rfl; have o8 := Blk.cell hb1 8 (u := .int .i64 N.h.mx) rfl; have o9 := Blk.cell hb1 9 (u := (.slice A N.l.length cap)) rfl)
  go_wp2_with fail
  refine (H1.out _ (Lies_keep hk2' hl)).mono ?_
  rintro e w3 ⟨rfl, hk3⟩
  have hk3' := hk2'.trans hk3 (fun _ _ h => h)
  have hb13 := hb1.keep hk3 id
  clear o0 o1 o2 o3 o4 o5 o6 o7 o8 o9 hb1 hk2 hk2' hk3
  (have o0 := Blk.cell hb13 0 (u := .int .i64 N.h.k) rfl; have o1 := Blk.cell hb13 1 (u := .int .u8 N.h.c) rfl; have o2 := Blk.cell hb13 2 (u := .int .u64 N.h.s0) rfl; have o3 := Blk.cell hb13 3 (u := .int .u64 N.h.s1) rfl; have o4 := Blk.cell hb13 4 (u := .int .u64 N.h.s2) rfl; have o5 := Blk.cell hb13 5 (u := .int .u64 N.h.s3) rfl; have o6 := Blk.cell hb13 6 (u := .int .i64 N.h.n) rfl; have o7 := Blk.cell hb13 7 (u := .int .i64 N.h.mn) rfl; have o8 := Blk.cell hb13 8 (u := .int .i64 N.h.mx) rfl; have o9 := Blk.cell hb13 9 (u := (.slice A N.l.length cap)) rfl)
  go_wp2_with fail
  refine (theirs_any 400 (by omega) N (by omega) _ _ (Lies_keep hk3' hl)).mono ?_
  rintro e w4 ⟨S1, rfl, hB1, hk4⟩
  obtain ⟨A1, n1, rfl, _⟩ := LiesP_def.1 hB1
  have hl4 := LiesP_all hB1
  have hk4' := hk3'.trans hk4 (fun _ _ h => h)
  have hx := hb13.keep hk4 id
  clear o0 o1 o2 o3 o4 o5 o6 o7 o8 o9 hb13 hk4 hk3' H1 hB1
  go_wp2_with fail
  refine (HF.out A1 n1 _ hl4).mono ?_
  rintro e w5 ⟨rfl, hk5⟩
  rw [hv]
  have hy := Lib.hid (hx.keep hk5 id)
  have hK5 := Lib.hid (hk4'.trans hk5 (fun _ _ h => h))
  clear hk4' hk5 hx hl4 HF hv
  have z0 : Blk (w5.alloc (.cells #[.complex .f64 0 0, .complex .f64 0 0, .complex .f64 0 0, .complex .f64 0 0, .complex .f64 0 0, .complex .f64 0 0, .complex .f64 0 0, .complex .f64 0 0, .complex .f64 0 0, .complex .f64 0 0, .complex .f64 0 0, .bool false, .bool false, .bool false, .bool false, .bool false, .bool false, .bool false, .bool false, .bool false, .bool false, .int .i64 0] 49)) w5.heap.size #[.complex .f64 0 0, .complex .f64 0 0, .complex .f64 0 0, .complex .f64 0 0, .complex .f64 0 0, .complex .f64 0 0, .complex .f64 0 0, .complex .f64 0 0, .complex .f64 0 0, .complex .f64 0 0, .complex .f64 0 0, .bool false, .bool false, .bool false, .bool false, .bool false, .bool false, .bool false, .bool false, .bool false, .bool false, .int .i64 0] 49 := Blk.new w5 _ _
  have z1 : Blk ((w5.alloc (.cells #[.complex .f64 0 0, .complex .f64 0 0, .complex .f64 0 0, .complex .f64 0 0, .complex .f64 0 0, .complex .f64 0 0, .complex .f64 0 0, .complex .f64 0 0, .complex .f64 0 0, .complex .f64 0 0, .complex .f64 0 0, .bool false, .bool false, .bool false, .bool false, .bool false, .bool false, .bool false, .bool false, .bool false, .bool false, .int .i64 0] 49)).setRow w5.heap.size cs) w5.heap.size cs 49 := z0.setRow _
  have k1 : Keep Nb w ((w5.alloc (.cells #[.complex .f64 0 0, .complex .f64 0 0, .complex .f64 0 0, .complex .f64 0 0, .complex .f64 0 0, .complex .f64 0 0, .complex .f64 0 0, .complex .f64 0 0, .complex .f64 0 0, .complex .f64 0 0, .complex .f64 0 0, .bool false, .bool false, .bool false, .bool false, .bool false, .bool false, .bool false, .bool false, .bool false, .bool false, .int .i64 0] 49)).setRow w5.heap.size cs) := Keep.setRow (Keep.alloc hK5.out _) (Or.inl hK5.out.size) _
  have y1 : Blk ((w5.alloc (.cells #[.complex .f64 0 0, .complex .f64 0 0, .complex .f64 0 0, .complex .f64 0 0, .complex .f64 0 0, .complex .f64 0 0, .complex .f64 0 0, .complex .f64 0 0, .complex .f64 0 0, .complex .f64 0 0, .complex .f64 0 0, .bool false, .bool false, .bool false, .bool false, .bool false, .bool false, .bool false, .bool false, .bool false, .bool false, .int .i64 0] 49)).setRow w5.heap.size cs) w.heap.size (Nd.row N (.slice A N.l.length cap)) 27 := (hy.out.alloc _).setRowOther (Nat.ne_of_lt hy.out.lt) _
  have HZ0 := Lib.hid z0
  have HZ1 := Lib.hid z1
  have HK1 := Lib.hid k1
  have HY1 := Lib.hid y1
  clear z0 k1 y1
  have c0 := z1.cell 0 hc0.out
  have l1 := z1.lt
  clear z1
  go_wp2_with (refine wpList_store_row rfl 49 (.tmp 9) (.tmp 27) rfl w5.heap.size cs rfl rfl 49 _ HZ0.out (by rw [hsz.out]; exact sizeFo) (by rw [hsz.out]; rfl) hone.out ?_)
  generalize (w5.alloc (.cells #[.complex .f64 0 0, .complex .f64 0 0, .complex .f64 0 0, .complex .f64 0 0, .complex .f64 0 0, .complex .f64 0 0, .complex .f64 0 0, .complex .f64 0 0, .complex .f64 0 0, .complex .f64 0 0, .complex .f64 0 0, .bool false, .bool false, .bool false, .bool false, .bool false, .bool false, .bool false, .bool false, .bool false, .bool false, .int .i64 0] 49)).setRow w5.heap.size cs = w6 at HZ1 HK1 HY1 c0 l1 ⊢
  have ly := HY1.out.lt
  have hlN : Lies w6 N (.slice A N.l.length cap) := Lies_keep HK1.out hl
  have hy6 := HY1.out
  (have o0 := Blk.cell hy6 0 (u := .int .i64 N.h.k) rfl; have o1 := Blk.cell hy6 1 (u := .int .u8 N.h.c) rfl; have o2 := Blk.cell hy6 2 (u := .int .u64 N.h.s0) rfl; have o3 := Blk.cell hy6 3 (u := .int .u64 N.h.s1) rfl; have o4 := Blk.cell hy6 4 (u := .int .u64 N.h.s2) rfl; have o5 := Blk.cell hy6 5 (u := .int .u64 N.h.s3) rfl; have o6 := Blk.cell hy6 6 (u := .int .i64 N.h.n) rfl; have o7 := Blk.cell hy6 7 (u := .int .i64 N.h.mn) rfl; have o8 := Blk.cell hy6 8 (u := .int .i64 N.h.mx) rfl; have o9 := Blk.cell hy6 9 (u := (.slice A N.l.length cap)) rfl)
  (refine wp_region_f [12] (InX Nb _) (by kernel_rfl) (InX.mk (Keep.drew (Keep.refl _ _))) (fun hI => ?_))
  have xx : ∀ k, ¬ Nb k := fun _ h => h
  have hK0 : Keep Nb w6 w6.drew := (Keep.refl _ _).drew
  generalize w6.drew = x0 at hK0 hI ⊢
  (refine wpF_take (v := ?_) 0 rfl (by kernel_rfl) (by kernel_rfl) (by kernel_rfl) (by kernel_rfl) (fun _ _ _ h => h) (by assumption) rfl ?_ ?_; rotate_left; (focus (rintro _ ⟨E, rfl⟩; go_simp; (try with_reducible rfl))); simp only [Act.put, List.getElem_toArray, List.getElem_cons_succ, List.getElem_cons_zero, List.setIfInBounds_toArray, List.set_cons_zero, List.set_cons_succ])
  (refine wpF_take (v := ?_) 1 rfl (by kernel_rfl) (by kernel_rfl) (by kernel_rfl) (by kernel_rfl) (fun _ _ _ h => h) (by assumption) rfl ?_ ?_; rotate_left; (focus (rintro _ ⟨E, rfl⟩; go_simp; (try with_reducible rfl))); simp only [Act.put, List.getElem_toArray, List.getElem_cons_succ, List.getElem_cons_zero, List.setIfInBounds_toArray, List.set_cons_zero, List.set_cons_succ])
  (refine wpF_take (v := ?_) 2 rfl (by kernel_rfl) (by kernel_rfl) (by kernel_rfl) (by kernel_rfl) (fun _ _ _ h => h) (by assumption) rfl ?_ ?_; rotate_left; (focus (rintro _ ⟨E, rfl⟩; go_simp; (try with_reducible rfl))); simp only [Act.put, List.getElem_toArray, List.getElem_cons_succ, List.getElem_cons_zero, List.setIfInBounds_toArray, List.set_cons_zero, List.set_cons_succ])
  (refine wpF_take (v := ?_) 3 rfl (by kernel_rfl) (by kernel_rfl) (by kernel_rfl) (by kernel_rfl) (fun _ _ _ h => h) (by assumption) rfl ?_ ?_; rotate_left; (focus (rintro _ ⟨E, rfl⟩; go_simp; (try with_reducible rfl))); simp only [Act.put, List.getElem_toArray, List.getElem_cons_succ, List.getElem_cons_zero, List.setIfInBounds_toArray, List.set_cons_zero, List.set_cons_succ])
  (refine wpF_take (v := ?_) 4 rfl (by kernel_rfl) (by kernel_rfl) (by kernel_rfl) (by kernel_rfl) (fun _ _ _ h => h) (by assumption) rfl ?_ ?_; rotate_left; (focus (rintro _ ⟨E, rfl⟩; go_simp; (try with_reducible rfl))); simp only [Act.put, List.getElem_toArray, List.getElem_cons_succ, List.getElem_cons_zero, List.setIfInBounds_toArray, List.set_cons_zero, List.set_cons_succ])
  (refine wpF_take (v := ?_) 5 rfl (by kernel_rfl) (by kernel_rfl) (by kernel_rfl) (by kernel_rfl) (fun _ _ _ h => h) (by assumption) rfl ?_ ?_; rotate_left; (focus (rintro _ ⟨E, rfl⟩; go_simp; (try with_reducible rfl))); simp only [Act.put, List.getElem_toArray, List.getElem_cons_succ, List.getElem_cons_zero, List.setIfInBounds_toArray, List.set_cons_zero, List.set_cons_succ])
  (refine wpF_take (v := ?_) 6 rfl (by kernel_rfl) (by kernel_rfl) (by kernel_rfl) (by kernel_rfl) (fun _ _ _ h => h) (by assumption) rfl ?_ ?_; rotate_left; (focus (rintro _ ⟨E, rfl⟩; go_simp; (try with_reducible rfl))); simp only [Act.put, List.getElem_toArray, List.getElem_cons_succ, List.getElem_cons_zero, List.setIfInBounds_toArray, List.set_cons_zero, List.set_cons_succ])
  (refine wpF_take (v := ?_) 7 rfl (by kernel_rfl) (by kernel_rfl) (by kernel_rfl) (by kernel_rfl) (fun _ _ _ h => h) (by assumption) rfl ?_ ?_; rotate_left; (focus (rintro _ ⟨E, rfl⟩; go_simp; (try with_reducible rfl))); simp only [Act.put, List.getElem_toArray, List.getElem_cons_succ, List.getElem_cons_zero, List.setIfInBounds_toArray, List.set_cons_zero, List.set_cons_succ])
  (refine wpF_take (v := ?_) 8 rfl (by kernel_rfl) (by kernel_rfl) (by kernel_rfl) (by kernel_rfl) (fun _ _ _ h => h) (by assumption) rfl ?_ ?_; rotate_left; (focus (rintro _ ⟨E, rfl⟩; go_simp; (try with_reducible rfl))); simp only [Act.put, List.getElem_toArray, List.getElem_cons_succ, List.getElem_cons_zero, List.setIfInBounds_toArray, List.set_cons_zero, List.set_cons_succ])
  (refine wpF_take (v := ?_) 9 rfl (by kernel_rfl) (by kernel_rfl) (by kernel_rfl) (by kernel_rfl) (fun _ _ _ h => h) (by assumption) rfl ?_ ?_; rotate_left; (focus (rintro _ ⟨E, rfl⟩; go_simp; (try with_reducible rfl))); simp only [Act.put, List.getElem_toArray, List.getElem_cons_succ, List.getElem_cons_zero, List.setIfInBounds_toArray, List.set_cons_zero, List.set_cons_succ])
  (refine wpF_one 10 rfl (by kernel_rfl) rfl (fun K hK => ?_))
  go_simp
  refine (HL.out _ (Lies_keep hK0 hlN)).mono ?_
  rintro e x1 ⟨he, hkn⟩
  subst he
  replace hK0 := Keep.trans hK0 hkn (fun _ _ h => h)
  clear hkn
  (refine hK _ _ (fun _ => InX.mk hK0) (fun hI => ?_); have hI := hI (by simp); clear hK K; try simp only [Act.put, List.getElem_toArray, List.getElem_cons_succ, List.getElem_cons_zero, List.setIfInBounds_toArray, List.set_cons_zero, List.set_cons_succ])
  (refine wpF_take (v := ?_) 11 rfl (by kernel_rfl) (by kernel_rfl) (by kernel_rfl) (by kernel_rfl) (fun _ _ _ h => h) (by assumption) rfl ?_ ?_; rotate_left; (focus (rintro _ ⟨E, rfl⟩; go_simp; (try with_reducible rfl))); simp only [Act.put, List.getElem_toArray, List.getElem_cons_succ, List.getElem_cons_zero, List.setIfInBounds_toArray, List.set_cons_zero, List.set_cons_succ])
  (refine wpF_one 12 rfl (by kernel_rfl) rfl (fun K hK => ?_))
  go_simp
  (refine hK _ _ (fun h => absurd (by simp) h) (fun _ => ?_); clear hK K; try simp only [Act.put, List.getElem_toArray, List.getElem_cons_succ, List.getElem_cons_zero, List.setIfInBounds_toArray, List.set_cons_zero, List.set_cons_succ])
  (refine wpF_done (by kernel_rfl) ?_ _)
  go_wp2_with fail
  go_ret
  exact ⟨by first | rfl | (rw [ge]; rfl) | (simp only [ge2]; rfl), HK1.out.trans hK0 (fun _ _ h => h)⟩

theorem zero_all : zeroFnd.all (·.oneCell') = true := by decide +kernel
theorem lst_any (N : Nd) (v : Value) (T : ByteArray) (a : Int) (bd : Bool) (w : World) (hl : Lies w N v) :
    Calls Try.prog 12 #[.agg (Nd.row N v), .string T, .int .i64 a, .bool bd] w fun e w' => e = .returned (.bool true) ∧ Keep Nb w w' := by
  by_cases hf : few N = true
  · by_cases h : formedT N = true ∧ T.size ≤ 600 ∧ 0 ≤ a ∧ a ≤ T.size
    · have hv : findV N T a bd = findW (found T.toList bd N (formed_ok h.1) a.toNat) := by rw [findV, dif_pos h]
      obtain ⟨k, hk⟩ := found_spec T.toList bd N (formed_ok h.1) a.toNat
      have lo := find_low T.toList bd N (formed_ok h.1) k _ _ _ _ hk rfl (Nat.zero_le _) (by rw [toList_len]; omega)
      generalize found T.toList bd N (formed_ok h.1) a.toNat = S at hv lo
      by_cases ho : S.over = true
      · rw [findW, if_pos ho] at hv
        exact lst_n12 N v T a bd w hl hf _ (Lib.hid rfl) (Lib.hid zero_all) (Lib.hid rfl) hv
      · rw [findW, if_neg ho] at hv
        cases hb : S.best with
        | none =>
          rw [hb] at hv
          exact lst_n0 N v T a bd w hl hf _ (Lib.hid rfl) (Lib.hid (fnd_all S)) (Lib.hid (by simp [fndL, bestC, hb, grpV])) hv
        | some o =>
          obtain ⟨q, c⟩ := o
          rw [hb] at hv
          obtain ⟨st, r1, r2, r3, _⟩ := lo q c hb
          have hn := (least_range N).1
          rw [toList_len] at r3
          exact lst_some N v T a bd w hl hf _ (Lib.hid rfl) (Lib.hid (fnd_all S)) st q (by omega) (by omega) r2 (Lib.hid (by simp [fndL, bestC, hb, r1, grpV])) hv
    · have hv : findV N T a bd = noneV := by rw [findV, dif_neg h]
      exact lst_n1 N v T a bd w hl hf _ (Lib.hid rfl) (Lib.hid zero_all) (Lib.hid rfl) hv
  · exact lst_false N v T a bd w hl (by simpa using hf)

end Go.Proofs.Ytkidjbfapldmbaa
