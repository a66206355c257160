/- MatchFinds. -/
import Derived.Test.YtkidjbfapldmbaaFeq
import Derived.Test.YtkidjbfapldmbaaQf
import Derived.Deep.DeepCutAuto
namespace Go.Proofs.Ytkidjbfapldmbaa
set_option linter.unusedVariables false
set_option linter.unusedSimpArgs false
open Go.RowKit P8

set_option maxRecDepth 100000 in
set_option maxHeartbeats 1000000 in
theorem ours12_any (s : St) (w : World) : Calls Try.prog 43 #[.agg (fLit s)] w fun e w' => e = .returned (.agg (fLit s)) ∧ Keep Nb w w' := by
  have HOne := Lib.hid (fLit_one s)
  have z0 : Blk ((w.alloc (.cells #[.complex .f64 (reV (bestC s 0)) (imV (bestC s 0)), .complex .f64 (reV (bestC s 0)) (imV (bestC s 0)), .complex .f64 (reV (bestC s 1)) (imV (bestC s 1)), .complex .f64 (reV (bestC s 2)) (imV (bestC s 2)), .complex .f64 (reV (bestC s 3)) (imV (bestC s 3)), .complex .f64 (reV (bestC s 4)) (imV (bestC s 4)), .complex .f64 (reV (bestC s 5)) (imV (bestC s 5)), .complex .f64 (reV (bestC s 6)) (imV (bestC s 6)), .complex .f64 (reV (bestC s 7)) (imV (bestC s 7)), .complex .f64 (reV (bestC s 8)) (imV (bestC s 8)), .complex .f64 (reV (bestC s 9)) (imV (bestC s 9)), .bool (bestC s 0).isSome, .bool (bestC s 1).isSome, .bool (bestC s 2).isSome, .bool (bestC s 3).isSome, .bool (bestC s 4).isSome, .bool (bestC s 5).isSome, .bool (bestC s 6).isSome, .bool (bestC s 7).isSome, .bool (bestC s 8).isSome, .bool (bestC s 9).isSome, .int .i64 (s.tries : Int)] 49)).alloc (.cells #[.complex .f64 0 0, .complex .f64 0 0, .complex .f64 0 0, .complex .f64 0 0, .complex .f64 0 0, .complex .f64 0 0, .complex .f64 0 0, .complex .f64 0 0, .complex .f64 0 0, .complex .f64 0 0, .complex .f64 0 0, .bool false, .bool false, .bool false, .bool false, .bool false, .bool false, .bool false, .bool false, .bool false, .bool false, .int .i64 0] 53)) (w.heap.size + 1) zeroFnd 53 := Blk.new' (by simp) _ _
  have b0 : Blk ((w.alloc (.cells #[.complex .f64 (reV (bestC s 0)) (imV (bestC s 0)), .complex .f64 (reV (bestC s 0)) (imV (bestC s 0)), .complex .f64 (reV (bestC s 1)) (imV (bestC s 1)), .complex .f64 (reV (bestC s 2)) (imV (bestC s 2)), .complex .f64 (reV (bestC s 3)) (imV (bestC s 3)), .complex .f64 (reV (bestC s 4)) (imV (bestC s 4)), .complex .f64 (reV (bestC s 5)) (imV (bestC s 5)), .complex .f64 (reV (bestC s 6)) (imV (bestC s 6)), .complex .f64 (reV (bestC s 7)) (imV (bestC s 7)), .complex .f64 (reV (bestC s 8)) (imV (bestC s 8)), .complex .f64 (reV (bestC s 9)) (imV (bestC s 9)), .bool (bestC s 0).isSome, .bool (bestC s 1).isSome, .bool (bestC s 2).isSome, .bool (bestC s 3).isSome, .bool (bestC s 4).isSome, .bool (bestC s 5).isSome, .bool (bestC s 6).isSome, .bool (bestC s 7).isSome, .bool (bestC s 8).isSome, .bool (bestC s 9).isSome, .int .i64 (s.tries : Int)] 49)).alloc (.cells #[.complex .f64 0 0, .complex .f64 0 0, .complex .f64 0 0, .complex .f64 0 0, .complex .f64 0 0, .complex .f64 0 0, .complex .f64 0 0, .complex .f64 0 0, .complex .f64 0 0, .complex .f64 0 0, .complex .f64 0 0, .bool false, .bool false, .bool false, .bool false, .bool false, .bool false, .bool false, .bool false, .bool false, .bool false, .int .i64 0] 53)) w.heap.size (fLit s) 49 := (Blk.new w _ _).alloc _
  have k0 : Keep Nb w ((w.alloc (.cells #[.complex .f64 (reV (bestC s 0)) (imV (bestC s 0)), .complex .f64 (reV (bestC s 0)) (imV (bestC s 0)), .complex .f64 (reV (bestC s 1)) (imV (bestC s 1)), .complex .f64 (reV (bestC s 2)) (imV (bestC s 2)), .complex .f64 (reV (bestC s 3)) (imV (bestC s 3)), .complex .f64 (reV (bestC s 4)) (imV (bestC s 4)), .complex .f64 (reV (bestC s 5)) (imV (bestC s 5)), .complex .f64 (reV (bestC s 6)) (imV (bestC s 6)), .complex .f64 (reV (bestC s 7)) (imV (bestC s 7)), .complex .f64 (reV (bestC s 8)) (imV (bestC s 8)), .complex .f64 (reV (bestC s 9)) (imV (bestC s 9)), .bool (bestC s 0).isSome, .bool (bestC s 1).isSome, .bool (bestC s 2).isSome, .bool (bestC s 3).isSome, .bool (bestC s 4).isSome, .bool (bestC s 5).isSome, .bool (bestC s 6).isSome, .bool (bestC s 7).isSome, .bool (bestC s 8).isSome, .bool (bestC s 9).isSome, .int .i64 (s.tries : Int)] 49)).alloc (.cells #[.complex .f64 0 0, .complex .f64 0 0, .complex .f64 0 0, .complex .f64 0 0, .complex .f64 0 0, .complex .f64 0 0, .complex .f64 0 0, .complex .f64 0 0, .complex .f64 0 0, .complex .f64 0 0, .complex .f64 0 0, .bool false, .bool false, .bool false, .bool false, .bool false, .bool false, .bool false, .bool false, .bool false, .bool false, .int .i64 0] 53)) := Keep.alloc (Keep.alloc (Keep.refl _ _) _) _
  have Z0 := Lib.hid z0
  have B0 := Lib.hid b0
  have K0 := Lib.hid k0
  clear z0 b0 k0
  simp only [fLit]
  go_enter Try.func43, Try.ntmps43
  go_upto_region 1 with fail
  generalize ((w.alloc (.cells #[.complex .f64 (reV (bestC s 0)) (imV (bestC s 0)), .complex .f64 (reV (bestC s 0)) (imV (bestC s 0)), .complex .f64 (reV (bestC s 1)) (imV (bestC s 1)), .complex .f64 (reV (bestC s 2)) (imV (bestC s 2)), .complex .f64 (reV (bestC s 3)) (imV (bestC s 3)), .complex .f64 (reV (bestC s 4)) (imV (bestC s 4)), .complex .f64 (reV (bestC s 5)) (imV (bestC s 5)), .complex .f64 (reV (bestC s 6)) (imV (bestC s 6)), .complex .f64 (reV (bestC s 7)) (imV (bestC s 7)), .complex .f64 (reV (bestC s 8)) (imV (bestC s 8)), .complex .f64 (reV (bestC s 9)) (imV (bestC s 9)), .bool (bestC s 0).isSome, .bool (bestC s 1).isSome, .bool (bestC s 2).isSome, .bool (bestC s 3).isSome, .bool (bestC s 4).isSome, .bool (bestC s 5).isSome, .bool (bestC s 6).isSome, .bool (bestC s 7).isSome, .bool (bestC s 8).isSome, .bool (bestC s 9).isSome, .int .i64 (s.tries : Int)] 49)).alloc (.cells #[.complex .f64 0 0, .complex .f64 0 0, .complex .f64 0 0, .complex .f64 0 0, .complex .f64 0 0, .complex .f64 0 0, .complex .f64 0 0, .complex .f64 0 0, .complex .f64 0 0, .complex .f64 0 0, .complex .f64 0 0, .bool false, .bool false, .bool false, .bool false, .bool false, .bool false, .bool false, .bool false, .bool false, .bool false, .int .i64 0] 53)) = w1 at Z0 B0 K0 ⊢
  go_wp2_with (first
    | (refine wpList_load_row rfl 49 (.tmp 1) rfl w.heap.size rfl 49 (fLit s) (0, 0) _ B0.out Try.underlying49 rfl (by kernel_rfl) ?_)
    | (refine wpList_store_row rfl 53 (.tmp 2) (.tmp 3) rfl (w.heap.size + 1) (fLit s) rfl rfl 53 _ Z0.out (by kernel_rfl) rfl HOne.out ?_))
  exact bodyPost_ret (results_cell_row Try.results43 _ _ (w.heap.size + 1) 53 (fLit s) (0, 0) _ rfl (Z0.out.setRow _) Try.underlying53 rfl (by kernel_rfl)) rfl ⟨rfl, Keep.setRow K0.out (Or.inl (Nat.le_succ _)) _⟩

theorem fnd_false (N : Nd) (v : Value) (T : ByteArray) (a : Int) (bd : Bool) (w : World) (hl : Lies w N v) (hf : few N = false) :
    Calls Try.prog 7 #[.agg (Nd.row N v), .string T, .int .i64 a, .bool bd] w fun e w' => e = .returned (.bool true) ∧ Keep Nb w w' := by
  have h1 := fun wx => few_any N v wx
  rw [hf] at h1
  have H1 := Lib.hid h1; clear h1 hf
  obtain ⟨A, cap, rfl, _⟩ := Lies_def.1 hl
  simp only [Nd.row]
  go_enter Try.func7, Try.ntmps7
  go_wp2_with fail
  refine (awake12 _).mono ?_
  rintro e w2 ⟨rfl, hk2⟩
  have hb1 : Blk w2 w.heap.size (Nd.row N (.slice A N.l.length cap)) 27 := (Blk.new w _ _).keep hk2 id
  have hk2' : Keep Nb w w2 := Keep.trans (by repeat (first | assumption | exact Keep.refl _ _ | refine Keep.alloc ?_ _ | refine Keep.drew ?_ | refine Keep.setCell ?_ (Or.inl (by simp)) _ | refine Keep.setRow ?_ (Or.inl (by simp)) _)) hk2 (fun _ _ h => h)
  (have o0 := Blk.cell hb1 0 (u := .int .i64 N.h.k) rfl; have o1 := Blk.cell hb1 1 (u := .int .u8 N.h.c) rfl; have o2 := Blk.cell hb1 2 (u := .int .u64 N.h.s0) rfl; have o3 := Blk.cell hb1 3 (u := .int .u64 N.h.s1) rfl; have o4 := Blk.cell hb1 4 (u := .int .u64 N.h.s2) rfl; have o5 := Blk.cell hb1 5 (u := .int .u64 N.h.s3) rfl; have o6 := Blk.cell hb1 6 (u := .int .i64 N.h.n) rfl; have o7 := Blk.cell hb1 7 (u := .int .i64 N.h.mn) rfl; have o8 := Blk.cell hb1 8 (u := .int .i64 N.h.mx) rfl; have o9 := Blk.cell hb1 9 (u := (.slice A N.l.length cap)) rfl)
  have lo := hb1.lt
  go_wp2_with fail
  refine (H1.out _ (Lies_keep hk2' hl)).mono ?_
  rintro e w3 ⟨rfl, hk3⟩
  go_wp2_with fail
  refine (awake12 _).mono ?_
  rintro e w4 ⟨rfl, hk4⟩
  go_wp2_with fail
  go_ret
  exact ⟨rfl, (hk2'.trans hk3 (fun _ _ h => h)).trans hk4 (fun _ _ h => h)⟩

set_option maxRecDepth 100000 in
set_option maxHeartbeats 2000000 in
theorem fnd_true (N : Nd) (v : Value) (T : ByteArray) (a : Int) (bd : Bool) (w : World) (hl : Lies w N v) (hf : few N = true) (s : St) (b : Bool) (err : Int) (hv : findV N T a bd = .tuple #[.agg (fLit s), .bool b, .int .i64 err]) (hc : CapsOk 600 (bestC s)) :
    Calls Try.prog 7 #[.agg (Nd.row N v), .string T, .int .i64 a, .bool bd] w fun e w' => e = .returned (.bool true) ∧ Keep Nb w w' := by
  have h1 := fun wx => few_any N v wx
  have hcT := (few_count hf).1
  rw [hf] at h1
  have H1 := Lib.hid h1; clear h1 hf
  obtain ⟨A, cap, rfl, _⟩ := Lies_def.1 hl
  have hF := fun A1 n1 wx hx => find_any N (by omega) A1 n1 T a bd wx hx
  have hG := fun wx hx => rfind_any N (by omega) A cap T a bd wx hx
  rw [hv] at hF hG
  have HF := Lib.hid hF
  have HG := Lib.hid hG
  have HOne := Lib.hid (fLit_one s)
  have heq := fun w => fLit_self s hc (Nat.le_refl _) w
  have HEQ := Lib.hid heq
  have HO := Lib.hid (fun wx => ours12_any s wx)
  have HTH := Lib.hid (fun wx hx => theirs_any 400 (by omega) N (by omega) (.slice A N.l.length cap) wx hx)
  clear hF hG hv heq hc
  obtain ⟨cs, hcs⟩ : ∃ cs, cs = fLit s := ⟨_, rfl⟩
  rw [← hcs] at HF HG HOne HEQ HO
  have hsz : cs.size = 22 := by rw [hcs]; rfl
  have HSZ := Lib.hid hsz
  clear hcs hsz
  simp only [Nd.row]
  go_enter Try.func7, Try.ntmps7
  go_wp2_with fail
  refine (awake12 _).mono ?_
  rintro e w2 ⟨rfl, hk2⟩
  have hb1 : Blk w2 w.heap.size (Nd.row N (.slice A N.l.length cap)) 27 := (Blk.new w _ _).keep hk2 id
  have hk2' : Keep Nb w w2 := Keep.trans (by repeat (first | assumption | exact Keep.refl _ _ | refine Keep.alloc ?_ _ | refine Keep.drew ?_ | refine Keep.setCell ?_ (Or.inl (by simp)) _ | refine Keep.setRow ?_ (Or.inl (by simp)) _)) hk2 (fun _ _ h => h)
  (have o0 := Blk.cell hb1 0 (u := .int .i64 N.h.k) rfl; have o1 := Blk.cell hb1 1 (u := .int .u8 N.h.c) rfl; have o2 := Blk.cell hb1 2 (u := .int .u64 N.h.s0) rfl; have o3 := Blk.cell hb1 3 (u := .int .u64 N.h.s1) rfl; have o4 := Blk.cell hb1 4 (u := .int .u64 N.h.s2) rfl; have o5 := Blk.cell hb1 5 (u := .int .u64 N.h.s3) rfl; have o6 := Blk.cell hb1 6 (u := .int .i64 N.h.n) rfl; have o7 := Blk.cell hb1 7 (u := .int .i64 N.h.mn) rfl; have o8 := Blk.cell hb1 8 (u := .int .i64 N.h.mx) rfl; have o9 := Blk.cell hb1 9 (u := (.slice A N.l.length cap)) rfl)
  have lo := hb1.lt
  go_wp2_with fail
  refine (H1.out _ (Lies_keep hk2' hl)).mono ?_
  rintro e w3 ⟨rfl, hk3⟩
  have hk3' := hk2'.trans hk3 (fun _ _ h => h)
  have hb13 := hb1.keep hk3 id
  clear o0 o1 o2 o3 o4 o5 o6 o7 o8 o9 lo hb1 hk2 hk2' hk3
  (have o0 := Blk.cell hb13 0 (u := .int .i64 N.h.k) rfl; have o1 := Blk.cell hb13 1 (u := .int .u8 N.h.c) rfl; have o2 := Blk.cell hb13 2 (u := .int .u64 N.h.s0) rfl; have o3 := Blk.cell hb13 3 (u := .int .u64 N.h.s1) rfl; have o4 := Blk.cell hb13 4 (u := .int .u64 N.h.s2) rfl; have o5 := Blk.cell hb13 5 (u := .int .u64 N.h.s3) rfl; have o6 := Blk.cell hb13 6 (u := .int .i64 N.h.n) rfl; have o7 := Blk.cell hb13 7 (u := .int .i64 N.h.mn) rfl; have o8 := Blk.cell hb13 8 (u := .int .i64 N.h.mx) rfl; have o9 := Blk.cell hb13 9 (u := (.slice A N.l.length cap)) rfl)
  have lo := hb13.lt
  go_wp2_with fail
  refine (HTH.out _ (Lies_keep hk3' hl)).mono ?_
  rintro e w4 ⟨S1, rfl, hB1, hk4⟩
  obtain ⟨A1, n1, rfl, _⟩ := LiesP_def.1 hB1
  have hl4 := LiesP_all hB1
  have hk4' := hk3'.trans hk4 (fun _ _ h => h)
  have hb4 := hb13.keep hk4 id
  clear o0 o1 o2 o3 o4 o5 o6 o7 o8 o9 lo hb13 hk4 hk3' H1 hB1
  go_wp2_with fail
  refine (HF.out A1 n1 _ hl4).mono ?_
  rintro e w5 ⟨rfl, hk5⟩
  have hb5 := Lib.hid (hb4.keep hk5 id)
  have hK5 := Lib.hid (hk4'.trans hk5 (fun _ _ h => h))
  clear hb4 hk4' hk5 hl4 HF
  have z0 : Blk (w5.alloc (.cells #[.complex .f64 0 0, .complex .f64 0 0, .complex .f64 0 0, .complex .f64 0 0, .complex .f64 0 0, .complex .f64 0 0, .complex .f64 0 0, .complex .f64 0 0, .complex .f64 0 0, .complex .f64 0 0, .complex .f64 0 0, .bool false, .bool false, .bool false, .bool false, .bool false, .bool false, .bool false, .bool false, .bool false, .bool false, .int .i64 0] 49)) w5.heap.size #[.complex .f64 0 0, .complex .f64 0 0, .complex .f64 0 0, .complex .f64 0 0, .complex .f64 0 0, .complex .f64 0 0, .complex .f64 0 0, .complex .f64 0 0, .complex .f64 0 0, .complex .f64 0 0, .complex .f64 0 0, .bool false, .bool false, .bool false, .bool false, .bool false, .bool false, .bool false, .bool false, .bool false, .bool false, .int .i64 0] 49 := Blk.new w5 _ _
  have z1 : Blk ((w5.alloc (.cells #[.complex .f64 0 0, .complex .f64 0 0, .complex .f64 0 0, .complex .f64 0 0, .complex .f64 0 0, .complex .f64 0 0, .complex .f64 0 0, .complex .f64 0 0, .complex .f64 0 0, .complex .f64 0 0, .complex .f64 0 0, .bool false, .bool false, .bool false, .bool false, .bool false, .bool false, .bool false, .bool false, .bool false, .bool false, .int .i64 0] 49)).setRow w5.heap.size cs) w5.heap.size cs 49 := z0.setRow _
  have k1 : Keep Nb w5 ((w5.alloc (.cells #[.complex .f64 0 0, .complex .f64 0 0, .complex .f64 0 0, .complex .f64 0 0, .complex .f64 0 0, .complex .f64 0 0, .complex .f64 0 0, .complex .f64 0 0, .complex .f64 0 0, .complex .f64 0 0, .complex .f64 0 0, .bool false, .bool false, .bool false, .bool false, .bool false, .bool false, .bool false, .bool false, .bool false, .bool false, .int .i64 0] 49)).setRow w5.heap.size cs) := Keep.setRow (Keep.alloc (Keep.refl _ _) _) (Or.inl (Nat.le_refl _)) _
  have HZ0 := Lib.hid z0
  have HZ1 := Lib.hid z1
  have HK1 := Lib.hid (hK5.out.trans k1 (fun _ _ h => h))
  have HY1 := Lib.hid (hb5.out.keep k1 id)
  clear z0 z1 k1 hb5 hK5
  go_upto_region 4 with (refine wpList_store_row rfl 49 (.tmp 9) (.tmp 30) rfl w5.heap.size cs rfl rfl 49 _ HZ0.out (by rw [HSZ.out]; exact sizeFo) (by rw [HSZ.out]; rfl) HOne.out ?_)
  generalize (w5.alloc (.cells #[.complex .f64 0 0, .complex .f64 0 0, .complex .f64 0 0, .complex .f64 0 0, .complex .f64 0 0, .complex .f64 0 0, .complex .f64 0 0, .complex .f64 0 0, .complex .f64 0 0, .complex .f64 0 0, .complex .f64 0 0, .bool false, .bool false, .bool false, .bool false, .bool false, .bool false, .bool false, .bool false, .bool false, .bool false, .int .i64 0] 49)).setRow w5.heap.size cs = w6 at HZ1 HK1 HY1 ⊢
  generalize w5.heap.size = pf at HZ1 ⊢
  have hy6 := HY1.out
  (have o0 := Blk.cell hy6 0 (u := .int .i64 N.h.k) rfl; have o1 := Blk.cell hy6 1 (u := .int .u8 N.h.c) rfl; have o2 := Blk.cell hy6 2 (u := .int .u64 N.h.s0) rfl; have o3 := Blk.cell hy6 3 (u := .int .u64 N.h.s1) rfl; have o4 := Blk.cell hy6 4 (u := .int .u64 N.h.s2) rfl; have o5 := Blk.cell hy6 5 (u := .int .u64 N.h.s3) rfl; have o6 := Blk.cell hy6 6 (u := .int .i64 N.h.n) rfl; have o7 := Blk.cell hy6 7 (u := .int .i64 N.h.mn) rfl; have o8 := Blk.cell hy6 8 (u := .int .i64 N.h.mx) rfl; have o9 := Blk.cell hy6 9 (u := (.slice A N.l.length cap)) rfl)
  have lo := hy6.lt
  have hl6 := Lies_keep HK1.out hl
  clear hy6
  go_wp2_with fail
  refine (HG.out _ hl6).mono ?_
  rintro e w7 ⟨rfl, hk7⟩
  have HZ7 := Lib.hid (HZ1.out.keep hk7 id)
  have HK7 := Lib.hid (HK1.out.trans hk7 (fun _ _ h => h))
  clear o0 o1 o2 o3 o4 o5 o6 o7 o8 o9 lo hl6 hk7 HY1 HG HZ0
  have z0 : Blk (w7.alloc (.cells #[.complex .f64 0 0, .complex .f64 0 0, .complex .f64 0 0, .complex .f64 0 0, .complex .f64 0 0, .complex .f64 0 0, .complex .f64 0 0, .complex .f64 0 0, .complex .f64 0 0, .complex .f64 0 0, .complex .f64 0 0, .bool false, .bool false, .bool false, .bool false, .bool false, .bool false, .bool false, .bool false, .bool false, .bool false, .int .i64 0] 53)) w7.heap.size #[.complex .f64 0 0, .complex .f64 0 0, .complex .f64 0 0, .complex .f64 0 0, .complex .f64 0 0, .complex .f64 0 0, .complex .f64 0 0, .complex .f64 0 0, .complex .f64 0 0, .complex .f64 0 0, .complex .f64 0 0, .bool false, .bool false, .bool false, .bool false, .bool false, .bool false, .bool false, .bool false, .bool false, .bool false, .int .i64 0] 53 := Blk.new w7 _ _
  have z1 : Blk ((w7.alloc (.cells #[.complex .f64 0 0, .complex .f64 0 0, .complex .f64 0 0, .complex .f64 0 0, .complex .f64 0 0, .complex .f64 0 0, .complex .f64 0 0, .complex .f64 0 0, .complex .f64 0 0, .complex .f64 0 0, .complex .f64 0 0, .bool false, .bool false, .bool false, .bool false, .bool false, .bool false, .bool false, .bool false, .bool false, .bool false, .int .i64 0] 53)).setRow w7.heap.size cs) w7.heap.size cs 53 := z0.setRow _
  have k1 : Keep Nb w7 ((w7.alloc (.cells #[.complex .f64 0 0, .complex .f64 0 0, .complex .f64 0 0, .complex .f64 0 0, .complex .f64 0 0, .complex .f64 0 0, .complex .f64 0 0, .complex .f64 0 0, .complex .f64 0 0, .complex .f64 0 0, .complex .f64 0 0, .bool false, .bool false, .bool false, .bool false, .bool false, .bool false, .bool false, .bool false, .bool false, .bool false, .int .i64 0] 53)).setRow w7.heap.size cs) := Keep.setRow (Keep.alloc (Keep.refl _ _) _) (Or.inl (Nat.le_refl _)) _
  have HZ0 := Lib.hid z0
  have HR1 := Lib.hid z1
  have HK8 := Lib.hid (HK7.out.trans k1 (fun _ _ h => h))
  have HZ8 := Lib.hid (HZ7.out.keep k1 id)
  clear z0 z1 k1
  go_upto_region 5 with (refine wpList_store_row rfl 53 (.tmp 12) (.tmp 39) rfl w7.heap.size cs rfl rfl 53 _ HZ0.out (by rw [HSZ.out]; exact sizeRf) (by rw [HSZ.out]; rfl) HOne.out ?_)
  generalize (w7.alloc (.cells #[.complex .f64 0 0, .complex .f64 0 0, .complex .f64 0 0, .complex .f64 0 0, .complex .f64 0 0, .complex .f64 0 0, .complex .f64 0 0, .complex .f64 0 0, .complex .f64 0 0, .complex .f64 0 0, .complex .f64 0 0, .bool false, .bool false, .bool false, .bool false, .bool false, .bool false, .bool false, .bool false, .bool false, .bool false, .int .i64 0] 53)).setRow w7.heap.size cs = w8 at HR1 HK8 HZ8 ⊢
  generalize w7.heap.size = pr at HR1 ⊢
  (refine wp_region_f [14] (InX Nb _) (by kernel_rfl) (InX.mk (Keep.drew (Keep.refl _ _))) (fun hI => ?_))
  have xx : ∀ k, ¬ Nb k := fun _ h => h
  have hK0 : Keep Nb w8 w8.drew := (Keep.refl _ _).drew
  generalize w8.drew = x0 at hK0 hI ⊢
  (refine wpF_take_row 0 rfl (by kernel_rfl) (by kernel_rfl) (by kernel_rfl) (by kernel_rfl) (fun _ _ _ _ h => h) (by assumption) rfl 49 (.tmp 9) rfl pf rfl 49 cs (0, 0) _ (fun _ hS => InX.blk hS HZ8.out (xx _)) Try.underlying49 rfl (by rw [HSZ.out]; exact sizeFo) ?_; simp only [Act.put, List.getElem_toArray, List.getElem_cons_succ, List.getElem_cons_zero, List.setIfInBounds_toArray, List.set_cons_zero, List.set_cons_succ])
  (refine wpF_take_row 2 rfl (by kernel_rfl) (by kernel_rfl) (by kernel_rfl) (by kernel_rfl) (fun _ _ _ _ h => h) (by assumption) rfl 53 (.tmp 12) rfl pr rfl 53 cs (0, 0) _ (fun _ hS => InX.blk hS HR1.out (xx _)) Try.underlying53 rfl (by rw [HSZ.out]; exact sizeRf) ?_; simp only [Act.put, List.getElem_toArray, List.getElem_cons_succ, List.getElem_cons_zero, List.setIfInBounds_toArray, List.set_cons_zero, List.set_cons_succ])
  (refine wpF_one 1 rfl (by kernel_rfl) rfl (fun K hK => ?_))
  go_simp
  refine (HO.out _).mono ?_
  rintro y x1 ⟨he, hkn⟩
  subst he
  replace hK0 := Keep.trans hK0 hkn (fun _ _ h => h)
  clear hkn
  (refine hK _ _ (fun _ => InX.mk hK0) (fun hI => ?_); have hI := hI (by simp); clear hK K; try simp only [Act.put, tk])
  have heq := HEQ.out
  have hbb : (b == b) = true := by simp
  have hee : (err == err) = true := by simp
  (refine wpI_from 3 ?_; (iterate 11 ((first | (refine wpI_take (v := ?_) rfl (by kernel_rfl) (fun _ _ _ h => h) hI rfl ?_ ?_; rotate_left; (focus (rintro _ ⟨E, rfl⟩; go_simp; (try with_reducible rfl)))) | refine wpI_skip rfl (by kernel_rfl) (fun _ _ _ h => h) hI rfl ?_); simp only [Act.put, tk, Nat.reduceAdd])); refine wpI_till ?_)
  (refine wpF_one 14 rfl (by kernel_rfl) rfl (fun K hK => ?_))
  go_simp
  (refine hK _ _ (fun h => absurd (by simp) h) (fun _ => ?_); clear hK K; try simp only [Act.put, tk])
  (refine wpF_done (by kernel_rfl) ?_ _)
  go_wp2_with fail
  go_ret
  exact ⟨rfl, HK8.out.trans hK0 (fun _ _ h => h)⟩

theorem fnd_any (N : Nd) (v : Value) (T : ByteArray) (a : Int) (bd : Bool) (w : World) (hl : Lies w N v) :
    Calls Try.prog 7 #[.agg (Nd.row N v), .string T, .int .i64 a, .bool bd] w fun e w' => e = .returned (.bool true) ∧ Keep Nb w w' := by
  by_cases hf : few N = true
  · obtain ⟨s, b, err, hv, hc⟩ := findV_form N T a bd
    exact fnd_true N v T a bd w hl hf s b err hv hc
  · exact fnd_false N v T a bd w hl (by simpa using hf)

end Go.Proofs.Ytkidjbfapldmbaa
