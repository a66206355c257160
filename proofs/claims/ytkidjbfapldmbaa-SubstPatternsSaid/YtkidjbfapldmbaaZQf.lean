import Derived.Test.YtkidjbfapldmbaaZQth
import Derived.Test.YtkidjbfapldmbaaZFna
import Derived.Test.YtkidjbfapldmbaaZRformed
import Derived.Deep.DeepCutAuto
set_option linter.unusedVariables false
set_option linter.unusedSimpArgs false
namespace Go.Proofs.Ytkidjbfapldmbaa
open Go.RowKit P8
theorem sizeRf : (Try.prog.info? 53).map (·.size) = some 22 := by kernel_rfl
theorem bestI_some (s : St) : decide ((0 : Int) ≤ bestI s) = s.best.isSome := by
 obtain ⟨tr, ov, be⟩ := s
 cases be with
 | none => rfl
 | some x =>
  obtain ⟨q, c⟩ := x
  show decide ((0 : Int) ≤ (q : Int)) = true
  simp
theorem bestI_neg {s : St} (h : s.best.isSome = false) : bestI s < 0 := by
 have := bestI_some s
 rw [h] at this
 simp only [decide_eq_false_iff_not] at this
 omega
theorem bestI_pos {s : St} (h : s.best.isSome = true) : ¬ bestI s < 0 := by
 have := bestI_some s
 rw [h] at this
 simp only [decide_eq_true_eq] at this
 omega
theorem qfnd_range (T : ByteArray) (e : Env) (s : St) : ((((qRow T e s).setIfInBounds 25 (.int .i64 (s.tries : Int))).toList.drop 4).take 22) = fndL s := by
 simp [qRow, fndL]
theorem qstart_at (T : ByteArray) (L : List UInt8) (bd : Bool) (a : Nat) : (#[.string T, .bool bd, .int .i64 0, .int .i64 (-1), .complex .f64 0 0, .complex .f64 0 0, .complex .f64 0 0, .complex .f64 0 0, .complex .f64 0 0, .complex .f64 0 0, .complex .f64 0 0, .complex .f64 0 0, .complex .f64 0 0, .complex .f64 0 0, .complex .f64 0 0, .bool false, .bool false, .bool false, .bool false, .bool false, .bool false, .bool false, .bool false, .bool false, .bool false, .int .i64 0, .bool false] : Array Value) = qRow T ⟨L, bd, a⟩ ⟨0, false, none⟩ := by
 simp [qRow, bestC, bestI, grpV, hasV]
theorem step_sum {st m n : Nat} (h : st + (m + 1) = n) : st + 1 + m = n := by omega
theorem meas_up {n st : Nat} (h : st ≤ n) : n + 1 - (intOf (.int .i64 ((st : Int) + 1))).toNat < n + 1 - (intOf (.int .i64 (st : Int))).toNat := by
 simp only [intOf]
 omega
theorem zeroCaps : (#[.int .i64 0, .int .i64 0, .int .i64 0, .int .i64 0, .int .i64 0, .int .i64 0, .int .i64 0, .int .i64 0, .int .i64 0, .int .i64 0, .int .i64 0, .int .i64 0, .int .i64 0, .int .i64 0, .int .i64 0, .int .i64 0, .int .i64 0, .int .i64 0, .int .i64 0, .int .i64 0, .bool false, .bool false, .bool false, .bool false, .bool false, .bool false, .bool false, .bool false, .bool false, .bool false] : Array Value) = cRow noC := rfl
set_option maxRecDepth 100000 in
set_option maxHeartbeats 1000000 in
theorem rfind_shape (N : Nd) (hcn : count N ≤ 900000) (A : Option Addr) (cap : Nat) (T : ByteArray) (a : Int) (bd : Bool) (w : World) (hl : Lies w N (.slice A N.l.length cap)) (hf : formedT N = false) : Calls Try.prog 42 #[.agg (Nd.row N (.slice A N.l.length cap)), .string T, .int .i64 a, .bool bd] w fun x w' => x = .returned (.tuple #[.agg zeroFnd, .bool false, .int .i64 1]) ∧ Keep Nb w w' := by
 have HFM := Lib.hid (fun wx hx => rformed_any N hcn (.slice A N.l.length cap) wx hx)
 have HLi := Lib.hid hl
 rw [hf] at HFM
 clear hcn hl
 simp only [Nd.row] at HFM ⊢
 go_enter Try.func42, Try.ntmps42
 go_wp2_with fail
 have b0 : Blk ((w.alloc (.cells #[.int .i64 N.h.k, .int .u8 N.h.c, .int .u64 N.h.s0, .int .u64 N.h.s1, .int .u64 N.h.s2, .int .u64 N.h.s3, .int .i64 N.h.n, .int .i64 N.h.mn, .int .i64 N.h.mx, .slice A N.l.length cap] 27)).alloc (.cells #[.complex .f64 0 0, .complex .f64 0 0, .complex .f64 0 0, .complex .f64 0 0, .complex .f64 0 0, .complex .f64 0 0, .complex .f64 0 0, .complex .f64 0 0, .complex .f64 0 0, .complex .f64 0 0, .complex .f64 0 0, .bool false, .bool false, .bool false, .bool false, .bool false, .bool false, .bool false, .bool false, .bool false, .bool false, .int .i64 0] 53)) w.heap.size #[.int .i64 N.h.k, .int .u8 N.h.c, .int .u64 N.h.s0, .int .u64 N.h.s1, .int .u64 N.h.s2, .int .u64 N.h.s3, .int .i64 N.h.n, .int .i64 N.h.mn, .int .i64 N.h.mx, .slice A N.l.length cap] 27 := (Blk.new w _ _).alloc _
 have z0 : Blk ((w.alloc (.cells #[.int .i64 N.h.k, .int .u8 N.h.c, .int .u64 N.h.s0, .int .u64 N.h.s1, .int .u64 N.h.s2, .int .u64 N.h.s3, .int .i64 N.h.n, .int .i64 N.h.mn, .int .i64 N.h.mx, .slice A N.l.length cap] 27)).alloc (.cells #[.complex .f64 0 0, .complex .f64 0 0, .complex .f64 0 0, .complex .f64 0 0, .complex .f64 0 0, .complex .f64 0 0, .complex .f64 0 0, .complex .f64 0 0, .complex .f64 0 0, .complex .f64 0 0, .complex .f64 0 0, .bool false, .bool false, .bool false, .bool false, .bool false, .bool false, .bool false, .bool false, .bool false, .bool false, .int .i64 0] 53)) (w.heap.size + 1) zeroFnd 53 := Blk.new' (by simp) _ _
 have k0 : Keep Nb w ((w.alloc (.cells #[.int .i64 N.h.k, .int .u8 N.h.c, .int .u64 N.h.s0, .int .u64 N.h.s1, .int .u64 N.h.s2, .int .u64 N.h.s3, .int .i64 N.h.n, .int .i64 N.h.mn, .int .i64 N.h.mx, .slice A N.l.length cap] 27)).alloc (.cells #[.complex .f64 0 0, .complex .f64 0 0, .complex .f64 0 0, .complex .f64 0 0, .complex .f64 0 0, .complex .f64 0 0, .complex .f64 0 0, .complex .f64 0 0, .complex .f64 0 0, .complex .f64 0 0, .complex .f64 0 0, .bool false, .bool false, .bool false, .bool false, .bool false, .bool false, .bool false, .bool false, .bool false, .bool false, .int .i64 0] 53)) := Keep.alloc (Keep.alloc (Keep.refl _ _) _) _
 generalize ((w.alloc (.cells #[.int .i64 N.h.k, .int .u8 N.h.c, .int .u64 N.h.s0, .int .u64 N.h.s1, .int .u64 N.h.s2, .int .u64 N.h.s3, .int .i64 N.h.n, .int .i64 N.h.mn, .int .i64 N.h.mx, .slice A N.l.length cap] 27)).alloc (.cells #[.complex .f64 0 0, .complex .f64 0 0, .complex .f64 0 0, .complex .f64 0 0, .complex .f64 0 0, .complex .f64 0 0, .complex .f64 0 0, .complex .f64 0 0, .complex .f64 0 0, .complex .f64 0 0, .complex .f64 0 0, .bool false, .bool false, .bool false, .bool false, .bool false, .bool false, .bool false, .bool false, .bool false, .bool false, .int .i64 0] 53)) = w0 at b0 z0 k0 ⊢
 refine (HFM.out _ (Lies_keep k0 HLi.out)).mono ?_
 rintro x w1 ⟨rfl, hkn⟩
 have HB := Lib.hid (b0.keep hkn id)
 have HZ := Lib.hid (z0.keep hkn id)
 have HK := Lib.hid (k0.trans hkn (fun _ _ h => h))
 clear b0 z0 k0 hkn
 go_wp2_with (refine wpList_store_row rfl 53 (.tmp 8) (.tmp 31) rfl (w.heap.size + 1) _ rfl rfl 53 _ HZ.out sizeRf rfl (by simp [Value.oneCell']) ?_)
 refine bodyPost_ret (results_ctt Try.results42 _ _ (w.heap.size + 1) 53 _ (0, 0) _ rfl (HZ.out.setRow zeroFnd) Try.underlying53 rfl sizeRf) rfl ⟨rfl, Keep.setRow HK.out (Or.inl (Nat.le_succ _)) _⟩
set_option maxRecDepth 100000 in
set_option maxHeartbeats 1000000 in
theorem rfind_long (N : Nd) (hcn : count N ≤ 900000) (A : Option Addr) (cap : Nat) (T : ByteArray) (a : Int) (bd : Bool) (w : World) (hl : Lies w N (.slice A N.l.length cap)) (hf : formedT N = true) (h1 : 600 < T.size) : Calls Try.prog 42 #[.agg (Nd.row N (.slice A N.l.length cap)), .string T, .int .i64 a, .bool bd] w fun x w' => x = .returned (.tuple #[.agg zeroFnd, .bool false, .int .i64 1]) ∧ Keep Nb w w' := by
 have HFM := Lib.hid (fun wx hx => rformed_any N hcn (.slice A N.l.length cap) wx hx)
 have HLi := Lib.hid hl
 rw [hf] at HFM
 have m1 : decide (600 < (T.size : Int)) = true := by simp; omega
 clear h1 hf
 clear hcn hl
 simp only [Nd.row] at HFM ⊢
 go_enter Try.func42, Try.ntmps42
 go_wp2_with fail
 have b0 : Blk ((w.alloc (.cells #[.int .i64 N.h.k, .int .u8 N.h.c, .int .u64 N.h.s0, .int .u64 N.h.s1, .int .u64 N.h.s2, .int .u64 N.h.s3, .int .i64 N.h.n, .int .i64 N.h.mn, .int .i64 N.h.mx, .slice A N.l.length cap] 27)).alloc (.cells #[.complex .f64 0 0, .complex .f64 0 0, .complex .f64 0 0, .complex .f64 0 0, .complex .f64 0 0, .complex .f64 0 0, .complex .f64 0 0, .complex .f64 0 0, .complex .f64 0 0, .complex .f64 0 0, .complex .f64 0 0, .bool false, .bool false, .bool false, .bool false, .bool false, .bool false, .bool false, .bool false, .bool false, .bool false, .int .i64 0] 53)) w.heap.size #[.int .i64 N.h.k, .int .u8 N.h.c, .int .u64 N.h.s0, .int .u64 N.h.s1, .int .u64 N.h.s2, .int .u64 N.h.s3, .int .i64 N.h.n, .int .i64 N.h.mn, .int .i64 N.h.mx, .slice A N.l.length cap] 27 := (Blk.new w _ _).alloc _
 have z0 : Blk ((w.alloc (.cells #[.int .i64 N.h.k, .int .u8 N.h.c, .int .u64 N.h.s0, .int .u64 N.h.s1, .int .u64 N.h.s2, .int .u64 N.h.s3, .int .i64 N.h.n, .int .i64 N.h.mn, .int .i64 N.h.mx, .slice A N.l.length cap] 27)).alloc (.cells #[.complex .f64 0 0, .complex .f64 0 0, .complex .f64 0 0, .complex .f64 0 0, .complex .f64 0 0, .complex .f64 0 0, .complex .f64 0 0, .complex .f64 0 0, .complex .f64 0 0, .complex .f64 0 0, .complex .f64 0 0, .bool false, .bool false, .bool false, .bool false, .bool false, .bool false, .bool false, .bool false, .bool false, .bool false, .int .i64 0] 53)) (w.heap.size + 1) zeroFnd 53 := Blk.new' (by simp) _ _
 have k0 : Keep Nb w ((w.alloc (.cells #[.int .i64 N.h.k, .int .u8 N.h.c, .int .u64 N.h.s0, .int .u64 N.h.s1, .int .u64 N.h.s2, .int .u64 N.h.s3, .int .i64 N.h.n, .int .i64 N.h.mn, .int .i64 N.h.mx, .slice A N.l.length cap] 27)).alloc (.cells #[.complex .f64 0 0, .complex .f64 0 0, .complex .f64 0 0, .complex .f64 0 0, .complex .f64 0 0, .complex .f64 0 0, .complex .f64 0 0, .complex .f64 0 0, .complex .f64 0 0, .complex .f64 0 0, .complex .f64 0 0, .bool false, .bool false, .bool false, .bool false, .bool false, .bool false, .bool false, .bool false, .bool false, .bool false, .int .i64 0] 53)) := Keep.alloc (Keep.alloc (Keep.refl _ _) _) _
 generalize ((w.alloc (.cells #[.int .i64 N.h.k, .int .u8 N.h.c, .int .u64 N.h.s0, .int .u64 N.h.s1, .int .u64 N.h.s2, .int .u64 N.h.s3, .int .i64 N.h.n, .int .i64 N.h.mn, .int .i64 N.h.mx, .slice A N.l.length cap] 27)).alloc (.cells #[.complex .f64 0 0, .complex .f64 0 0, .complex .f64 0 0, .complex .f64 0 0, .complex .f64 0 0, .complex .f64 0 0, .complex .f64 0 0, .complex .f64 0 0, .complex .f64 0 0, .complex .f64 0 0, .complex .f64 0 0, .bool false, .bool false, .bool false, .bool false, .bool false, .bool false, .bool false, .bool false, .bool false, .bool false, .int .i64 0] 53)) = w0 at b0 z0 k0 ⊢
 refine (HFM.out _ (Lies_keep k0 HLi.out)).mono ?_
 rintro x w1 ⟨rfl, hkn⟩
 have HB := Lib.hid (b0.keep hkn id)
 have HZ := Lib.hid (z0.keep hkn id)
 have HK := Lib.hid (k0.trans hkn (fun _ _ h => h))
 clear b0 z0 k0 hkn
 go_wp2_with (refine wpList_store_row rfl 53 (.tmp 8) (.tmp 31) rfl (w.heap.size + 1) _ rfl rfl 53 _ HZ.out sizeRf rfl (by simp [Value.oneCell']) ?_)
 refine bodyPost_ret (results_ctt Try.results42 _ _ (w.heap.size + 1) 53 _ (0, 0) _ rfl (HZ.out.setRow zeroFnd) Try.underlying53 rfl sizeRf) rfl ⟨rfl, Keep.setRow HK.out (Or.inl (Nat.le_succ _)) _⟩
set_option maxRecDepth 100000 in
set_option maxHeartbeats 1000000 in
theorem rfind_neg (N : Nd) (hcn : count N ≤ 900000) (A : Option Addr) (cap : Nat) (T : ByteArray) (a : Int) (bd : Bool) (w : World) (hl : Lies w N (.slice A N.l.length cap)) (hf : formedT N = true) (h1 : T.size ≤ 600) (h2 : a < 0) : Calls Try.prog 42 #[.agg (Nd.row N (.slice A N.l.length cap)), .string T, .int .i64 a, .bool bd] w fun x w' => x = .returned (.tuple #[.agg zeroFnd, .bool false, .int .i64 1]) ∧ Keep Nb w w' := by
 have HFM := Lib.hid (fun wx hx => rformed_any N hcn (.slice A N.l.length cap) wx hx)
 have HLi := Lib.hid hl
 rw [hf] at HFM
 have m1 : decide (600 < (T.size : Int)) = false := by simp; omega
 have m2 : decide (a < 0) = true := by simpa using h2
 clear h1 hf h2
 clear hcn hl
 simp only [Nd.row] at HFM ⊢
 go_enter Try.func42, Try.ntmps42
 go_wp2_with fail
 have b0 : Blk ((w.alloc (.cells #[.int .i64 N.h.k, .int .u8 N.h.c, .int .u64 N.h.s0, .int .u64 N.h.s1, .int .u64 N.h.s2, .int .u64 N.h.s3, .int .i64 N.h.n, .int .i64 N.h.mn, .int .i64 N.h.mx, .slice A N.l.length cap] 27)).alloc (.cells #[.complex .f64 0 0, .complex .f64 0 0, .complex .f64 0 0, .complex .f64 0 0, .complex .f64 0 0, .complex .f64 0 0, .complex .f64 0 0, .complex .f64 0 0, .complex .f64 0 0, .complex .f64 0 0, .complex .f64 0 0, .bool false, .bool false, .bool false, .bool false, .bool false, .bool false, .bool false, .bool false, .bool false, .bool false, .int .i64 0] 53)) w.heap.size #[.int .i64 N.h.k, .int .u8 N.h.c, .int .u64 N.h.s0, .int .u64 N.h.s1, .int .u64 N.h.s2, .int .u64 N.h.s3, .int .i64 N.h.n, .int .i64 N.h.mn, .int .i64 N.h.mx, .slice A N.l.length cap] 27 := (Blk.new w _ _).alloc _
 have z0 : Blk ((w.alloc (.cells #[.int .i64 N.h.k, .int .u8 N.h.c, .int .u64 N.h.s0, .int .u64 N.h.s1, .int .u64 N.h.s2, .int .u64 N.h.s3, .int .i64 N.h.n, .int .i64 N.h.mn, .int .i64 N.h.mx, .slice A N.l.length cap] 27)).alloc (.cells #[.complex .f64 0 0, .complex .f64 0 0, .complex .f64 0 0, .complex .f64 0 0, .complex .f64 0 0, .complex .f64 0 0, .complex .f64 0 0, .complex .f64 0 0, .complex .f64 0 0, .complex .f64 0 0, .complex .f64 0 0, .bool false, .bool false, .bool false, .bool false, .bool false, .bool false, .bool false, .bool false, .bool false, .bool false, .int .i64 0] 53)) (w.heap.size + 1) zeroFnd 53 := Blk.new' (by simp) _ _
 have k0 : Keep Nb w ((w.alloc (.cells #[.int .i64 N.h.k, .int .u8 N.h.c, .int .u64 N.h.s0, .int .u64 N.h.s1, .int .u64 N.h.s2, .int .u64 N.h.s3, .int .i64 N.h.n, .int .i64 N.h.mn, .int .i64 N.h.mx, .slice A N.l.length cap] 27)).alloc (.cells #[.complex .f64 0 0, .complex .f64 0 0, .complex .f64 0 0, .complex .f64 0 0, .complex .f64 0 0, .complex .f64 0 0, .complex .f64 0 0, .complex .f64 0 0, .complex .f64 0 0, .complex .f64 0 0, .complex .f64 0 0, .bool false, .bool false, .bool false, .bool false, .bool false, .bool false, .bool false, .bool false, .bool false, .bool false, .int .i64 0] 53)) := Keep.alloc (Keep.alloc (Keep.refl _ _) _) _
 generalize ((w.alloc (.cells #[.int .i64 N.h.k, .int .u8 N.h.c, .int .u64 N.h.s0, .int .u64 N.h.s1, .int .u64 N.h.s2, .int .u64 N.h.s3, .int .i64 N.h.n, .int .i64 N.h.mn, .int .i64 N.h.mx, .slice A N.l.length cap] 27)).alloc (.cells #[.complex .f64 0 0, .complex .f64 0 0, .complex .f64 0 0, .complex .f64 0 0, .complex .f64 0 0, .complex .f64 0 0, .complex .f64 0 0, .complex .f64 0 0, .complex .f64 0 0, .complex .f64 0 0, .complex .f64 0 0, .bool false, .bool false, .bool false, .bool false, .bool false, .bool false, .bool false, .bool false, .bool false, .bool false, .int .i64 0] 53)) = w0 at b0 z0 k0 ⊢
 refine (HFM.out _ (Lies_keep k0 HLi.out)).mono ?_
 rintro x w1 ⟨rfl, hkn⟩
 have HB := Lib.hid (b0.keep hkn id)
 have HZ := Lib.hid (z0.keep hkn id)
 have HK := Lib.hid (k0.trans hkn (fun _ _ h => h))
 clear b0 z0 k0 hkn
 go_wp2_with (refine wpList_store_row rfl 53 (.tmp 8) (.tmp 31) rfl (w.heap.size + 1) _ rfl rfl 53 _ HZ.out sizeRf rfl (by simp [Value.oneCell']) ?_)
 refine bodyPost_ret (results_ctt Try.results42 _ _ (w.heap.size + 1) 53 _ (0, 0) _ rfl (HZ.out.setRow zeroFnd) Try.underlying53 rfl sizeRf) rfl ⟨rfl, Keep.setRow HK.out (Or.inl (Nat.le_succ _)) _⟩
set_option maxRecDepth 100000 in
set_option maxHeartbeats 1000000 in
theorem rfind_far (N : Nd) (hcn : count N ≤ 900000) (A : Option Addr) (cap : Nat) (T : ByteArray) (a : Int) (bd : Bool) (w : World) (hl : Lies w N (.slice A N.l.length cap)) (hf : formedT N = true) (h1 : T.size ≤ 600) (h2 : ¬ a < 0) (h3 : (T.size : Int) < a) : Calls Try.prog 42 #[.agg (Nd.row N (.slice A N.l.length cap)), .string T, .int .i64 a, .bool bd] w fun x w' => x = .returned (.tuple #[.agg zeroFnd, .bool false, .int .i64 1]) ∧ Keep Nb w w' := by
 have HFM := Lib.hid (fun wx hx => rformed_any N hcn (.slice A N.l.length cap) wx hx)
 have HLi := Lib.hid hl
 rw [hf] at HFM
 have m1 : decide (600 < (T.size : Int)) = false := by simp; omega
 have m2 : decide (a < 0) = false := by simpa using h2
 have m3 : decide ((T.size : Int) < a) = true := by simpa using h3
 clear h1 hf h2 h3
 clear hcn hl
 simp only [Nd.row] at HFM ⊢
 go_enter Try.func42, Try.ntmps42
 go_wp2_with fail
 have b0 : Blk ((w.alloc (.cells #[.int .i64 N.h.k, .int .u8 N.h.c, .int .u64 N.h.s0, .int .u64 N.h.s1, .int .u64 N.h.s2, .int .u64 N.h.s3, .int .i64 N.h.n, .int .i64 N.h.mn, .int .i64 N.h.mx, .slice A N.l.length cap] 27)).alloc (.cells #[.complex .f64 0 0, .complex .f64 0 0, .complex .f64 0 0, .complex .f64 0 0, .complex .f64 0 0, .complex .f64 0 0, .complex .f64 0 0, .complex .f64 0 0, .complex .f64 0 0, .complex .f64 0 0, .complex .f64 0 0, .bool false, .bool false, .bool false, .bool false, .bool false, .bool false, .bool false, .bool false, .bool false, .bool false, .int .i64 0] 53)) w.heap.size #[.int .i64 N.h.k, .int .u8 N.h.c, .int .u64 N.h.s0, .int .u64 N.h.s1, .int .u64 N.h.s2, .int .u64 N.h.s3, .int .i64 N.h.n, .int .i64 N.h.mn, .int .i64 N.h.mx, .slice A N.l.length cap] 27 := (Blk.new w _ _).alloc _
 have z0 : Blk ((w.alloc (.cells #[.int .i64 N.h.k, .int .u8 N.h.c, .int .u64 N.h.s0, .int .u64 N.h.s1, .int .u64 N.h.s2, .int .u64 N.h.s3, .int .i64 N.h.n, .int .i64 N.h.mn, .int .i64 N.h.mx, .slice A N.l.length cap] 27)).alloc (.cells #[.complex .f64 0 0, .complex .f64 0 0, .complex .f64 0 0, .complex .f64 0 0, .complex .f64 0 0, .complex .f64 0 0, .complex .f64 0 0, .complex .f64 0 0, .complex .f64 0 0, .complex .f64 0 0, .complex .f64 0 0, .bool false, .bool false, .bool false, .bool false, .bool false, .bool false, .bool false, .bool false, .bool false, .bool false, .int .i64 0] 53)) (w.heap.size + 1) zeroFnd 53 := Blk.new' (by simp) _ _
 have k0 : Keep Nb w ((w.alloc (.cells #[.int .i64 N.h.k, .int .u8 N.h.c, .int .u64 N.h.s0, .int .u64 N.h.s1, .int .u64 N.h.s2, .int .u64 N.h.s3, .int .i64 N.h.n, .int .i64 N.h.mn, .int .i64 N.h.mx, .slice A N.l.length cap] 27)).alloc (.cells #[.complex .f64 0 0, .complex .f64 0 0, .complex .f64 0 0, .complex .f64 0 0, .complex .f64 0 0, .complex .f64 0 0, .complex .f64 0 0, .complex .f64 0 0, .complex .f64 0 0, .complex .f64 0 0, .complex .f64 0 0, .bool false, .bool false, .bool false, .bool false, .bool false, .bool false, .bool false, .bool false, .bool false, .bool false, .int .i64 0] 53)) := Keep.alloc (Keep.alloc (Keep.refl _ _) _) _
 generalize ((w.alloc (.cells #[.int .i64 N.h.k, .int .u8 N.h.c, .int .u64 N.h.s0, .int .u64 N.h.s1, .int .u64 N.h.s2, .int .u64 N.h.s3, .int .i64 N.h.n, .int .i64 N.h.mn, .int .i64 N.h.mx, .slice A N.l.length cap] 27)).alloc (.cells #[.complex .f64 0 0, .complex .f64 0 0, .complex .f64 0 0, .complex .f64 0 0, .complex .f64 0 0, .complex .f64 0 0, .complex .f64 0 0, .complex .f64 0 0, .complex .f64 0 0, .complex .f64 0 0, .complex .f64 0 0, .bool false, .bool false, .bool false, .bool false, .bool false, .bool false, .bool false, .bool false, .bool false, .bool false, .int .i64 0] 53)) = w0 at b0 z0 k0 ⊢
 refine (HFM.out _ (Lies_keep k0 HLi.out)).mono ?_
 rintro x w1 ⟨rfl, hkn⟩
 have HB := Lib.hid (b0.keep hkn id)
 have HZ := Lib.hid (z0.keep hkn id)
 have HK := Lib.hid (k0.trans hkn (fun _ _ h => h))
 clear b0 z0 k0 hkn
 go_wp2_with (refine wpList_store_row rfl 53 (.tmp 8) (.tmp 31) rfl (w.heap.size + 1) _ rfl rfl 53 _ HZ.out sizeRf rfl (by simp [Value.oneCell']) ?_)
 refine bodyPost_ret (results_ctt Try.results42 _ _ (w.heap.size + 1) 53 _ (0, 0) _ rfl (HZ.out.setRow zeroFnd) Try.underlying53 rfl sizeRf) rfl ⟨rfl, Keep.setRow HK.out (Or.inl (Nat.le_succ _)) _⟩
set_option maxRecDepth 100000 in
set_option maxHeartbeats 4000000 in
theorem rfind_seek (N : Nd) (hcn : count N ≤ 900000) (A : Option Addr) (cap : Nat) (T : ByteArray) (a : Nat) (bd : Bool) (w : World) (hl : Lies w N (.slice A N.l.length cap))
  (hf : formedT N = true) (h1 : T.size ≤ 600) (h3 : a ≤ T.size) (k : Nat) (S : St) (hS : findS k T.toList bd N (T.size + 1 - a) a ⟨0, false, none⟩ = some S) :
  Calls Try.prog 42 #[.agg (Nd.row N (.slice A N.l.length cap)), .string T, .int .i64 (a : Int), .bool bd] w fun x w' => x = .returned (findW S) ∧ Keep Nb w w' := by
 have hok := formed_ok hf
 have HFM := Lib.hid (fun wx hx => rformed_any N hcn (.slice A N.l.length cap) wx hx)
 rw [hf] at HFM
 have m1 : decide (600 < (T.size : Int)) = false := by simp; omega
 have m2 : decide ((a : Int) < 0) = false := by simp
 have m3 : decide ((T.size : Int) < (a : Int)) = false := by simp; omega
 have m4 : decide (T.size < a) = false := by simp; omega
 have HLi := Lib.hid hl
 have HS := Lib.hid hS
 have HOK := Lib.hid hok
 have H1 := Lib.hid h1
 have H3 := Lib.hid h3
 clear hcn hl hS hok h1 h3 hf
 simp only [Nd.row] at HFM ⊢
 go_enter Try.func42, Try.ntmps42
 go_wp2_with fail
 have b0 : Blk ((w.alloc (.cells #[.int .i64 N.h.k, .int .u8 N.h.c, .int .u64 N.h.s0, .int .u64 N.h.s1, .int .u64 N.h.s2, .int .u64 N.h.s3, .int .i64 N.h.n, .int .i64 N.h.mn, .int .i64 N.h.mx, .slice A N.l.length cap] 27)).alloc (.cells #[.complex .f64 0 0, .complex .f64 0 0, .complex .f64 0 0, .complex .f64 0 0, .complex .f64 0 0, .complex .f64 0 0, .complex .f64 0 0, .complex .f64 0 0, .complex .f64 0 0, .complex .f64 0 0, .complex .f64 0 0, .bool false, .bool false, .bool false, .bool false, .bool false, .bool false, .bool false, .bool false, .bool false, .bool false, .int .i64 0] 53)) w.heap.size #[.int .i64 N.h.k, .int .u8 N.h.c, .int .u64 N.h.s0, .int .u64 N.h.s1, .int .u64 N.h.s2, .int .u64 N.h.s3, .int .i64 N.h.n, .int .i64 N.h.mn, .int .i64 N.h.mx, .slice A N.l.length cap] 27 := (Blk.new w _ _).alloc _
 have z0 : Blk ((w.alloc (.cells #[.int .i64 N.h.k, .int .u8 N.h.c, .int .u64 N.h.s0, .int .u64 N.h.s1, .int .u64 N.h.s2, .int .u64 N.h.s3, .int .i64 N.h.n, .int .i64 N.h.mn, .int .i64 N.h.mx, .slice A N.l.length cap] 27)).alloc (.cells #[.complex .f64 0 0, .complex .f64 0 0, .complex .f64 0 0, .complex .f64 0 0, .complex .f64 0 0, .complex .f64 0 0, .complex .f64 0 0, .complex .f64 0 0, .complex .f64 0 0, .complex .f64 0 0, .complex .f64 0 0, .bool false, .bool false, .bool false, .bool false, .bool false, .bool false, .bool false, .bool false, .bool false, .bool false, .int .i64 0] 53)) (w.heap.size + 1) zeroFnd 53 := Blk.new' (by simp) _ _
 have k0 : Keep Nb w ((w.alloc (.cells #[.int .i64 N.h.k, .int .u8 N.h.c, .int .u64 N.h.s0, .int .u64 N.h.s1, .int .u64 N.h.s2, .int .u64 N.h.s3, .int .i64 N.h.n, .int .i64 N.h.mn, .int .i64 N.h.mx, .slice A N.l.length cap] 27)).alloc (.cells #[.complex .f64 0 0, .complex .f64 0 0, .complex .f64 0 0, .complex .f64 0 0, .complex .f64 0 0, .complex .f64 0 0, .complex .f64 0 0, .complex .f64 0 0, .complex .f64 0 0, .complex .f64 0 0, .complex .f64 0 0, .bool false, .bool false, .bool false, .bool false, .bool false, .bool false, .bool false, .bool false, .bool false, .bool false, .int .i64 0] 53)) := Keep.alloc (Keep.alloc (Keep.refl _ _) _) _
 generalize ((w.alloc (.cells #[.int .i64 N.h.k, .int .u8 N.h.c, .int .u64 N.h.s0, .int .u64 N.h.s1, .int .u64 N.h.s2, .int .u64 N.h.s3, .int .i64 N.h.n, .int .i64 N.h.mn, .int .i64 N.h.mx, .slice A N.l.length cap] 27)).alloc (.cells #[.complex .f64 0 0, .complex .f64 0 0, .complex .f64 0 0, .complex .f64 0 0, .complex .f64 0 0, .complex .f64 0 0, .complex .f64 0 0, .complex .f64 0 0, .complex .f64 0 0, .complex .f64 0 0, .complex .f64 0 0, .bool false, .bool false, .bool false, .bool false, .bool false, .bool false, .bool false, .bool false, .bool false, .bool false, .int .i64 0] 53)) = w0 at b0 z0 k0 ⊢
 refine (HFM.out _ (Lies_keep k0 HLi.out)).mono ?_
 rintro x w1 ⟨rfl, hkn⟩
 have HB := Lib.hid (b0.keep hkn id)
 have HZ := Lib.hid (z0.keep hkn id)
 have HK := Lib.hid (k0.trans hkn (fun _ _ h => h))
 clear b0 z0 k0 hkn
 have hp1 : w.heap.size + 1 < w1.heap.size := HZ.out.lt
 have P2 : QAt (w1.alloc (.cells #[.string T, .bool bd, .int .i64 0, .int .i64 (-1), .complex .f64 0 0, .complex .f64 0 0, .complex .f64 0 0, .complex .f64 0 0, .complex .f64 0 0, .complex .f64 0 0, .complex .f64 0 0, .complex .f64 0 0, .complex .f64 0 0, .complex .f64 0 0, .complex .f64 0 0, .bool false, .bool false, .bool false, .bool false, .bool false, .bool false, .bool false, .bool false, .bool false, .bool false, .int .i64 0, .bool false] 111)) w1.heap.size T ⟨T.toList, bd, a⟩ ⟨0, false, none⟩ := (Blk.new w1 _ _).same (qstart_at T T.toList bd a)
 have K2 : Keep Nb w (w1.alloc (.cells #[.string T, .bool bd, .int .i64 0, .int .i64 (-1), .complex .f64 0 0, .complex .f64 0 0, .complex .f64 0 0, .complex .f64 0 0, .complex .f64 0 0, .complex .f64 0 0, .complex .f64 0 0, .complex .f64 0 0, .complex .f64 0 0, .complex .f64 0 0, .complex .f64 0 0, .bool false, .bool false, .bool false, .bool false, .bool false, .bool false, .bool false, .bool false, .bool false, .bool false, .int .i64 0, .bool false] 111)) := Keep.alloc HK.out _
 have Z2 := HZ.out.alloc (.cells #[.string T, .bool bd, .int .i64 0, .int .i64 (-1), .complex .f64 0 0, .complex .f64 0 0, .complex .f64 0 0, .complex .f64 0 0, .complex .f64 0 0, .complex .f64 0 0, .complex .f64 0 0, .complex .f64 0 0, .complex .f64 0 0, .complex .f64 0 0, .complex .f64 0 0, .bool false, .bool false, .bool false, .bool false, .bool false, .bool false, .bool false, .bool false, .bool false, .bool false, .int .i64 0, .bool false] 111)
 have B2 := HB.out.alloc (.cells #[.string T, .bool bd, .int .i64 0, .int .i64 (-1), .complex .f64 0 0, .complex .f64 0 0, .complex .f64 0 0, .complex .f64 0 0, .complex .f64 0 0, .complex .f64 0 0, .complex .f64 0 0, .complex .f64 0 0, .complex .f64 0 0, .complex .f64 0 0, .complex .f64 0 0, .bool false, .bool false, .bool false, .bool false, .bool false, .bool false, .bool false, .bool false, .bool false, .bool false, .int .i64 0, .bool false] 111)
 have P2 := Lib.hid P2
 have K2 := Lib.hid K2
 have Z2 := Lib.hid Z2
 have B2 := Lib.hid B2
 go_wp2_with fail
 clear m1 m2 m3 m4
 generalize w1.alloc (.cells _ 111) = wS at P2 K2 Z2 B2 ⊢
 obtain ⟨p, hp⟩ : ∃ p, p = w1.heap.size := ⟨_, rfl⟩
 rw [← hp] at P2 hp1 ⊢
 have HPZ := Lib.hid (show p ≠ w.heap.size + 1 by omega)
 have HPW := Lib.hid (show w.heap.size ≤ p by omega)
 have HPN := Lib.hid (show w.heap.size ≠ p by omega)
 have HTL := Lib.hid (toList_len T)
 clear hp hp1 HB HZ HK HFM
 go_loopw [12] (fun o wr => ∃ (st m : Nat) (s : St), o = .int .i64 (st : Int) ∧ Hid (st + m = T.size + 1) ∧ Hid (findS k T.toList bd N m st s = some S) ∧ Hid (s.tries ≤ 3000) ∧ Hid (s.over = false) ∧ Hid (QAt wr p T ⟨T.toList, bd, st⟩ s) ∧ Hid (Blk wr w.heap.size #[.int .i64 N.h.k, .int .u8 N.h.c, .int .u64 N.h.s0, .int .u64 N.h.s1, .int .u64 N.h.s2, .int .u64 N.h.s3, .int .i64 N.h.n, .int .i64 N.h.mn, .int .i64 N.h.mx, .slice A N.l.length cap] 27) ∧ Hid (Blk wr (w.heap.size + 1) zeroFnd 53) ∧ Hid (Keep Nb w wr)) (fun o _ => T.size + 1 - (intOf o).toNat)
 case atStart => exact ⟨a, T.size + 1 - a, ⟨0, false, none⟩, rfl, Lib.hid (by have := H3.out; omega), HS, Lib.hid (Nat.zero_le _), Lib.hid rfl, P2, B2, Z2, K2⟩
 case round =>
  obtain ⟨st, m, s, rfl, hm, hfs, htr, hov, HF, HBr, HZr, HKr⟩ := hrel
  clear P2 B2 Z2 K2
  have hmm := hm.out
  have b1 := HF.out
  have c3 := b1.cell 3 (u := .int .i64 (bestI s)) rfl
  have lp := b1.lt
  by_cases hle : st ≤ T.size
  ·obtain ⟨m, rfl⟩ : ∃ i, m = i + 1 := ⟨m - 1, by omega⟩
   have g1 : decide ((st : Int) ≤ (T.size : Int)) = true := by simp; omega
   have g2 : decide (st ≤ T.size) = true := by simp; omega
   have hfs1 := hfs.out
   rw [findS] at hfs1
   cases hbs : s.best.isSome with
   | true =>
    rw [if_pos hbs] at hfs1
    obtain rfl := Option.some.inj hfs1
    have g3 : decide (bestI s < 0) = false := by simpa using bestI_pos hbs
    have HOV := hov
    clear hfs1 hfs hbs b1
    have b2 := HF.out
    have c2 := b2.cell 2 (u := .int .i64 (s.tries : Int)) rfl
    have f25 := b2.frozen 25
    have d25 := b2.cell 25 (u := .int .i64 0) rfl
    have l2 := b2.lt
    have B3 := Lib.hid (b2.set 25 (.int .i64 (s.tries : Int)))
    have K3 := Lib.hid (Keep.setCell (X := Nb) (a := w) (p := ⟨p, 25, none⟩) HKr.out (Or.inl HPW.out) (.int .i64 (s.tries : Int)))
    have Z3 := Lib.hid (HZr.out.setOther (p := ⟨p, 25, none⟩) HPZ.out (.int .i64 (s.tries : Int)))
    clear b2
    go_wp2_with fail
    generalize wr.setCell ⟨p, 25, none⟩ (.int .i64 (s.tries : Int)) = w3 at B3 K3 Z3 ⊢
    clear c2 f25 d25 l2
    have b3 := B3.out
    have e3 := b3.cell 3 (u := .int .i64 (bestI s)) rfl
    have l3 := b3.lt
    have rg : w3.rangeAt p 4 (fndL s) := by
     have := b3.range 4 22
     rw [qfnd_range] at this
     exact this
    have RG := Lib.hid rg
    have m9 : decide ((0 : Int) ≤ bestI s) = s.best.isSome := bestI_some s
    clear b3 rg
    (refine wp_region_f [10, 11] (InX (Ob (w.heap.size + 1)) _) (by kernel_rfl) (InX.mk (Keep.drew (Keep.refl _ _))) (fun hI => ?_))
    have xx : ¬ Ob (w.heap.size + 1) p := fun h => HPZ.out h
    have hK0 : Keep Nb w3 w3.drew := (Keep.refl _ _).drew
    have rX := RG.out
    have zX := Z3.out.drew
    generalize hx0 : w3.drew = x0 at hK0 hI zX ⊢
    have rX : x0.rangeAt p 4 (fndL s) := by rw [← hx0]; exact (World.rangeAt_drew _ _ _ _).2 RG.out
    clear hx0
    (refine wpI_from 0 ?_; (iterate 3 ((first | (refine wpI_take (v := ?_) rfl (by kernel_rfl) (fun _ _ _ h => h) hI rfl ?_ ?_; rotate_left; (focus (rintro _ ⟨E, rfl⟩; go_simp; (try with_reducible rfl)))) | refine wpI_skip rfl (by kernel_rfl) (fun _ _ _ h => h) hI rfl ?_); simp only [Act.put, tk, Nat.reduceAdd])); refine wpI_till ?_)
    (refine wpI_from 4 ?_; (iterate 5 ((first | (refine wpI_take (v := ?_) rfl (by kernel_rfl) (fun _ _ _ h => h) hI rfl ?_ ?_; rotate_left; (focus (rintro _ ⟨E, rfl⟩; go_simp; (try with_reducible rfl)))) | refine wpI_skip rfl (by kernel_rfl) (fun _ _ _ h => h) hI rfl ?_); simp only [Act.put, tk, Nat.reduceAdd])); refine wpI_till ?_)
    (refine wpF_one 3 rfl (by kernel_rfl) rfl (fun K hK => ?_))
    refine wp_load_mid 53 (.tmp 73) rfl p 4 rfl (fndL s) _ rX Try.underlying53 rfl (by kernel_rfl) ?_
    (refine hK _ _ (fun _ => InX.mk (hK0.mono (fun _ _ h => h.elim))) (fun hI => ?_); have hI := hI (by simp); clear hK K; try simp only [Act.put, tk])
    (refine wpF_one 9 rfl (by kernel_rfl) rfl (fun K hK => ?_))
    refine wp_store_row 53 (.tmp 8) (.tmp 74) rfl (w.heap.size + 1) _ rfl rfl 53 _ zX sizeRf rfl (all_oneCell_toArray (fnd_one s)) ?_
    (refine hK _ _ (fun _ => InX.mk (Keep.setRow (X := Ob (w.heap.size + 1)) (hK0.mono (fun _ _ h => h.elim)) (Or.inr rfl) _)) (fun hI => ?_); have hI := hI (by simp); clear hK K; try simp only [Act.put, tk])
    (refine wpF_one 10 rfl (by kernel_rfl) rfl (fun K hK => ?_))
    go_simp
    (refine hK _ _ (fun h => absurd (by simp) h) (fun _ => ?_); clear hK K; try simp only [Act.put, tk])
    (refine wpF_one 11 rfl (by kernel_rfl) rfl (fun K hK => ?_))
    go_simp
    (refine hK _ _ (fun h => absurd (by simp) h) (fun _ => ?_); clear hK K; try simp only [Act.put, tk])
    (refine wpF_done (by kernel_rfl) ?_ _)
    go_wp2_with fail
    refine bodyPost_ret (results_ctt Try.results42 _ _ (w.heap.size + 1) 53 _ (0, 0) _ rfl (zX.setRow (fndL s).toArray) Try.underlying53 rfl sizeRf) rfl ⟨findW_ok HOV.out, Keep.setRow (K3.out.trans hK0 (fun _ _ h => h)) (Or.inl (Nat.le_succ _)) _⟩
   | false =>
    rw [if_neg (by rw [hbs]; simp), Option.bind_eq_some_iff] at hfs1
    obtain ⟨s1, h4, h5⟩ := hfs1
    have g3 : decide (bestI s < 0) = true := by simpa using bestI_neg hbs
    have hbn : s.best = none := by cases hb : s.best with
     | none => rfl
     | some x => rw [hb] at hbs; cases hbs
    have hst : StOk ⟨T.toList, bd, st⟩ s := ⟨htr.out, fun q c hq => by rw [hbn] at hq; cases hq⟩
    have hsz : T.toList.length = T.size := HTL.out
    have i1 := (inv_all ⟨T.toList, bd, st⟩ k).1 _ _ _ _ _ h4 hst (one_ok HOK.out _ _) (by rw [hsz]; exact hle) (noC_ok _)
    have HY := Lib.hid (fun wx hx hy => qthr_any p T ⟨T.toList, bd, st⟩ rfl H1.out k [.node N] st noC s s1 (.pointer (some ⟨wr.heap.size, 0, none⟩)) wx h4 hst (one_ok HOK.out _ _) hle (noC_ok _) hx hy)
    rw [← zeroCaps] at HY
    have hLN : LiesP (Off p) wr N (.slice A N.l.length cap) := LiesP_keep HKr.out (fun _ _ h => h) (LiesP_mono (fun b _ _ _ hc => by have := cell_lt hc; have := HPW.out; show b ≠ p; omega) _ _ HLi.out)
    have PT : TodoAt (Off p) (wr.alloc (.cells #[.int .i64 N.h.k, .int .u8 N.h.c, .int .u64 N.h.s0, .int .u64 N.h.s1, .int .u64 N.h.s2, .int .u64 N.h.s3, .int .i64 N.h.n, .int .i64 N.h.mn, .int .i64 N.h.mx, .slice A N.l.length cap, .int .i64 0, .int .i64 0, .int .i64 0, .pointer none] 115)) [.node N] (.pointer (some ⟨wr.heap.size, 0, none⟩)) := TodoAt.push (p := p) (t := .node N) (r := []) (nx := .pointer none) lp hLN rfl
    have FA : QAt (wr.alloc (.cells #[.int .i64 N.h.k, .int .u8 N.h.c, .int .u64 N.h.s0, .int .u64 N.h.s1, .int .u64 N.h.s2, .int .u64 N.h.s3, .int .i64 N.h.n, .int .i64 N.h.mn, .int .i64 N.h.mx, .slice A N.l.length cap, .int .i64 0, .int .i64 0, .int .i64 0, .pointer none] 115)) p T ⟨T.toList, bd, st⟩ s := HF.out.alloc _
    have BA := HBr.out.alloc (.cells #[.int .i64 N.h.k, .int .u8 N.h.c, .int .u64 N.h.s0, .int .u64 N.h.s1, .int .u64 N.h.s2, .int .u64 N.h.s3, .int .i64 N.h.n, .int .i64 N.h.mn, .int .i64 N.h.mx, .slice A N.l.length cap, .int .i64 0, .int .i64 0, .int .i64 0, .pointer none] 115)
    have ZA := HZr.out.alloc (.cells #[.int .i64 N.h.k, .int .u8 N.h.c, .int .u64 N.h.s0, .int .u64 N.h.s1, .int .u64 N.h.s2, .int .u64 N.h.s3, .int .i64 N.h.n, .int .i64 N.h.mn, .int .i64 N.h.mx, .slice A N.l.length cap, .int .i64 0, .int .i64 0, .int .i64 0, .pointer none] 115)
    have KA : Keep Nb w (wr.alloc (.cells #[.int .i64 N.h.k, .int .u8 N.h.c, .int .u64 N.h.s0, .int .u64 N.h.s1, .int .u64 N.h.s2, .int .u64 N.h.s3, .int .i64 N.h.n, .int .i64 N.h.mn, .int .i64 N.h.mx, .slice A N.l.length cap, .int .i64 0, .int .i64 0, .int .i64 0, .pointer none] 115)) := Keep.alloc HKr.out _
    have PT := Lib.hid PT
    have FA := Lib.hid FA
    have BA := Lib.hid BA
    have ZA := Lib.hid ZA
    have KA := Lib.hid KA
    have I1 := Lib.hid i1.1.tries
    have HLE := Lib.hid hle
    have hBr := HBr.out
    (have y0 := Blk.cell hBr 0 (u := .int .i64 N.h.k) rfl; have y1 := Blk.cell hBr 1 (u := .int .u8 N.h.c) rfl; have y2 := Blk.cell hBr 2 (u := .int .u64 N.h.s0) rfl; have y3 := Blk.cell hBr 3 (u := .int .u64 N.h.s1) rfl; have y4 := Blk.cell hBr 4 (u := .int .u64 N.h.s2) rfl; have y5 := Blk.cell hBr 5 (u := .int .u64 N.h.s3) rfl; have y6 := Blk.cell hBr 6 (u := .int .i64 N.h.n) rfl; have y7 := Blk.cell hBr 7 (u := .int .i64 N.h.mn) rfl; have y8 := Blk.cell hBr 8 (u := .int .i64 N.h.mx) rfl; have y9 := Blk.cell hBr 9 (u := (.slice A N.l.length cap)) rfl)
    have ly := hBr.lt
    clear hfs hbs hbn hst hsz i1 h4 b1 hle hLN hBr
    go_wp2_with fail
    refine (HY.out _ FA.out PT.out).mono ?_
    rintro x z1 ⟨rfl, hz, hkz⟩
    have FZ := Lib.hid hz
    have BZ := Lib.hid (BA.out.keep hkz HPN.out)
    have ZZ := Lib.hid (ZA.out.keep hkz HPZ.out.symm)
    have KZ := Lib.hid (KA.out.trans hkz (fun b hb h => by have := HPW.out; simp only [Ob] at h; omega))
    have e26 := hz.cell 26 (u := .bool s1.over) rfl
    have lz := hz.lt
    clear hz hkz c3 lp PT FA BA ZA KA y0 y1 y2 y3 y4 y5 y6 y7 y8 y9 ly g3
    cases hov1 : s1.over with
    | true =>
     rw [if_pos hov1] at h5
     obtain rfl := Option.some.inj h5
     rw [hov1] at e26
     have HOV := Lib.hid hov1
     have HZ2 := ZZ
     have HK2 := KZ
     clear h5 hov1
     go_wp2_with (refine wpList_store_row rfl 53 (.tmp 8) (.tmp 62) rfl (w.heap.size + 1) _ rfl rfl 53 _ HZ2.out sizeRf rfl (by simp [Value.oneCell']) ?_)
     refine bodyPost_ret (results_ctt Try.results42 _ _ (w.heap.size + 1) 53 _ (0, 0) _ rfl (HZ2.out.setRow zeroFnd) Try.underlying53 rfl sizeRf) rfl ⟨findW_over HOV.out, Keep.setRow HK2.out (Or.inl (Nat.le_succ _)) _⟩
    | false =>
     rw [if_neg (by rw [hov1]; simp)] at h5
     rw [hov1] at e26
     have H5 := Lib.hid h5
     have HO1 := Lib.hid hov1
     have st3 : st ≤ 3000 := Nat.le_trans HLE.out (Nat.le_trans H1.out (by decide))
     have hw1 := (up_small st3).1
     have fz : QAt z1 p T ⟨T.toList, bd, st + 1⟩ s1 := FZ.out
     have FN := Lib.hid fz
     clear h5 hov1 fz st3
     go_wp2_with fail
     go_roundw
     case rel => exact ⟨st + 1, m, s1, by rw [hw1]; rfl, Lib.hid (step_sum hm.out), H5, I1, HO1, FN, BZ, ZZ, KZ⟩
     case measure => rw [hw1]; exact meas_up HLE.out
  ·have hm0 : m = 0 := by omega
   subst hm0
   have hfs1 := hfs.out
   rw [findS] at hfs1
   obtain rfl := Option.some.inj hfs1
   have g1 : decide ((st : Int) ≤ (T.size : Int)) = false := by simp; omega
   have g2 : decide (st ≤ T.size) = false := by simp; omega
   have HOV := hov
   clear hfs1 hfs b1 hle
   have b2 := HF.out
   have c2 := b2.cell 2 (u := .int .i64 (s.tries : Int)) rfl
   have f25 := b2.frozen 25
   have d25 := b2.cell 25 (u := .int .i64 0) rfl
   have l2 := b2.lt
   have B3 := Lib.hid (b2.set 25 (.int .i64 (s.tries : Int)))
   have K3 := Lib.hid (Keep.setCell (X := Nb) (a := w) (p := ⟨p, 25, none⟩) HKr.out (Or.inl HPW.out) (.int .i64 (s.tries : Int)))
   have Z3 := Lib.hid (HZr.out.setOther (p := ⟨p, 25, none⟩) HPZ.out (.int .i64 (s.tries : Int)))
   clear b2
   go_wp2_with fail
   generalize wr.setCell ⟨p, 25, none⟩ (.int .i64 (s.tries : Int)) = w3 at B3 K3 Z3 ⊢
   clear c2 f25 d25 l2
   have b3 := B3.out
   have e3 := b3.cell 3 (u := .int .i64 (bestI s)) rfl
   have l3 := b3.lt
   have rg : w3.rangeAt p 4 (fndL s) := by
    have := b3.range 4 22
    rw [qfnd_range] at this
    exact this
   have RG := Lib.hid rg
   have m9 : decide ((0 : Int) ≤ bestI s) = s.best.isSome := bestI_some s
   clear b3 rg
   (refine wp_region_f [10, 11] (InX (Ob (w.heap.size + 1)) _) (by kernel_rfl) (InX.mk (Keep.drew (Keep.refl _ _))) (fun hI => ?_))
   have xx : ¬ Ob (w.heap.size + 1) p := fun h => HPZ.out h
   have hK0 : Keep Nb w3 w3.drew := (Keep.refl _ _).drew
   have rX := RG.out
   have zX := Z3.out.drew
   generalize hx0 : w3.drew = x0 at hK0 hI zX ⊢
   have rX : x0.rangeAt p 4 (fndL s) := by rw [← hx0]; exact (World.rangeAt_drew _ _ _ _).2 RG.out
   clear hx0
   (refine wpI_from 0 ?_; (iterate 3 ((first | (refine wpI_take (v := ?_) rfl (by kernel_rfl) (fun _ _ _ h => h) hI rfl ?_ ?_; rotate_left; (focus (rintro _ ⟨E, rfl⟩; go_simp; (try with_reducible rfl)))) | refine wpI_skip rfl (by kernel_rfl) (fun _ _ _ h => h) hI rfl ?_); simp only [Act.put, tk, Nat.reduceAdd])); refine wpI_till ?_)
   (refine wpI_from 4 ?_; (iterate 5 ((first | (refine wpI_take (v := ?_) rfl (by kernel_rfl) (fun _ _ _ h => h) hI rfl ?_ ?_; rotate_left; (focus (rintro _ ⟨E, rfl⟩; go_simp; (try with_reducible rfl)))) | refine wpI_skip rfl (by kernel_rfl) (fun _ _ _ h => h) hI rfl ?_); simp only [Act.put, tk, Nat.reduceAdd])); refine wpI_till ?_)
   (refine wpF_one 3 rfl (by kernel_rfl) rfl (fun K hK => ?_))
   refine wp_load_mid 53 (.tmp 73) rfl p 4 rfl (fndL s) _ rX Try.underlying53 rfl (by kernel_rfl) ?_
   (refine hK _ _ (fun _ => InX.mk (hK0.mono (fun _ _ h => h.elim))) (fun hI => ?_); have hI := hI (by simp); clear hK K; try simp only [Act.put, tk])
   (refine wpF_one 9 rfl (by kernel_rfl) rfl (fun K hK => ?_))
   refine wp_store_row 53 (.tmp 8) (.tmp 74) rfl (w.heap.size + 1) _ rfl rfl 53 _ zX sizeRf rfl (all_oneCell_toArray (fnd_one s)) ?_
   (refine hK _ _ (fun _ => InX.mk (Keep.setRow (X := Ob (w.heap.size + 1)) (hK0.mono (fun _ _ h => h.elim)) (Or.inr rfl) _)) (fun hI => ?_); have hI := hI (by simp); clear hK K; try simp only [Act.put, tk])
   (refine wpF_one 10 rfl (by kernel_rfl) rfl (fun K hK => ?_))
   go_simp
   (refine hK _ _ (fun h => absurd (by simp) h) (fun _ => ?_); clear hK K; try simp only [Act.put, tk])
   (refine wpF_one 11 rfl (by kernel_rfl) rfl (fun K hK => ?_))
   go_simp
   (refine hK _ _ (fun h => absurd (by simp) h) (fun _ => ?_); clear hK K; try simp only [Act.put, tk])
   (refine wpF_done (by kernel_rfl) ?_ _)
   go_wp2_with fail
   refine bodyPost_ret (results_ctt Try.results42 _ _ (w.heap.size + 1) 53 _ (0, 0) _ rfl (zX.setRow (fndL s).toArray) Try.underlying53 rfl sizeRf) rfl ⟨findW_ok HOV.out, Keep.setRow (K3.out.trans hK0 (fun _ _ h => h)) (Or.inl (Nat.le_succ _)) _⟩
theorem rfind_any (N : Nd) (hcn : count N ≤ 900000) (A : Option Addr) (cap : Nat) (T : ByteArray) (a : Int) (bd : Bool) (w : World) (hl : Lies w N (.slice A N.l.length cap)) :
  Calls Try.prog 42 #[.agg (Nd.row N (.slice A N.l.length cap)), .string T, .int .i64 a, .bool bd] w fun x w' => x = .returned (findV N T a bd) ∧ Keep Nb w w' := by
 by_cases hf : formedT N = true
 ·by_cases h1 : T.size ≤ 600
  ·by_cases h2 : 0 ≤ a
   ·by_cases h3 : a ≤ T.size
    ·rw [findV, dif_pos ⟨hf, h1, h2, h3⟩]
     obtain ⟨b, rfl⟩ : ∃ b : Nat, a = b := ⟨a.toNat, by omega⟩
     obtain ⟨k, hk⟩ := found_spec T.toList bd N (formed_ok hf) b
     rw [toList_len T] at hk
     exact rfind_seek N hcn A cap T b bd w hl hf h1 (by omega) k _ hk
    ·rw [findV, dif_neg (fun h => h3 h.2.2.2)]
     exact rfind_far N hcn A cap T a bd w hl hf h1 (by omega) (by omega)
   ·rw [findV, dif_neg (fun h => h2 h.2.2.1)]
    exact rfind_neg N hcn A cap T a bd w hl hf h1 (by omega)
  ·rw [findV, dif_neg (fun h => h1 h.2.1)]
   exact rfind_long N hcn A cap T a bd w hl hf (by omega)
 ·rw [findV, dif_neg (fun h => hf h.1)]
  exact rfind_shape N hcn A cap T a bd w hl (by simpa using hf)
end Go.Proofs.Ytkidjbfapldmbaa
