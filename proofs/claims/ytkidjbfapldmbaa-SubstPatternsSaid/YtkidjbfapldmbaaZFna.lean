import Derived.Test.YtkidjbfapldmbaaZFndS
import Derived.Laws.Rows
import Derived.Deep.DeepCutAuto
import Derived.Test.YtkidjbfapldmbaaZTheirs
set_option linter.unusedVariables false
set_option linter.unusedSimpArgs false
namespace Go.Proofs.Ytkidjbfapldmbaa
open Go.RowKit P8
theorem results_ctt {P : Program} {fn : Func} {p u v : Tmp} {ty : TypeId} (h : fn.results = #[.cell p ty, .tmp u, .tmp v]) (tmps : Array Value) (w : World) (g : Nat) (tt : TypeId) (cs : Array Value) (fr : Nat × Nat) (d : TypeDesc)
  (hp : tmps.getD p undef = .pointer (some ⟨g, 0, none⟩)) (hg : w.heap[g]? = some (.cells cs tt fr))
  (hu : P.underlying ty = some d) (hd : (match d with | .struct _ | .array _ _ => true | _ => false) = true) (hi : (P.info? ty).map (·.size) = some cs.size) :
  (results fn tmps).run P w = .ok (.tuple #[.agg cs, tmps.getD u undef, tmps.getD v undef]) w := by
 have e1 : Sem.run P (asAddr (tmps[p]?.getD undef)) w = .ok ⟨g, 0, none⟩ w := by rw [← Array.getD_eq_getD_getElem?, hp]; rfl
 have e2 := run_loadVar_row w g tt ty cs fr d hg hu hd hi
 simp only [results, h]
 simp [Sem.run_bind, Result.andThen, e1, e2]
theorem sizeFo : (Try.prog.info? 49).map (·.size) = some 22 := by kernel_rfl
def fndL (s : St) : List Value := [grpV (bestC s 0), grpV (bestC s 0), grpV (bestC s 1), grpV (bestC s 2), grpV (bestC s 3), grpV (bestC s 4), grpV (bestC s 5), grpV (bestC s 6), grpV (bestC s 7), grpV (bestC s 8), grpV (bestC s 9), hasV (bestC s 0), hasV (bestC s 1), hasV (bestC s 2), hasV (bestC s 3), hasV (bestC s 4), hasV (bestC s 5), hasV (bestC s 6), hasV (bestC s 7), hasV (bestC s 8), hasV (bestC s 9), .int .i64 (s.tries : Int)]
def zeroFnd : Array Value := #[.complex .f64 0 0, .complex .f64 0 0, .complex .f64 0 0, .complex .f64 0 0, .complex .f64 0 0, .complex .f64 0 0, .complex .f64 0 0, .complex .f64 0 0, .complex .f64 0 0, .complex .f64 0 0, .complex .f64 0 0, .bool false, .bool false, .bool false, .bool false, .bool false, .bool false, .bool false, .bool false, .bool false, .bool false, .int .i64 0]
theorem fnd_one (s : St) : ∀ v ∈ fndL s, v.oneCell' = true := by
 simp only [fndL, List.forall_mem_cons]
 exact ⟨grpV_one _, grpV_one _, grpV_one _, grpV_one _, grpV_one _, grpV_one _, grpV_one _, grpV_one _, grpV_one _, grpV_one _, grpV_one _, rfl, rfl, rfl, rfl, rfl, rfl, rfl, rfl, rfl, rfl, rfl, fun _ h => by cases h⟩
set_option maxRecDepth 100000 in
set_option maxHeartbeats 1000000 in
theorem find_shape (N : Nd) (hcn : count N ≤ 900000) (A : Option Addr) (cap : Nat) (T : ByteArray) (a : Int) (bd : Bool) (w : World) (hl : Lies w N (.slice A N.l.length cap)) (hf : formedT N = false) : Calls Try.prog 41 #[.agg (Nd.row N (.slice A N.l.length cap)), .string T, .int .i64 a, .bool bd] w fun x w' => x = .returned (.tuple #[.agg zeroFnd, .bool false, .int .i64 1]) ∧ Keep Nb w w' := by
 have HFM := Lib.hid (fun wx hx => formed_any N hcn (.slice A N.l.length cap) wx hx)
 have HLi := Lib.hid hl
 rw [hf] at HFM
 clear hcn hl
 simp only [Nd.row] at HFM ⊢
 go_enter Try.func41, Try.ntmps41
 go_wp2_with fail
 have b0 : Blk ((w.alloc (.cells #[.int .i64 N.h.k, .int .u8 N.h.c, .int .u64 N.h.s0, .int .u64 N.h.s1, .int .u64 N.h.s2, .int .u64 N.h.s3, .int .i64 N.h.n, .int .i64 N.h.mn, .int .i64 N.h.mx, .slice A N.l.length cap] 33)).alloc (.cells #[.complex .f64 0 0, .complex .f64 0 0, .complex .f64 0 0, .complex .f64 0 0, .complex .f64 0 0, .complex .f64 0 0, .complex .f64 0 0, .complex .f64 0 0, .complex .f64 0 0, .complex .f64 0 0, .complex .f64 0 0, .bool false, .bool false, .bool false, .bool false, .bool false, .bool false, .bool false, .bool false, .bool false, .bool false, .int .i64 0] 49)) w.heap.size #[.int .i64 N.h.k, .int .u8 N.h.c, .int .u64 N.h.s0, .int .u64 N.h.s1, .int .u64 N.h.s2, .int .u64 N.h.s3, .int .i64 N.h.n, .int .i64 N.h.mn, .int .i64 N.h.mx, .slice A N.l.length cap] 33 := (Blk.new w _ _).alloc _
 have z0 : Blk ((w.alloc (.cells #[.int .i64 N.h.k, .int .u8 N.h.c, .int .u64 N.h.s0, .int .u64 N.h.s1, .int .u64 N.h.s2, .int .u64 N.h.s3, .int .i64 N.h.n, .int .i64 N.h.mn, .int .i64 N.h.mx, .slice A N.l.length cap] 33)).alloc (.cells #[.complex .f64 0 0, .complex .f64 0 0, .complex .f64 0 0, .complex .f64 0 0, .complex .f64 0 0, .complex .f64 0 0, .complex .f64 0 0, .complex .f64 0 0, .complex .f64 0 0, .complex .f64 0 0, .complex .f64 0 0, .bool false, .bool false, .bool false, .bool false, .bool false, .bool false, .bool false, .bool false, .bool false, .bool false, .int .i64 0] 49)) (w.heap.size + 1) zeroFnd 49 := Blk.new' (by simp) _ _
 have k0 : Keep Nb w ((w.alloc (.cells #[.int .i64 N.h.k, .int .u8 N.h.c, .int .u64 N.h.s0, .int .u64 N.h.s1, .int .u64 N.h.s2, .int .u64 N.h.s3, .int .i64 N.h.n, .int .i64 N.h.mn, .int .i64 N.h.mx, .slice A N.l.length cap] 33)).alloc (.cells #[.complex .f64 0 0, .complex .f64 0 0, .complex .f64 0 0, .complex .f64 0 0, .complex .f64 0 0, .complex .f64 0 0, .complex .f64 0 0, .complex .f64 0 0, .complex .f64 0 0, .complex .f64 0 0, .complex .f64 0 0, .bool false, .bool false, .bool false, .bool false, .bool false, .bool false, .bool false, .bool false, .bool false, .bool false, .int .i64 0] 49)) := Keep.alloc (Keep.alloc (Keep.refl _ _) _) _
 generalize ((w.alloc (.cells #[.int .i64 N.h.k, .int .u8 N.h.c, .int .u64 N.h.s0, .int .u64 N.h.s1, .int .u64 N.h.s2, .int .u64 N.h.s3, .int .i64 N.h.n, .int .i64 N.h.mn, .int .i64 N.h.mx, .slice A N.l.length cap] 33)).alloc (.cells #[.complex .f64 0 0, .complex .f64 0 0, .complex .f64 0 0, .complex .f64 0 0, .complex .f64 0 0, .complex .f64 0 0, .complex .f64 0 0, .complex .f64 0 0, .complex .f64 0 0, .complex .f64 0 0, .complex .f64 0 0, .bool false, .bool false, .bool false, .bool false, .bool false, .bool false, .bool false, .bool false, .bool false, .bool false, .int .i64 0] 49)) = w0 at b0 z0 k0 ⊢
 refine (HFM.out _ (Lies_keep k0 HLi.out)).mono ?_
 rintro x w1 ⟨rfl, hkn⟩
 have HB := Lib.hid (b0.keep hkn id)
 have HZ := Lib.hid (z0.keep hkn id)
 have HK := Lib.hid (k0.trans hkn (fun _ _ h => h))
 clear b0 z0 k0 hkn
 go_wp2_with (refine wpList_store_row rfl 49 (.tmp 8) (.tmp 30) rfl (w.heap.size + 1) _ rfl rfl 49 _ HZ.out sizeFo rfl (by simp [Value.oneCell']) ?_)
 refine bodyPost_ret (results_ctt Try.results41 _ _ (w.heap.size + 1) 49 _ (0, 0) _ rfl (HZ.out.setRow zeroFnd) Try.underlying49 rfl sizeFo) rfl ⟨rfl, Keep.setRow HK.out (Or.inl (Nat.le_succ _)) _⟩
set_option maxRecDepth 100000 in
set_option maxHeartbeats 1000000 in
theorem find_long (N : Nd) (hcn : count N ≤ 900000) (A : Option Addr) (cap : Nat) (T : ByteArray) (a : Int) (bd : Bool) (w : World) (hl : Lies w N (.slice A N.l.length cap)) (hf : formedT N = true) (h1 : 600 < T.size) : Calls Try.prog 41 #[.agg (Nd.row N (.slice A N.l.length cap)), .string T, .int .i64 a, .bool bd] w fun x w' => x = .returned (.tuple #[.agg zeroFnd, .bool false, .int .i64 1]) ∧ Keep Nb w w' := by
 have HFM := Lib.hid (fun wx hx => formed_any N hcn (.slice A N.l.length cap) wx hx)
 have HLi := Lib.hid hl
 rw [hf] at HFM
 have m1 : decide (600 < (T.size : Int)) = true := by simp; omega
 clear h1 hf
 clear hcn hl
 simp only [Nd.row] at HFM ⊢
 go_enter Try.func41, Try.ntmps41
 go_wp2_with fail
 have b0 : Blk ((w.alloc (.cells #[.int .i64 N.h.k, .int .u8 N.h.c, .int .u64 N.h.s0, .int .u64 N.h.s1, .int .u64 N.h.s2, .int .u64 N.h.s3, .int .i64 N.h.n, .int .i64 N.h.mn, .int .i64 N.h.mx, .slice A N.l.length cap] 33)).alloc (.cells #[.complex .f64 0 0, .complex .f64 0 0, .complex .f64 0 0, .complex .f64 0 0, .complex .f64 0 0, .complex .f64 0 0, .complex .f64 0 0, .complex .f64 0 0, .complex .f64 0 0, .complex .f64 0 0, .complex .f64 0 0, .bool false, .bool false, .bool false, .bool false, .bool false, .bool false, .bool false, .bool false, .bool false, .bool false, .int .i64 0] 49)) w.heap.size #[.int .i64 N.h.k, .int .u8 N.h.c, .int .u64 N.h.s0, .int .u64 N.h.s1, .int .u64 N.h.s2, .int .u64 N.h.s3, .int .i64 N.h.n, .int .i64 N.h.mn, .int .i64 N.h.mx, .slice A N.l.length cap] 33 := (Blk.new w _ _).alloc _
 have z0 : Blk ((w.alloc (.cells #[.int .i64 N.h.k, .int .u8 N.h.c, .int .u64 N.h.s0, .int .u64 N.h.s1, .int .u64 N.h.s2, .int .u64 N.h.s3, .int .i64 N.h.n, .int .i64 N.h.mn, .int .i64 N.h.mx, .slice A N.l.length cap] 33)).alloc (.cells #[.complex .f64 0 0, .complex .f64 0 0, .complex .f64 0 0, .complex .f64 0 0, .complex .f64 0 0, .complex .f64 0 0, .complex .f64 0 0, .complex .f64 0 0, .complex .f64 0 0, .complex .f64 0 0, .complex .f64 0 0, .bool false, .bool false, .bool false, .bool false, .bool false, .bool false, .bool false, .bool false, .bool false, .bool false, .int .i64 0] 49)) (w.heap.size + 1) zeroFnd 49 := Blk.new' (by simp) _ _
 have k0 : Keep Nb w ((w.alloc (.cells #[.int .i64 N.h.k, .int .u8 N.h.c, .int .u64 N.h.s0, .int .u64 N.h.s1, .int .u64 N.h.s2, .int .u64 N.h.s3, .int .i64 N.h.n, .int .i64 N.h.mn, .int .i64 N.h.mx, .slice A N.l.length cap] 33)).alloc (.cells #[.complex .f64 0 0, .complex .f64 0 0, .complex .f64 0 0, .complex .f64 0 0, .complex .f64 0 0, .complex .f64 0 0, .complex .f64 0 0, .complex .f64 0 0, .complex .f64 0 0, .complex .f64 0 0, .complex .f64 0 0, .bool false, .bool false, .bool false, .bool false, .bool false, .bool false, .bool false, .bool false, .bool false, .bool false, .int .i64 0] 49)) := Keep.alloc (Keep.alloc (Keep.refl _ _) _) _
 generalize ((w.alloc (.cells #[.int .i64 N.h.k, .int .u8 N.h.c, .int .u64 N.h.s0, .int .u64 N.h.s1, .int .u64 N.h.s2, .int .u64 N.h.s3, .int .i64 N.h.n, .int .i64 N.h.mn, .int .i64 N.h.mx, .slice A N.l.length cap] 33)).alloc (.cells #[.complex .f64 0 0, .complex .f64 0 0, .complex .f64 0 0, .complex .f64 0 0, .complex .f64 0 0, .complex .f64 0 0, .complex .f64 0 0, .complex .f64 0 0, .complex .f64 0 0, .complex .f64 0 0, .complex .f64 0 0, .bool false, .bool false, .bool false, .bool false, .bool false, .bool false, .bool false, .bool false, .bool false, .bool false, .int .i64 0] 49)) = w0 at b0 z0 k0 ⊢
 refine (HFM.out _ (Lies_keep k0 HLi.out)).mono ?_
 rintro x w1 ⟨rfl, hkn⟩
 have HB := Lib.hid (b0.keep hkn id)
 have HZ := Lib.hid (z0.keep hkn id)
 have HK := Lib.hid (k0.trans hkn (fun _ _ h => h))
 clear b0 z0 k0 hkn
 go_wp2_with (refine wpList_store_row rfl 49 (.tmp 8) (.tmp 30) rfl (w.heap.size + 1) _ rfl rfl 49 _ HZ.out sizeFo rfl (by simp [Value.oneCell']) ?_)
 refine bodyPost_ret (results_ctt Try.results41 _ _ (w.heap.size + 1) 49 _ (0, 0) _ rfl (HZ.out.setRow zeroFnd) Try.underlying49 rfl sizeFo) rfl ⟨rfl, Keep.setRow HK.out (Or.inl (Nat.le_succ _)) _⟩
set_option maxRecDepth 100000 in
set_option maxHeartbeats 1000000 in
theorem find_neg (N : Nd) (hcn : count N ≤ 900000) (A : Option Addr) (cap : Nat) (T : ByteArray) (a : Int) (bd : Bool) (w : World) (hl : Lies w N (.slice A N.l.length cap)) (hf : formedT N = true) (h1 : T.size ≤ 600) (h2 : a < 0) : Calls Try.prog 41 #[.agg (Nd.row N (.slice A N.l.length cap)), .string T, .int .i64 a, .bool bd] w fun x w' => x = .returned (.tuple #[.agg zeroFnd, .bool false, .int .i64 1]) ∧ Keep Nb w w' := by
 have HFM := Lib.hid (fun wx hx => formed_any N hcn (.slice A N.l.length cap) wx hx)
 have HLi := Lib.hid hl
 rw [hf] at HFM
 have m1 : decide (600 < (T.size : Int)) = false := by simp; omega
 have m2 : decide (a < 0) = true := by simpa using h2
 clear h1 hf h2
 clear hcn hl
 simp only [Nd.row] at HFM ⊢
 go_enter Try.func41, Try.ntmps41
 go_wp2_with fail
 have b0 : Blk ((w.alloc (.cells #[.int .i64 N.h.k, .int .u8 N.h.c, .int .u64 N.h.s0, .int .u64 N.h.s1, .int .u64 N.h.s2, .int .u64 N.h.s3, .int .i64 N.h.n, .int .i64 N.h.mn, .int .i64 N.h.mx, .slice A N.l.length cap] 33)).alloc (.cells #[.complex .f64 0 0, .complex .f64 0 0, .complex .f64 0 0, .complex .f64 0 0, .complex .f64 0 0, .complex .f64 0 0, .complex .f64 0 0, .complex .f64 0 0, .complex .f64 0 0, .complex .f64 0 0, .complex .f64 0 0, .bool false, .bool false, .bool false, .bool false, .bool false, .bool false, .bool false, .bool false, .bool false, .bool false, .int .i64 0] 49)) w.heap.size #[.int .i64 N.h.k, .int .u8 N.h.c, .int .u64 N.h.s0, .int .u64 N.h.s1, .int .u64 N.h.s2, .int .u64 N.h.s3, .int .i64 N.h.n, .int .i64 N.h.mn, .int .i64 N.h.mx, .slice A N.l.length cap] 33 := (Blk.new w _ _).alloc _
 have z0 : Blk ((w.alloc (.cells #[.int .i64 N.h.k, .int .u8 N.h.c, .int .u64 N.h.s0, .int .u64 N.h.s1, .int .u64 N.h.s2, .int .u64 N.h.s3, .int .i64 N.h.n, .int .i64 N.h.mn, .int .i64 N.h.mx, .slice A N.l.length cap] 33)).alloc (.cells #[.complex .f64 0 0, .complex .f64 0 0, .complex .f64 0 0, .complex .f64 0 0, .complex .f64 0 0, .complex .f64 0 0, .complex .f64 0 0, .complex .f64 0 0, .complex .f64 0 0, .complex .f64 0 0, .complex .f64 0 0, .bool false, .bool false, .bool false, .bool false, .bool false, .bool false, .bool false, .bool false, .bool false, .bool false, .int .i64 0] 49)) (w.heap.size + 1) zeroFnd 49 := Blk.new' (by simp) _ _
 have k0 : Keep Nb w ((w.alloc (.cells #[.int .i64 N.h.k, .int .u8 N.h.c, .int .u64 N.h.s0, .int .u64 N.h.s1, .int .u64 N.h.s2, .int .u64 N.h.s3, .int .i64 N.h.n, .int .i64 N.h.mn, .int .i64 N.h.mx, .slice A N.l.length cap] 33)).alloc (.cells #[.complex .f64 0 0, .complex .f64 0 0, .complex .f64 0 0, .complex .f64 0 0, .complex .f64 0 0, .complex .f64 0 0, .complex .f64 0 0, .complex .f64 0 0, .complex .f64 0 0, .complex .f64 0 0, .complex .f64 0 0, .bool false, .bool false, .bool false, .bool false, .bool false, .bool false, .bool false, .bool false, .bool false, .bool false, .int .i64 0] 49)) := Keep.alloc (Keep.alloc (Keep.refl _ _) _) _
 generalize ((w.alloc (.cells #[.int .i64 N.h.k, .int .u8 N.h.c, .int .u64 N.h.s0, .int .u64 N.h.s1, .int .u64 N.h.s2, .int .u64 N.h.s3, .int .i64 N.h.n, .int .i64 N.h.mn, .int .i64 N.h.mx, .slice A N.l.length cap] 33)).alloc (.cells #[.complex .f64 0 0, .complex .f64 0 0, .complex .f64 0 0, .complex .f64 0 0, .complex .f64 0 0, .complex .f64 0 0, .complex .f64 0 0, .complex .f64 0 0, .complex .f64 0 0, .complex .f64 0 0, .complex .f64 0 0, .bool false, .bool false, .bool false, .bool false, .bool false, .bool false, .bool false, .bool false, .bool false, .bool false, .int .i64 0] 49)) = w0 at b0 z0 k0 ⊢
 refine (HFM.out _ (Lies_keep k0 HLi.out)).mono ?_
 rintro x w1 ⟨rfl, hkn⟩
 have HB := Lib.hid (b0.keep hkn id)
 have HZ := Lib.hid (z0.keep hkn id)
 have HK := Lib.hid (k0.trans hkn (fun _ _ h => h))
 clear b0 z0 k0 hkn
 go_wp2_with (refine wpList_store_row rfl 49 (.tmp 8) (.tmp 30) rfl (w.heap.size + 1) _ rfl rfl 49 _ HZ.out sizeFo rfl (by simp [Value.oneCell']) ?_)
 refine bodyPost_ret (results_ctt Try.results41 _ _ (w.heap.size + 1) 49 _ (0, 0) _ rfl (HZ.out.setRow zeroFnd) Try.underlying49 rfl sizeFo) rfl ⟨rfl, Keep.setRow HK.out (Or.inl (Nat.le_succ _)) _⟩
set_option maxRecDepth 100000 in
set_option maxHeartbeats 1000000 in
theorem find_far (N : Nd) (hcn : count N ≤ 900000) (A : Option Addr) (cap : Nat) (T : ByteArray) (a : Int) (bd : Bool) (w : World) (hl : Lies w N (.slice A N.l.length cap)) (hf : formedT N = true) (h1 : T.size ≤ 600) (h2 : ¬ a < 0) (h3 : (T.size : Int) < a) : Calls Try.prog 41 #[.agg (Nd.row N (.slice A N.l.length cap)), .string T, .int .i64 a, .bool bd] w fun x w' => x = .returned (.tuple #[.agg zeroFnd, .bool false, .int .i64 1]) ∧ Keep Nb w w' := by
 have HFM := Lib.hid (fun wx hx => formed_any N hcn (.slice A N.l.length cap) wx hx)
 have HLi := Lib.hid hl
 rw [hf] at HFM
 have m1 : decide (600 < (T.size : Int)) = false := by simp; omega
 have m2 : decide (a < 0) = false := by simpa using h2
 have m3 : decide ((T.size : Int) < a) = true := by simpa using h3
 clear h1 hf h2 h3
 clear hcn hl
 simp only [Nd.row] at HFM ⊢
 go_enter Try.func41, Try.ntmps41
 go_wp2_with fail
 have b0 : Blk ((w.alloc (.cells #[.int .i64 N.h.k, .int .u8 N.h.c, .int .u64 N.h.s0, .int .u64 N.h.s1, .int .u64 N.h.s2, .int .u64 N.h.s3, .int .i64 N.h.n, .int .i64 N.h.mn, .int .i64 N.h.mx, .slice A N.l.length cap] 33)).alloc (.cells #[.complex .f64 0 0, .complex .f64 0 0, .complex .f64 0 0, .complex .f64 0 0, .complex .f64 0 0, .complex .f64 0 0, .complex .f64 0 0, .complex .f64 0 0, .complex .f64 0 0, .complex .f64 0 0, .complex .f64 0 0, .bool false, .bool false, .bool false, .bool false, .bool false, .bool false, .bool false, .bool false, .bool false, .bool false, .int .i64 0] 49)) w.heap.size #[.int .i64 N.h.k, .int .u8 N.h.c, .int .u64 N.h.s0, .int .u64 N.h.s1, .int .u64 N.h.s2, .int .u64 N.h.s3, .int .i64 N.h.n, .int .i64 N.h.mn, .int .i64 N.h.mx, .slice A N.l.length cap] 33 := (Blk.new w _ _).alloc _
 have z0 : Blk ((w.alloc (.cells #[.int .i64 N.h.k, .int .u8 N.h.c, .int .u64 N.h.s0, .int .u64 N.h.s1, .int .u64 N.h.s2, .int .u64 N.h.s3, .int .i64 N.h.n, .int .i64 N.h.mn, .int .i64 N.h.mx, .slice A N.l.length cap] 33)).alloc (.cells #[.complex .f64 0 0, .complex .f64 0 0, .complex .f64 0 0, .complex .f64 0 0, .complex .f64 0 0, .complex .f64 0 0, .complex .f64 0 0, .complex .f64 0 0, .complex .f64 0 0, .complex .f64 0 0, .complex .f64 0 0, .bool false, .bool false, .bool false, .bool false, .bool false, .bool false, .bool false, .bool false, .bool false, .bool false, .int .i64 0] 49)) (w.heap.size + 1) zeroFnd 49 := Blk.new' (by simp) _ _
 have k0 : Keep Nb w ((w.alloc (.cells #[.int .i64 N.h.k, .int .u8 N.h.c, .int .u64 N.h.s0, .int .u64 N.h.s1, .int .u64 N.h.s2, .int .u64 N.h.s3, .int .i64 N.h.n, .int .i64 N.h.mn, .int .i64 N.h.mx, .slice A N.l.length cap] 33)).alloc (.cells #[.complex .f64 0 0, .complex .f64 0 0, .complex .f64 0 0, .complex .f64 0 0, .complex .f64 0 0, .complex .f64 0 0, .complex .f64 0 0, .complex .f64 0 0, .complex .f64 0 0, .complex .f64 0 0, .complex .f64 0 0, .bool false, .bool false, .bool false, .bool false, .bool false, .bool false, .bool false, .bool false, .bool false, .bool false, .int .i64 0] 49)) := Keep.alloc (Keep.alloc (Keep.refl _ _) _) _
 generalize ((w.alloc (.cells #[.int .i64 N.h.k, .int .u8 N.h.c, .int .u64 N.h.s0, .int .u64 N.h.s1, .int .u64 N.h.s2, .int .u64 N.h.s3, .int .i64 N.h.n, .int .i64 N.h.mn, .int .i64 N.h.mx, .slice A N.l.length cap] 33)).alloc (.cells #[.complex .f64 0 0, .complex .f64 0 0, .complex .f64 0 0, .complex .f64 0 0, .complex .f64 0 0, .complex .f64 0 0, .complex .f64 0 0, .complex .f64 0 0, .complex .f64 0 0, .complex .f64 0 0, .complex .f64 0 0, .bool false, .bool false, .bool false, .bool false, .bool false, .bool false, .bool false, .bool false, .bool false, .bool false, .int .i64 0] 49)) = w0 at b0 z0 k0 ⊢
 refine (HFM.out _ (Lies_keep k0 HLi.out)).mono ?_
 rintro x w1 ⟨rfl, hkn⟩
 have HB := Lib.hid (b0.keep hkn id)
 have HZ := Lib.hid (z0.keep hkn id)
 have HK := Lib.hid (k0.trans hkn (fun _ _ h => h))
 clear b0 z0 k0 hkn
 go_wp2_with (refine wpList_store_row rfl 49 (.tmp 8) (.tmp 30) rfl (w.heap.size + 1) _ rfl rfl 49 _ HZ.out sizeFo rfl (by simp [Value.oneCell']) ?_)
 refine bodyPost_ret (results_ctt Try.results41 _ _ (w.heap.size + 1) 49 _ (0, 0) _ rfl (HZ.out.setRow zeroFnd) Try.underlying49 rfl sizeFo) rfl ⟨rfl, Keep.setRow HK.out (Or.inl (Nat.le_succ _)) _⟩
def findW (s : St) : Value := if s.over = true then .tuple #[.agg zeroFnd, .bool false, .int .i64 12] else .tuple #[.agg (fndL s).toArray, .bool s.best.isSome, .int .i64 0]
theorem findW_over {s : St} (h : s.over = true) : Ending.returned (.tuple #[.agg zeroFnd, .bool false, .int .i64 12]) = .returned (findW s) := by rw [findW, if_pos h]
theorem findW_ok {s : St} (h : s.over = false) : Ending.returned (.tuple #[.agg (fndL s).toArray, .bool s.best.isSome, .int .i64 0]) = .returned (findW s) := by rw [findW, if_neg (by rw [h]; simp)]
theorem fnd_range (T : ByteArray) (e : Env) (s : St) (c : Caps) : ((((fRow T e s c).setIfInBounds 27 (.int .i64 (s.tries : Int))).toList.drop 6).take 22) = fndL s := by
 simp [fRow, fndL]
theorem start_up (T : ByteArray) (L : List UInt8) (bd : Bool) (a : Nat) (s : St) (c : Caps) : (fRow T ⟨L, bd, a⟩ s c).setIfInBounds 4 (.int .i64 ((a : Int) + 1)) = fRow T ⟨L, bd, a + 1⟩ s c := by
 simp [fRow]
theorem start_at (T : ByteArray) (L : List UInt8) (bd : Bool) (a : Nat) : (#[.string T, .bool bd, .int .i64 0, .bool false, .int .i64 (a : Int), .bool false, .complex .f64 0 0, .complex .f64 0 0, .complex .f64 0 0, .complex .f64 0 0, .complex .f64 0 0, .complex .f64 0 0, .complex .f64 0 0, .complex .f64 0 0, .complex .f64 0 0, .complex .f64 0 0, .complex .f64 0 0, .bool false, .bool false, .bool false, .bool false, .bool false, .bool false, .bool false, .bool false, .bool false, .bool false, .int .i64 0, .complex .f64 0 0, .complex .f64 0 0, .complex .f64 0 0, .complex .f64 0 0, .complex .f64 0 0, .complex .f64 0 0, .complex .f64 0 0, .complex .f64 0 0, .complex .f64 0 0, .complex .f64 0 0, .complex .f64 0 0, .bool false, .bool false, .bool false, .bool false, .bool false, .bool false, .bool false, .bool false, .bool false, .bool false, .int .i64 0] : Array Value) = fRow T ⟨L, bd, a⟩ ⟨0, false, none⟩ noC := by
 simp [fRow, bestC, grpV, hasV, noC]
theorem Blk.cong {w : World} {b : Nat} {cs cs' : Array Value} {t : TypeId} (h : Blk w b cs t) (e : cs = cs') : Blk w b cs' t := e ▸ h
def startM (n p : Nat) (w : World) : Nat := match w.cell? ⟨p, 4, none⟩ with
 | some (.int _ i) => n + 1 - i.toNat
 | _ => 0
theorem startM_at {n p : Nat} {T : ByteArray} {e : Env} {s : St} {c : Caps} {w : World} (h : FAt w p T e s c) : startM n p w = n + 1 - e.start := by
 unfold startM
 rw [Blk.cell h 4 (u := .int .i64 (e.start : Int)) rfl]
 simp
set_option maxRecDepth 100000 in
set_option maxHeartbeats 4000000 in
theorem find_seek (N : Nd) (hcn : count N ≤ 900000) (A : Option Addr) (cap : Nat) (T : ByteArray) (a : Nat) (bd : Bool) (w : World) (hl : Lies w N (.slice A N.l.length cap))
  (hf : formedT N = true) (h1 : T.size ≤ 600) (h3 : a ≤ T.size) (k : Nat) (S : St) (hS : findS k T.toList bd N (T.size + 1 - a) a ⟨0, false, none⟩ = some S) :
  Calls Try.prog 41 #[.agg (Nd.row N (.slice A N.l.length cap)), .string T, .int .i64 (a : Int), .bool bd] w fun x w' => x = .returned (findW S) ∧ Keep Nb w w' := by
 have hok := formed_ok hf
 have HFM := Lib.hid (fun wx hx => formed_any N hcn (.slice A N.l.length cap) wx hx)
 rw [hf] at HFM
 have m1 : decide (600 < (T.size : Int)) = false := by simp; omega
 have m2 : decide ((a : Int) < 0) = false := by simp
 have m3 : decide ((T.size : Int) < (a : Int)) = false := by simp; omega
 have m4 : decide (T.size < a) = false := by simp; omega
 have HLi := Lib.hid hl
 have HS := Lib.hid hS
 have HOK := Lib.hid hok
 have H1 := Lib.hid h1
 have H3 := Lib.hid h3
 clear hcn hl hS hok h1 h3 hf
 simp only [Nd.row] at HFM ⊢
 go_enter Try.func41, Try.ntmps41
 go_wp2_with fail
 have b0 : Blk ((w.alloc (.cells #[.int .i64 N.h.k, .int .u8 N.h.c, .int .u64 N.h.s0, .int .u64 N.h.s1, .int .u64 N.h.s2, .int .u64 N.h.s3, .int .i64 N.h.n, .int .i64 N.h.mn, .int .i64 N.h.mx, .slice A N.l.length cap] 33)).alloc (.cells #[.complex .f64 0 0, .complex .f64 0 0, .complex .f64 0 0, .complex .f64 0 0, .complex .f64 0 0, .complex .f64 0 0, .complex .f64 0 0, .complex .f64 0 0, .complex .f64 0 0, .complex .f64 0 0, .complex .f64 0 0, .bool false, .bool false, .bool false, .bool false, .bool false, .bool false, .bool false, .bool false, .bool false, .bool false, .int .i64 0] 49)) w.heap.size #[.int .i64 N.h.k, .int .u8 N.h.c, .int .u64 N.h.s0, .int .u64 N.h.s1, .int .u64 N.h.s2, .int .u64 N.h.s3, .int .i64 N.h.n, .int .i64 N.h.mn, .int .i64 N.h.mx, .slice A N.l.length cap] 33 := (Blk.new w _ _).alloc _
 have z0 : Blk ((w.alloc (.cells #[.int .i64 N.h.k, .int .u8 N.h.c, .int .u64 N.h.s0, .int .u64 N.h.s1, .int .u64 N.h.s2, .int .u64 N.h.s3, .int .i64 N.h.n, .int .i64 N.h.mn, .int .i64 N.h.mx, .slice A N.l.length cap] 33)).alloc (.cells #[.complex .f64 0 0, .complex .f64 0 0, .complex .f64 0 0, .complex .f64 0 0, .complex .f64 0 0, .complex .f64 0 0, .complex .f64 0 0, .complex .f64 0 0, .complex .f64 0 0, .complex .f64 0 0, .complex .f64 0 0, .bool false, .bool false, .bool false, .bool false, .bool false, .bool false, .bool false, .bool false, .bool false, .bool false, .int .i64 0] 49)) (w.heap.size + 1) zeroFnd 49 := Blk.new' (by simp) _ _
 have k0 : Keep Nb w ((w.alloc (.cells #[.int .i64 N.h.k, .int .u8 N.h.c, .int .u64 N.h.s0, .int .u64 N.h.s1, .int .u64 N.h.s2, .int .u64 N.h.s3, .int .i64 N.h.n, .int .i64 N.h.mn, .int .i64 N.h.mx, .slice A N.l.length cap] 33)).alloc (.cells #[.complex .f64 0 0, .complex .f64 0 0, .complex .f64 0 0, .complex .f64 0 0, .complex .f64 0 0, .complex .f64 0 0, .complex .f64 0 0, .complex .f64 0 0, .complex .f64 0 0, .complex .f64 0 0, .complex .f64 0 0, .bool false, .bool false, .bool false, .bool false, .bool false, .bool false, .bool false, .bool false, .bool false, .bool false, .int .i64 0] 49)) := Keep.alloc (Keep.alloc (Keep.refl _ _) _) _
 generalize ((w.alloc (.cells #[.int .i64 N.h.k, .int .u8 N.h.c, .int .u64 N.h.s0, .int .u64 N.h.s1, .int .u64 N.h.s2, .int .u64 N.h.s3, .int .i64 N.h.n, .int .i64 N.h.mn, .int .i64 N.h.mx, .slice A N.l.length cap] 33)).alloc (.cells #[.complex .f64 0 0, .complex .f64 0 0, .complex .f64 0 0, .complex .f64 0 0, .complex .f64 0 0, .complex .f64 0 0, .complex .f64 0 0, .complex .f64 0 0, .complex .f64 0 0, .complex .f64 0 0, .complex .f64 0 0, .bool false, .bool false, .bool false, .bool false, .bool false, .bool false, .bool false, .bool false, .bool false, .bool false, .int .i64 0] 49)) = w0 at b0 z0 k0 ⊢
 refine (HFM.out _ (Lies_keep k0 HLi.out)).mono ?_
 rintro x w1 ⟨rfl, hkn⟩
 have HB := Lib.hid (b0.keep hkn id)
 have HZ := Lib.hid (z0.keep hkn id)
 have HK := Lib.hid (k0.trans hkn (fun _ _ h => h))
 clear b0 z0 k0 hkn
 have hp1 : w.heap.size + 1 < w1.heap.size := HZ.out.lt
 have P2 : FAt (w1.alloc (.cells #[.string T, .bool bd, .int .i64 0, .bool false, .int .i64 (a : Int), .bool false, .complex .f64 0 0, .complex .f64 0 0, .complex .f64 0 0, .complex .f64 0 0, .complex .f64 0 0, .complex .f64 0 0, .complex .f64 0 0, .complex .f64 0 0, .complex .f64 0 0, .complex .f64 0 0, .complex .f64 0 0, .bool false, .bool false, .bool false, .bool false, .bool false, .bool false, .bool false, .bool false, .bool false, .bool false, .int .i64 0, .complex .f64 0 0, .complex .f64 0 0, .complex .f64 0 0, .complex .f64 0 0, .complex .f64 0 0, .complex .f64 0 0, .complex .f64 0 0, .complex .f64 0 0, .complex .f64 0 0, .complex .f64 0 0, .complex .f64 0 0, .bool false, .bool false, .bool false, .bool false, .bool false, .bool false, .bool false, .bool false, .bool false, .bool false, .int .i64 0] 103)) w1.heap.size T ⟨T.toList, bd, a⟩ ⟨0, false, none⟩ noC := Blk.cong (Blk.new w1 _ _) (start_at T T.toList bd a)
 have K2 : Keep Nb w (w1.alloc (.cells #[.string T, .bool bd, .int .i64 0, .bool false, .int .i64 (a : Int), .bool false, .complex .f64 0 0, .complex .f64 0 0, .complex .f64 0 0, .complex .f64 0 0, .complex .f64 0 0, .complex .f64 0 0, .complex .f64 0 0, .complex .f64 0 0, .complex .f64 0 0, .complex .f64 0 0, .complex .f64 0 0, .bool false, .bool false, .bool false, .bool false, .bool false, .bool false, .bool false, .bool false, .bool false, .bool false, .int .i64 0, .complex .f64 0 0, .complex .f64 0 0, .complex .f64 0 0, .complex .f64 0 0, .complex .f64 0 0, .complex .f64 0 0, .complex .f64 0 0, .complex .f64 0 0, .complex .f64 0 0, .complex .f64 0 0, .complex .f64 0 0, .bool false, .bool false, .bool false, .bool false, .bool false, .bool false, .bool false, .bool false, .bool false, .bool false, .int .i64 0] 103)) := Keep.alloc HK.out _
 have Z2 := HZ.out.alloc (.cells #[.string T, .bool bd, .int .i64 0, .bool false, .int .i64 (a : Int), .bool false, .complex .f64 0 0, .complex .f64 0 0, .complex .f64 0 0, .complex .f64 0 0, .complex .f64 0 0, .complex .f64 0 0, .complex .f64 0 0, .complex .f64 0 0, .complex .f64 0 0, .complex .f64 0 0, .complex .f64 0 0, .bool false, .bool false, .bool false, .bool false, .bool false, .bool false, .bool false, .bool false, .bool false, .bool false, .int .i64 0, .complex .f64 0 0, .complex .f64 0 0, .complex .f64 0 0, .complex .f64 0 0, .complex .f64 0 0, .complex .f64 0 0, .complex .f64 0 0, .complex .f64 0 0, .complex .f64 0 0, .complex .f64 0 0, .complex .f64 0 0, .bool false, .bool false, .bool false, .bool false, .bool false, .bool false, .bool false, .bool false, .bool false, .bool false, .int .i64 0] 103)
 have B2 := HB.out.alloc (.cells #[.string T, .bool bd, .int .i64 0, .bool false, .int .i64 (a : Int), .bool false, .complex .f64 0 0, .complex .f64 0 0, .complex .f64 0 0, .complex .f64 0 0, .complex .f64 0 0, .complex .f64 0 0, .complex .f64 0 0, .complex .f64 0 0, .complex .f64 0 0, .complex .f64 0 0, .complex .f64 0 0, .bool false, .bool false, .bool false, .bool false, .bool false, .bool false, .bool false, .bool false, .bool false, .bool false, .int .i64 0, .complex .f64 0 0, .complex .f64 0 0, .complex .f64 0 0, .complex .f64 0 0, .complex .f64 0 0, .complex .f64 0 0, .complex .f64 0 0, .complex .f64 0 0, .complex .f64 0 0, .complex .f64 0 0, .complex .f64 0 0, .bool false, .bool false, .bool false, .bool false, .bool false, .bool false, .bool false, .bool false, .bool false, .bool false, .int .i64 0] 103)
 dsimp only at P2 K2 Z2 B2
 have P2 := Lib.hid P2
 have K2 := Lib.hid K2
 have Z2 := Lib.hid Z2
 have B2 := Lib.hid B2
 go_wp2_with fail
 clear m1 m2 m3 m4
 generalize w1.alloc (.cells _ 103) = wS at P2 K2 Z2 B2 ⊢
 obtain ⟨p, hp⟩ : ∃ p, p = w1.heap.size := ⟨_, rfl⟩
 rw [← hp] at P2 hp1 ⊢
 have HPZ := Lib.hid (show p ≠ w.heap.size + 1 by omega)
 have HPW := Lib.hid (show w.heap.size ≤ p by omega)
 have HPN := Lib.hid (show w.heap.size ≠ p by omega)
 have HTL := Lib.hid (toList_len T)
 clear hp hp1 HB HZ HK HFM
 go_loopw [9] (fun o wr => ∃ (st m : Nat) (s : St), o = .bool false ∧ Hid (st + m = T.size + 1) ∧ Hid (findS k T.toList bd N m st s = some S) ∧ Hid (s.tries ≤ 3000) ∧ Hid (s.over = false) ∧ Hid (FAt wr p T ⟨T.toList, bd, st⟩ s noC) ∧ Hid (Blk wr w.heap.size #[.int .i64 N.h.k, .int .u8 N.h.c, .int .u64 N.h.s0, .int .u64 N.h.s1, .int .u64 N.h.s2, .int .u64 N.h.s3, .int .i64 N.h.n, .int .i64 N.h.mn, .int .i64 N.h.mx, .slice A N.l.length cap] 33) ∧ Hid (Blk wr (w.heap.size + 1) zeroFnd 49) ∧ Hid (Keep Nb w wr)) (fun _ wr => startM T.size p wr)
 case atStart => exact ⟨a, T.size + 1 - a, ⟨0, false, none⟩, rfl, Lib.hid (by have := H3.out; omega), HS, Lib.hid (Nat.zero_le _), Lib.hid rfl, P2, B2, Z2, K2⟩
 case round =>
  obtain ⟨st, m, s, rfl, hm, hfs, htr, hov, HF, HBr, HZr, HKr⟩ := hrel
  clear P2 B2 Z2 K2
  have hmm := hm.out
  have b1 := HF.out
  have c4 := b1.cell 4 (u := .int .i64 (st : Int)) rfl
  have c5 := b1.cell 5 (u := .bool s.best.isSome) rfl
  have lp := b1.lt
  by_cases hle : st ≤ T.size
  ·obtain ⟨m, rfl⟩ : ∃ i, m = i + 1 := ⟨m - 1, by omega⟩
   have g1 : decide ((st : Int) ≤ (T.size : Int)) = true := by simp; omega
   have g2 : decide (st ≤ T.size) = true := by simp; omega
   have hfs1 := hfs.out
   rw [findS] at hfs1
   cases hbs : s.best.isSome with
   | true =>
    rw [if_pos hbs] at hfs1
    obtain rfl := Option.some.inj hfs1
    rw [hbs] at c5
    have HOV := hov
    clear hfs1 hfs hbs b1
    have b2 := HF.out
    have c2 := b2.cell 2 (u := .int .i64 (s.tries : Int)) rfl
    have f27 := b2.frozen 27
    have d27 := b2.cell 27 (u := .int .i64 0) rfl
    have l2 := b2.lt
    have B3 := Lib.hid (b2.set 27 (.int .i64 (s.tries : Int)))
    have K3 := Lib.hid (Keep.setCell (X := Nb) (a := w) (p := ⟨p, 27, none⟩) HKr.out (Or.inl HPW.out) (.int .i64 (s.tries : Int)))
    have Z3 := Lib.hid (HZr.out.setOther (p := ⟨p, 27, none⟩) HPZ.out (.int .i64 (s.tries : Int)))
    clear b2
    go_wp2_with fail
    generalize wr.setCell ⟨p, 27, none⟩ (.int .i64 (s.tries : Int)) = w3 at B3 K3 Z3 ⊢
    clear c2 f27 d27 l2
    have b3 := B3.out
    have e5 := b3.cell 5 (u := .bool s.best.isSome) rfl
    have l3 := b3.lt
    have rg : w3.rangeAt p 6 (fndL s) := by
     have := b3.range 6 22
     rw [fnd_range] at this
     exact this
    have RG := Lib.hid rg
    clear b3 rg
    (refine wp_region_f [9, 10] (InX (Ob (w.heap.size + 1)) _) (by kernel_rfl) (InX.mk (Keep.drew (Keep.refl _ _))) (fun hI => ?_))
    have xx : ¬ Ob (w.heap.size + 1) p := fun h => HPZ.out h
    have hK0 : Keep Nb w3 w3.drew := (Keep.refl _ _).drew
    have rX := RG.out
    have zX := Z3.out.drew
    generalize hx0 : w3.drew = x0 at hK0 hI zX ⊢
    have rX : x0.rangeAt p 6 (fndL s) := by rw [← hx0]; exact (World.rangeAt_drew _ _ _ _).2 RG.out
    clear hx0
    (refine wpI_from 0 ?_; (iterate 3 ((first | (refine wpI_take (v := ?_) rfl (by kernel_rfl) (fun _ _ _ h => h) hI rfl ?_ ?_; rotate_left; (focus (rintro _ ⟨E, rfl⟩; go_simp; (try with_reducible rfl)))) | refine wpI_skip rfl (by kernel_rfl) (fun _ _ _ h => h) hI rfl ?_); simp only [Act.put, tk, Nat.reduceAdd])); refine wpI_till ?_)
    (refine wpI_from 4 ?_; (iterate 4 ((first | (refine wpI_take (v := ?_) rfl (by kernel_rfl) (fun _ _ _ h => h) hI rfl ?_ ?_; rotate_left; (focus (rintro _ ⟨E, rfl⟩; go_simp; (try with_reducible rfl)))) | refine wpI_skip rfl (by kernel_rfl) (fun _ _ _ h => h) hI rfl ?_); simp only [Act.put, tk, Nat.reduceAdd])); refine wpI_till ?_)
    (refine wpF_one 3 rfl (by kernel_rfl) rfl (fun K hK => ?_))
    refine wp_load_mid 49 (.tmp 83) rfl p 6 rfl (fndL s) _ rX Try.underlying49 rfl (by kernel_rfl) ?_
    (refine hK _ _ (fun _ => InX.mk (hK0.mono (fun _ _ h => h.elim))) (fun hI => ?_); have hI := hI (by simp); clear hK K; try simp only [Act.put, tk])
    (refine wpF_one 8 rfl (by kernel_rfl) rfl (fun K hK => ?_))
    refine wp_store_row 49 (.tmp 8) (.tmp 84) rfl (w.heap.size + 1) _ rfl rfl 49 _ zX sizeFo rfl (all_oneCell_toArray (fnd_one s)) ?_
    (refine hK _ _ (fun _ => InX.mk (Keep.setRow (X := Ob (w.heap.size + 1)) (hK0.mono (fun _ _ h => h.elim)) (Or.inr rfl) _)) (fun hI => ?_); have hI := hI (by simp); clear hK K; try simp only [Act.put, tk])
    (refine wpF_one 9 rfl (by kernel_rfl) rfl (fun K hK => ?_))
    go_simp
    (refine hK _ _ (fun h => absurd (by simp) h) (fun _ => ?_); clear hK K; try simp only [Act.put, tk])
    (refine wpF_one 10 rfl (by kernel_rfl) rfl (fun K hK => ?_))
    go_simp
    (refine hK _ _ (fun h => absurd (by simp) h) (fun _ => ?_); clear hK K; try simp only [Act.put, tk])
    (refine wpF_done (by kernel_rfl) ?_ _)
    go_wp2_with fail
    refine bodyPost_ret (results_ctt Try.results41 _ _ (w.heap.size + 1) 49 _ (0, 0) _ rfl (zX.setRow (fndL s).toArray) Try.underlying49 rfl sizeFo) rfl ⟨findW_ok HOV.out, Keep.setRow (K3.out.trans hK0 (fun _ _ h => h)) (Or.inl (Nat.le_succ _)) _⟩
   | false =>
    rw [if_neg (by rw [hbs]; simp), Option.bind_eq_some_iff] at hfs1
    obtain ⟨s1, h4, h5⟩ := hfs1
    rw [hbs] at c5
    have hbn : s.best = none := by cases hb : s.best with
     | none => rfl
     | some x => rw [hb] at hbs; cases hbs
    have hst : StOk ⟨T.toList, bd, st⟩ s := ⟨htr.out, fun q c hq => by rw [hbn] at hq; cases hq⟩
    have hsz : T.toList.length = T.size := HTL.out
    have i1 := (inv_all ⟨T.toList, bd, st⟩ k).1 _ _ _ _ _ h4 hst (one_ok HOK.out _ _) (by rw [hsz]; exact hle) (noC_ok _)
    have hTT : (⟨T.toList, bd, st⟩ : Env).start ≤ 600 := by have := H1.out; show st ≤ 600; omega
    have HY := Lib.hid (fun wx hx hy => thr_any p T ⟨T.toList, bd, st⟩ rfl H1.out hTT k [.node N] st noC s s1 (.pointer (some ⟨wr.heap.size, 0, none⟩)) wx h4 hst (one_ok HOK.out _ _) hle (noC_ok _) hx hy)
    have hNA : NodeAt (Off p) wr N (.pointer (some ⟨w.heap.size, 0, none⟩)) := ⟨w.heap.size, 0, .slice A N.l.length cap, rfl, HPN.out, ten_of (fun j u hu => by rw [Nat.zero_add]; exact HBr.out.cell j hu), LiesP_keep HKr.out (fun _ _ h => h) (LiesP_mono (fun b _ _ _ hc => by have := cell_lt hc; have := HPW.out; show b ≠ p; omega) _ _ HLi.out)⟩
    have PT := TasksAt.push (p := p) (t := .node N) (r := []) (nx := .pointer none) lp hNA rfl
    have FA : FAt (wr.alloc (.cells (tRow (.node N) (.pointer (some ⟨w.heap.size, 0, none⟩)) (.pointer none)) 108)) p T ⟨T.toList, bd, st⟩ s noC := HF.out.alloc _
    have BA := HBr.out.alloc (.cells (tRow (.node N) (.pointer (some ⟨w.heap.size, 0, none⟩)) (.pointer none)) 108)
    have ZA := HZr.out.alloc (.cells (tRow (.node N) (.pointer (some ⟨w.heap.size, 0, none⟩)) (.pointer none)) 108)
    have KA : Keep Nb w (wr.alloc (.cells (tRow (.node N) (.pointer (some ⟨w.heap.size, 0, none⟩)) (.pointer none)) 108)) := Keep.alloc HKr.out _
    have SM := Lib.hid (startM_at (n := T.size) HF.out)
    simp only [tRow] at PT FA BA ZA KA
    have PT := Lib.hid PT
    have FA := Lib.hid FA
    have BA := Lib.hid BA
    have ZA := Lib.hid ZA
    have KA := Lib.hid KA
    have I1 := Lib.hid i1.1.tries
    have HLE := Lib.hid hle
    clear hfs hbs hbn hst hsz i1 hTT hNA h4 b1 hle
    go_wp2_with fail
    refine (HY.out _ FA.out PT.out).mono ?_
    rintro x z1 ⟨rfl, hz, hkz⟩
    have FZ := Lib.hid hz
    have BZ := Lib.hid (BA.out.keep hkz HPN.out)
    have ZZ := Lib.hid (ZA.out.keep hkz HPZ.out.symm)
    have KZ := Lib.hid (KA.out.trans hkz (fun b hb h => by have := HPW.out; simp only [Ob] at h; omega))
    have e3 := hz.cell 3 (u := .bool s1.over) rfl
    have e4 := hz.cell 4 (u := .int .i64 (st : Int)) rfl
    have f4 := hz.frozen 4
    have lz := hz.lt
    clear hz hkz c4 c5 lp PT FA BA ZA KA
    cases hov1 : s1.over with
    | true =>
     rw [if_pos hov1] at h5
     obtain rfl := Option.some.inj h5
     rw [hov1] at e3
     have HOV := Lib.hid hov1
     have HZ2 := ZZ
     have HK2 := KZ
     clear h5 hov1
     go_wp2_with (refine wpList_store_row rfl 49 (.tmp 8) (.tmp 72) rfl (w.heap.size + 1) _ rfl rfl 49 _ HZ2.out sizeFo rfl (by simp [Value.oneCell']) ?_)
     refine bodyPost_ret (results_ctt Try.results41 _ _ (w.heap.size + 1) 49 _ (0, 0) _ rfl (HZ2.out.setRow zeroFnd) Try.underlying49 rfl sizeFo) rfl ⟨findW_over HOV.out, Keep.setRow HK2.out (Or.inl (Nat.le_succ _)) _⟩
    | false =>
     rw [if_neg (by rw [hov1]; simp)] at h5
     rw [hov1] at e3
     have H5 := Lib.hid h5
     have HO1 := Lib.hid hov1
     have hw1 : wrap64 ((st : Int) + 1) = (st : Int) + 1 := by have := H1.out; unfold wrap64; omega
     have fz : FAt (z1.setCell ⟨p, 4, none⟩ (.int .i64 ((st : Int) + 1))) p T ⟨T.toList, bd, st + 1⟩ s1 noC := by
      have := FZ.out.set 4 (.int .i64 ((st : Int) + 1))
      rw [start_up] at this
      exact this
     have FN := Lib.hid fz
     have BN := Lib.hid (BZ.out.setOther (p := ⟨p, 4, none⟩) HPN.out.symm (.int .i64 ((st : Int) + 1)))
     have ZN := Lib.hid (ZZ.out.setOther (p := ⟨p, 4, none⟩) HPZ.out (.int .i64 ((st : Int) + 1)))
     have KN := Lib.hid (Keep.setCell (X := Nb) (a := w) (p := ⟨p, 4, none⟩) KZ.out (Or.inl HPW.out) (.int .i64 ((st : Int) + 1)))
     have SN := Lib.hid (startM_at (n := T.size) fz)
     clear h5 hov1 fz
     go_wp2_with fail
     go_roundw
     case rel => exact ⟨st + 1, m, s1, rfl, Lib.hid (by have := hm.out; omega), H5, I1, HO1, FN, BN, ZN, KN⟩
     case measure => rw [SM.out, SN.out]; have := HLE.out; show T.size + 1 - (st + 1) < T.size + 1 - st; omega
  ·have hm0 : m = 0 := by omega
   subst hm0
   have hfs1 := hfs.out
   rw [findS] at hfs1
   obtain rfl := Option.some.inj hfs1
   have g1 : decide ((st : Int) ≤ (T.size : Int)) = false := by simp; omega
   have g2 : decide (st ≤ T.size) = false := by simp; omega
   have HOV := hov
   clear hfs1 hfs b1 hle
   have b2 := HF.out
   have c2 := b2.cell 2 (u := .int .i64 (s.tries : Int)) rfl
   have f27 := b2.frozen 27
   have d27 := b2.cell 27 (u := .int .i64 0) rfl
   have l2 := b2.lt
   have B3 := Lib.hid (b2.set 27 (.int .i64 (s.tries : Int)))
   have K3 := Lib.hid (Keep.setCell (X := Nb) (a := w) (p := ⟨p, 27, none⟩) HKr.out (Or.inl HPW.out) (.int .i64 (s.tries : Int)))
   have Z3 := Lib.hid (HZr.out.setOther (p := ⟨p, 27, none⟩) HPZ.out (.int .i64 (s.tries : Int)))
   clear b2
   go_wp2_with fail
   generalize wr.setCell ⟨p, 27, none⟩ (.int .i64 (s.tries : Int)) = w3 at B3 K3 Z3 ⊢
   clear c2 f27 d27 l2
   have b3 := B3.out
   have e5 := b3.cell 5 (u := .bool s.best.isSome) rfl
   have l3 := b3.lt
   have rg : w3.rangeAt p 6 (fndL s) := by
    have := b3.range 6 22
    rw [fnd_range] at this
    exact this
   have RG := Lib.hid rg
   clear b3 rg
   (refine wp_region_f [9, 10] (InX (Ob (w.heap.size + 1)) _) (by kernel_rfl) (InX.mk (Keep.drew (Keep.refl _ _))) (fun hI => ?_))
   have xx : ¬ Ob (w.heap.size + 1) p := fun h => HPZ.out h
   have hK0 : Keep Nb w3 w3.drew := (Keep.refl _ _).drew
   have rX := RG.out
   have zX := Z3.out.drew
   generalize hx0 : w3.drew = x0 at hK0 hI zX ⊢
   have rX : x0.rangeAt p 6 (fndL s) := by rw [← hx0]; exact (World.rangeAt_drew _ _ _ _).2 RG.out
   clear hx0
   (refine wpI_from 0 ?_; (iterate 3 ((first | (refine wpI_take (v := ?_) rfl (by kernel_rfl) (fun _ _ _ h => h) hI rfl ?_ ?_; rotate_left; (focus (rintro _ ⟨E, rfl⟩; go_simp; (try with_reducible rfl)))) | refine wpI_skip rfl (by kernel_rfl) (fun _ _ _ h => h) hI rfl ?_); simp only [Act.put, tk, Nat.reduceAdd])); refine wpI_till ?_)
   (refine wpI_from 4 ?_; (iterate 4 ((first | (refine wpI_take (v := ?_) rfl (by kernel_rfl) (fun _ _ _ h => h) hI rfl ?_ ?_; rotate_left; (focus (rintro _ ⟨E, rfl⟩; go_simp; (try with_reducible rfl)))) | refine wpI_skip rfl (by kernel_rfl) (fun _ _ _ h => h) hI rfl ?_); simp only [Act.put, tk, Nat.reduceAdd])); refine wpI_till ?_)
   (refine wpF_one 3 rfl (by kernel_rfl) rfl (fun K hK => ?_))
   refine wp_load_mid 49 (.tmp 83) rfl p 6 rfl (fndL s) _ rX Try.underlying49 rfl (by kernel_rfl) ?_
   (refine hK _ _ (fun _ => InX.mk (hK0.mono (fun _ _ h => h.elim))) (fun hI => ?_); have hI := hI (by simp); clear hK K; try simp only [Act.put, tk])
   (refine wpF_one 8 rfl (by kernel_rfl) rfl (fun K hK => ?_))
   refine wp_store_row 49 (.tmp 8) (.tmp 84) rfl (w.heap.size + 1) _ rfl rfl 49 _ zX sizeFo rfl (all_oneCell_toArray (fnd_one s)) ?_
   (refine hK _ _ (fun _ => InX.mk (Keep.setRow (X := Ob (w.heap.size + 1)) (hK0.mono (fun _ _ h => h.elim)) (Or.inr rfl) _)) (fun hI => ?_); have hI := hI (by simp); clear hK K; try simp only [Act.put, tk])
   (refine wpF_one 9 rfl (by kernel_rfl) rfl (fun K hK => ?_))
   go_simp
   (refine hK _ _ (fun h => absurd (by simp) h) (fun _ => ?_); clear hK K; try simp only [Act.put, tk])
   (refine wpF_one 10 rfl (by kernel_rfl) rfl (fun K hK => ?_))
   go_simp
   (refine hK _ _ (fun h => absurd (by simp) h) (fun _ => ?_); clear hK K; try simp only [Act.put, tk])
   (refine wpF_done (by kernel_rfl) ?_ _)
   go_wp2_with fail
   refine bodyPost_ret (results_ctt Try.results41 _ _ (w.heap.size + 1) 49 _ (0, 0) _ rfl (zX.setRow (fndL s).toArray) Try.underlying49 rfl sizeFo) rfl ⟨findW_ok HOV.out, Keep.setRow (K3.out.trans hK0 (fun _ _ h => h)) (Or.inl (Nat.le_succ _)) _⟩
def noneV : Value := .tuple #[.agg zeroFnd, .bool false, .int .i64 1]
noncomputable def findV (N : Nd) (T : ByteArray) (a : Int) (bd : Bool) : Value := if h : formedT N = true ∧ T.size ≤ 600 ∧ 0 ≤ a ∧ a ≤ T.size then findW (found T.toList bd N (formed_ok h.1) a.toNat) else noneV
theorem find_any (N : Nd) (hcn : count N ≤ 900000) (A : Option Addr) (cap : Nat) (T : ByteArray) (a : Int) (bd : Bool) (w : World) (hl : Lies w N (.slice A N.l.length cap)) :
  Calls Try.prog 41 #[.agg (Nd.row N (.slice A N.l.length cap)), .string T, .int .i64 a, .bool bd] w fun x w' => x = .returned (findV N T a bd) ∧ Keep Nb w w' := by
 by_cases hf : formedT N = true
 ·by_cases h1 : T.size ≤ 600
  ·by_cases h2 : 0 ≤ a
   ·by_cases h3 : a ≤ T.size
    ·rw [findV, dif_pos ⟨hf, h1, h2, h3⟩]
     obtain ⟨b, rfl⟩ : ∃ b : Nat, a = b := ⟨a.toNat, by omega⟩
     obtain ⟨k, hk⟩ := found_spec T.toList bd N (formed_ok hf) b
     rw [toList_len T] at hk
     exact find_seek N hcn A cap T b bd w hl hf h1 (by omega) k _ hk
    ·rw [findV, dif_neg (fun h => h3 h.2.2.2)]
     exact find_far N hcn A cap T a bd w hl hf h1 (by omega) (by omega)
   ·rw [findV, dif_neg (fun h => h2 h.2.2.1)]
    exact find_neg N hcn A cap T a bd w hl hf h1 (by omega)
  ·rw [findV, dif_neg (fun h => h1 h.2.1)]
   exact find_long N hcn A cap T a bd w hl hf (by omega)
 ·rw [findV, dif_neg (fun h => hf h.1)]
  exact find_shape N hcn A cap T a bd w hl (by simpa using hf)
def litNd : Nd := .mk ⟨1, 97, 0, 0, 0, 0, 0, 0, 0⟩ []
theorem formed_lit : formedT litNd = true := by simp [formedT, litNd, count, countL, deep, deepL, allT, allL, own, headOk, neededH, kidsOf, Nd.h, Nd.l, ownS]
theorem fnd_all (s : St) : (fndL s).toArray.all (·.oneCell') = true := by
 rw [List.all_toArray, List.all_eq_true]
 exact fnd_one s
end Go.Proofs.Ytkidjbfapldmbaa
