/- Find of the program. -/
import Derived.Test.YtkidjbfapldmbaaFndS
import Derived.Laws.Rows
namespace Go.Proofs.Ytkidjbfapldmbaa
set_option linter.unusedVariables false
set_option linter.unusedSimpArgs false
open Go.RowKit P8

theorem results_ctt {P : Program} {fn : Func} {p u v : Tmp} {ty : TypeId} (h : fn.results = #[.cell p ty, .tmp u, .tmp v]) (tmps : Array Value) (w : World) (g : Nat) (tt : TypeId) (cs : Array Value) (fr : Nat × Nat) (d : TypeDesc)
    (hp : tmps.getD p undef = .pointer (some ⟨g, 0, none⟩)) (hg : w.heap[g]? = some (.cells cs tt fr))
    (hu : P.underlying ty = some d) (hd : (match d with | .struct _ | .array _ _ => true | _ => false) = true) (hi : (P.info? ty).map (·.size) = some cs.size) :
    (results fn tmps).run P w = .ok (.tuple #[.agg cs, tmps.getD u undef, tmps.getD v undef]) w := by
  have e1 : Sem.run P (asAddr (tmps[p]?.getD undef)) w = .ok ⟨g, 0, none⟩ w := by rw [← Array.getD_eq_getD_getElem?, hp]; rfl
  have e2 := run_loadVar_row w g tt ty cs fr d hg hu hd hi
  simp only [results, h]
  simp [Sem.run_bind, Result.andThen, e1, e2]
theorem sizeFo : (Try.prog.info? 49).map (·.size) = some 22 := by kernel_rfl
/-- What is found, as cells. -/
def fndL (s : St) : List Value := [grpV (bestC s 0), grpV (bestC s 0), grpV (bestC s 1), grpV (bestC s 2), grpV (bestC s 3), grpV (bestC s 4), grpV (bestC s 5), grpV (bestC s 6), grpV (bestC s 7), grpV (bestC s 8), grpV (bestC s 9), hasV (bestC s 0), hasV (bestC s 1), hasV (bestC s 2), hasV (bestC s 3), hasV (bestC s 4), hasV (bestC s 5), hasV (bestC s 6), hasV (bestC s 7), hasV (bestC s 8), hasV (bestC s 9), .int .i64 (s.tries : Int)]
def zeroFnd : Array Value := #[.complex .f64 0 0, .complex .f64 0 0, .complex .f64 0 0, .complex .f64 0 0, .complex .f64 0 0, .complex .f64 0 0, .complex .f64 0 0, .complex .f64 0 0, .complex .f64 0 0, .complex .f64 0 0, .complex .f64 0 0, .bool false, .bool false, .bool false, .bool false, .bool false, .bool false, .bool false, .bool false, .bool false, .bool false, .int .i64 0]
theorem fnd_one (s : St) : ∀ v ∈ fndL s, v.oneCell' = true := by
  simp only [fndL, List.forall_mem_cons]
  exact ⟨grpV_one _, grpV_one _, grpV_one _, grpV_one _, grpV_one _, grpV_one _, grpV_one _, grpV_one _, grpV_one _, grpV_one _, grpV_one _, rfl, rfl, rfl, rfl, rfl, rfl, rfl, rfl, rfl, rfl, rfl, fun _ h => by cases h⟩

set_option maxRecDepth 100000 in
set_option maxHeartbeats 1000000 in
theorem find_shape (N : Nd) (hcn : count N ≤ 900000) (A : Option Addr) (cap : Nat) (T : ByteArray) (a : Int) (bd : Bool) (w : World) (hl : Lies w N (.slice A N.l.length cap)) (hf : formedT N = false) : Calls Try.prog 41 #[.agg (Nd.row N (.slice A N.l.length cap)), .string T, .int .i64 a, .bool bd] w fun x w' => x = .returned (.tuple #[.agg zeroFnd, .bool false, .int .i64 1]) ∧ Keep Nb w w' := by
  have HFM := Lib.hid (fun wx hx => formed_any N hcn (.slice A N.l.length cap) wx hx)
  have HLi := Lib.hid hl
  rw [hf] at HFM
  clear hcn hl
  simp only [Nd.row] at HFM ⊢
  go_enter Try.func41, Try.ntmps41
  go_wp2_with fail
  have b0 : Blk ((w.alloc (.cells #[.int .i64 N.h.k, .int .u8 N.h.c, .int .u64 N.h.s0, .int .u64 N.h.s1, .int .u64 N.h.s2, .int .u64 N.h.s3, .int .i64 N.h.n, .int .i64 N.h.mn, .int .i64 N.h.mx, .slice A N.l.length cap] 33)).alloc (.cells #[.complex .f64 0 0, .complex .f64 0 0, .complex .f64 0 0, .complex .f64 0 0, .complex .f64 0 0, .complex .f64 0 0, .complex .f64 0 0, .complex .f64 0 0, .complex .f64 0 0, .complex .f64 0 0, .complex .f64 0 0, .bool false, .bool false, .bool false, .bool false, .bool false, .bool false, .bool false, .bool false, .bool false, .bool false, .int .i64 0] 49)) w.heap.size #[.int .i64 N.h.k, .int .u8 N.h.c, .int .u64 N.h.s0, .int .u64 N.h.s1, .int .u64 N.h.s2, .int .u64 N.h.s3, .int .i64 N.h.n, .int .i64 N.h.mn, .int .i64 N.h.mx, .slice A N.l.length cap] 33 := (Blk.new w _ _).alloc _
  have z0 : Blk ((w.alloc (.cells #[.int .i64 N.h.k, .int .u8 N.h.c, .int .u64 N.h.s0, .int .u64 N.h.s1, .int .u64 N.h.s2, .int .u64 N.h.s3, .int .i64 N.h.n, .int .i64 N.h.mn, .int .i64 N.h.mx, .slice A N.l.length cap] 33)).alloc (.cells #[.complex .f64 0 0, .complex .f64 0 0, .complex .f64 0 0, .complex .f64 0 0, .complex .f64 0 0, .complex .f64 0 0, .complex .f64 0 0, .complex .f64 0 0, .complex .f64 0 0, .complex .f64 0 0, .complex .f64 0 0, .bool false, .bool false, .bool false, .bool false, .bool false, .bool false, .bool false, .bool false, .bool false, .bool false, .int .i64 0] 49)) (w.heap.size + 1) zeroFnd 49 := Blk.new' (by simp) _ _
  have k0 : Keep Nb w ((w.alloc (.cells #[.int .i64 N.h.k, .int .u8 N.h.c, .int .u64 N.h.s0, .int .u64 N.h.s1, .int .u64 N.h.s2, .int .u64 N.h.s3, .int .i64 N.h.n, .int .i64 N.h.mn, .int .i64 N.h.mx, .slice A N.l.length cap] 33)).alloc (.cells #[.complex .f64 0 0, .complex .f64 0 0, .complex .f64 0 0, .complex .f64 0 0, .complex .f64 0 0, .complex .f64 0 0, .complex .f64 0 0, .complex .f64 0 0, .complex .f64 0 0, .complex .f64 0 0, .complex .f64 0 0, .bool false, .bool false, .bool false, .bool false, .bool false, .bool false, .bool false, .bool false, .bool false, .bool false, .int .i64 0] 49)) := Keep.alloc (Keep.alloc (Keep.refl _ _) _) _
  generalize ((w.alloc (.cells #[.int .i64 N.h.k, .int .u8 N.h.c, .int .u64 N.h.s0, .int .u64 N.h.s1, .int .u64 N.h.s2, .int .u64 N.h.s3, .int .i64 N.h.n, .int .i64 N.h.mn, .int .i64 N.h.mx, .slice A N.l.length cap] 33)).alloc (.cells #[.complex .f64 0 0, .complex .f64 0 0, .complex .f64 0 0, .complex .f64 0 0, .complex .f64 0 0, .complex .f64 0 0, .complex .f64 0 0, .complex .f64 0 0, .complex .f64 0 0, .complex .f64 0 0, .complex .f64 0 0, .bool false, .bool false, .bool false, .bool false, .bool false, .bool false, .bool false, .bool false, .bool false, .bool false, .int .i64 0] 49)) = w0 at b0 z0 k0 ⊢
  refine (HFM.out _ (Lies_keep k0 HLi.out)).mono ?_
  rintro x w1 ⟨rfl, hkn⟩
  have HB := Lib.hid (b0.keep hkn id)
  have HZ := Lib.hid (z0.keep hkn id)
  have HK := Lib.hid (k0.trans hkn (fun _ _ h => h))
  clear b0 z0 k0 hkn
  go_wp2_with (refine wpList_store_row rfl 49 (.tmp 8) (.tmp 30) rfl (w.heap.size + 1) _ rfl rfl 49 _ HZ.out sizeFo rfl (by simp [Value.oneCell']) ?_)
  refine bodyPost_ret (results_ctt Try.results41 _ _ (w.heap.size + 1) 49 _ (0, 0) _ rfl (HZ.out.setRow zeroFnd) Try.underlying49 rfl sizeFo) rfl ⟨rfl, Keep.setRow HK.out (Or.inl (Nat.le_succ _)) _⟩

set_option maxRecDepth 100000 in
set_option maxHeartbeats 1000000 in
theorem find_long (N : Nd) (hcn : count N ≤ 900000) (A : Option Addr) (cap : Nat) (T : ByteArray) (a : Int) (bd : Bool) (w : World) (hl : Lies w N (.slice A N.l.length cap)) (hf : formedT N = true) (h1 : 600 < T.size) : Calls Try.prog 41 #[.agg (Nd.row N (.slice A N.l.length cap)), .string T, .int .i64 a, .bool bd] w fun x w' => x = .returned (.tuple #[.agg zeroFnd, .bool false, .int .i64 1]) ∧ Keep Nb w w' := by
  have HFM := Lib.hid (fun wx hx => formed_any N hcn (.slice A N.l.length cap) wx hx)
  have HLi := Lib.hid hl
  rw [hf] at HFM
  have m1 : decide (600 < (T.size : Int)) = true := by simp; omega
  clear h1 hf
  clear hcn hl
  simp only [Nd.row] at HFM ⊢
  go_enter Try.func41, Try.ntmps41
  go_wp2_with fail
  have b0 : Blk ((w.alloc (.cells #[.int .i64 N.h.k, .int .u8 N.h.c, .int .u64 N.h.s0, .int .u64 N.h.s1, .int .u64 N.h.s2, .int .u64 N.h.s3, .int .i64 N.h.n, .int .i64 N.h.mn, .int .i64 N.h.mx, .slice A N.l.length cap] 33)).alloc (.cells #[.complex .f64 0 0, .complex .f64 0 0, .complex .f64 0 0, .complex .f64 0 0, .complex .f64 0 0, .complex .f64 0 0, .complex .f64 0 0, .complex .f64 0 0, .complex .f64 0 0, .complex .f64 0 0, .complex .f64 0 0, .bool false, .bool false, .bool false, .bool false, .bool false, .bool false, .bool false, .bool false, .bool false, .bool false, .int .i64 0] 49)) w.heap.size #[.int .i64 N.h.k, .int .u8 N.h.c, .int .u64 N.h.s0, .int .u64 N.h.s1, .int .u64 N.h.s2, .int .u64 N.h.s3, .int .i64 N.h.n, .int .i64 N.h.mn, .int .i64 N.h.mx, .slice A N.l.length cap] 33 := (Blk.new w _ _).alloc _
  have z0 : Blk ((w.alloc (.cells #[.int .i64 N.h.k, .int .u8 N.h.c, .int .u64 N.h.s0, .int .u64 N.h.s1, .int .u64 N.h.s2, .int .u64 N.h.s3, .int .i64 N.h.n, .int .i64 N.h.mn, .int .i64 N.h.mx, .slice A N.l.length cap] 33)).alloc (.cells #[.complex .f64 0 0, .complex .f64 0 0, .complex .f64 0 0, .complex .f64 0 0, .complex .f64 0 0, .complex .f64 0 0, .complex .f64 0 0, .complex .f64 0 0, .complex .f64 0 0, .complex .f64 0 0, .complex .f64 0 0, .bool false, .bool false, .bool false, .bool false, .bool false, .bool false, .bool false, .bool false, .bool false, .bool false, .int .i64 0] 49)) (w.heap.size + 1) zeroFnd 49 := Blk.new' (by simp) _ _
  have k0 : Keep Nb w ((w.alloc (.cells #[.int .i64 N.h.k, .int .u8 N.h.c, .int .u64 N.h.s0, .int .u64 N.h.s1, .int .u64 N.h.s2, .int .u64 N.h.s3, .int .i64 N.h.n, .int .i64 N.h.mn, .int .i64 N.h.mx, .slice A N.l.length cap] 33)).alloc (.cells #[.complex .f64 0 0, .complex .f64 0 0, .complex .f64 0 0, .complex .f64 0 0, .complex .f64 0 0, .complex .f64 0 0, .complex .f64 0 0, .complex .f64 0 0, .complex .f64 0 0, .complex .f64 0 0, .complex .f64 0 0, .bool false, .bool false, .bool false, .bool false, .bool false, .bool false, .bool false, .bool false, .bool false, .bool false, .int .i64 0] 49)) := Keep.alloc (Keep.alloc (Keep.refl _ _) _) _
  generalize ((w.alloc (.cells #[.int .i64 N.h.k, .int .u8 N.h.c, .int .u64 N.h.s0, .int .u64 N.h.s1, .int .u64 N.h.s2, .int .u64 N.h.s3, .int .i64 N.h.n, .int .i64 N.h.mn, .int .i64 N.h.mx, .slice A N.l.length cap] 33)).alloc (.cells #[.complex .f64 0 0, .complex .f64 0 0, .complex .f64 0 0, .complex .f64 0 0, .complex .f64 0 0, .complex .f64 0 0, .complex .f64 0 0, .complex .f64 0 0, .complex .f64 0 0, .complex .f64 0 0, .complex .f64 0 0, .bool false, .bool false, .bool false, .bool false, .bool false, .bool false, .bool false, .bool false, .bool false, .bool false, .int .i64 0] 49)) = w0 at b0 z0 k0 ⊢
  refine (HFM.out _ (Lies_keep k0 HLi.out)).mono ?_
  rintro x w1 ⟨rfl, hkn⟩
  have HB := Lib.hid (b0.keep hkn id)
  have HZ := Lib.hid (z0.keep hkn id)
  have HK := Lib.hid (k0.trans hkn (fun _ _ h => h))
  clear b0 z0 k0 hkn
  go_wp2_with (refine wpList_store_row rfl 49 (.tmp 8) (.tmp 30) rfl (w.heap.size + 1) _ rfl rfl 49 _ HZ.out sizeFo rfl (by simp [Value.oneCell']) ?_)
  refine bodyPost_ret (results_ctt Try.results41 _ _ (w.heap.size + 1) 49 _ (0, 0) _ rfl (HZ.out.setRow zeroFnd) Try.underlying49 rfl sizeFo) rfl ⟨rfl, Keep.setRow HK.out (Or.inl (Nat.le_succ _)) _⟩

set_option maxRecDepth 100000 in
set_option maxHeartbeats 1000000 in
theorem find_neg (N : Nd) (hcn : count N ≤ 900000) (A : Option Addr) (cap : Nat) (T : ByteArray) (a : Int) (bd : Bool) (w : World) (hl : Lies w N (.slice A N.l.length cap)) (hf : formedT N = true) (h1 : T.size ≤ 600) (h2 : a < 0) : Calls Try.prog 41 #[.agg (Nd.row N (.slice A N.l.length cap)), .string T, .int .i64 a, .bool bd] w fun x w' => x = .returned (.tuple #[.agg zeroFnd, .bool false, .int .i64 1]) ∧ Keep Nb w w' := by
  have HFM := Lib.hid (fun wx hx => formed_any N hcn (.slice A N.l.length cap) wx hx)
  have HLi := Lib.hid hl
  rw [hf] at HFM
  have m1 : decide (600 < (T.size : Int)) = false := by simp; omega
  have m2 : decide (a < 0) = true := by simpa using h2
  clear h1 hf h2
  clear hcn hl
  simp only [Nd.row] at HFM ⊢
  go_enter Try.func41, Try.ntmps41
  go_wp2_with fail
  have b0 : Blk ((w.alloc (.cells #[.int .i64 N.h.k, .int .u8 N.h.c, .int .u64 N.h.s0, .int .u64 N.h.s1, .int .u64 N.h.s2, .int .u64 N.h.s3, .int .i64 N.h.n, .int .i64 N.h.mn, .int .i64 N.h.mx, .slice A N.l.length cap] 33)).alloc (.cells #[.complex .f64 0 0, .complex .f64 0 0, .complex .f64 0 0, .complex .f64 0 0, .complex .f64 0 0, .complex .f64 0 0, .complex .f64 0 0, .complex .f64 0 0, .complex .f64 0 0, .complex .f64 0 0, .complex .f64 0 0, .bool false, .bool false, .bool false, .bool false, .bool false, .bool false, .bool false, .bool false, .bool false, .bool false, .int .i64 0] 49)) w.heap.size #[.int .i64 N.h.k, .int .u8 N.h.c, .int .u64 N.h.s0, .int .u64 N.h.s1, .int .u64 N.h.s2, .int .u64 N.h.s3, .int .i64 N.h.n, .int .i64 N.h.mn, .int .i64 N.h.mx, .slice A N.l.length cap] 33 := (Blk.new w _ _).alloc _
  have z0 : Blk ((w.alloc (.cells #[.int .i64 N.h.k, .int .u8 N.h.c, .int .u64 N.h.s0, .int .u64 N.h.s1, .int .u64 N.h.s2, .int .u64 N.h.s3, .int .i64 N.h.n, .int .i64 N.h.mn, .int .i64 N.h.mx, .slice A N.l.length cap] 33)).alloc (.cells #[.complex .f64 0 0, .complex .f64 0 0, .complex .f64 0 0, .complex .f64 0 0, .complex .f64 0 0, .complex .f64 0 0, .complex .f64 0 0, .complex .f64 0 0, .complex .f64 0 0, .complex .f64 0 0, .complex .f64 0 0, .bool false, .bool false, .bool false, .bool false, .bool false, .bool false, .bool false, .bool false, .bool false, .bool false, .int .i64 0] 49)) (w.heap.size + 1) zeroFnd 49 := Blk.new' (by simp) _ _
  have k0 : Keep Nb w ((w.alloc (.cells #[.int .i64 N.h.k, .int .u8 N.h.c, .int .u64 N.h.s0, .int .u64 N.h.s1, .int .u64 N.h.s2, .int .u64 N.h.s3, .int .i64 N.h.n, .int .i64 N.h.mn, .int .i64 N.h.mx, .slice A N.l.length cap] 33)).alloc (.cells #[.complex .f64 0 0, .complex .f64 0 0, .complex .f64 0 0, .complex .f64 0 0, .complex .f64 0 0, .complex .f64 0 0, .complex .f64 0 0, .complex .f64 0 0, .complex .f64 0 0, .complex .f64 0 0, .complex .f64 0 0, .bool false, .bool false, .bool false, .bool false, .bool false, .bool false, .bool false, .bool false, .bool false, .bool false, .int .i64 0] 49)) := Keep.alloc (Keep.alloc (Keep.refl _ _) _) _
  generalize ((w.alloc (.cells #[.int .i64 N.h.k, .int .u8 N.h.c, .int .u64 N.h.s0, .int .u64 N.h.s1, .int .u64 N.h.s2, .int .u64 N.h.s3, .int .i64 N.h.n, .int .i64 N.h.mn, .int .i64 N.h.mx, .slice A N.l.length cap] 33)).alloc (.cells #[.complex .f64 0 0, .complex .f64 0 0, .complex .f64 0 0, .complex .f64 0 0, .complex .f64 0 0, .complex .f64 0 0, .complex .f64 0 0, .complex .f64 0 0, .complex .f64 0 0, .complex .f64 0 0, .complex .f64 0 0, .bool false, .bool false, .bool false, .bool false, .bool false, .bool false, .bool false, .bool false, .bool false, .bool false, .int .i64 0] 49)) = w0 at b0 z0 k0 ⊢
  refine (HFM.out _ (Lies_keep k0 HLi.out)).mono ?_
  rintro x w1 ⟨rfl, hkn⟩
  have HB := Lib.hid (b0.keep hkn id)
  have HZ := Lib.hid (z0.keep hkn id)
  have HK := Lib.hid (k0.trans hkn (fun _ _ h => h))
  clear b0 z0 k0 hkn
  go_wp2_with (refine wpList_store_row rfl 49 (.tmp 8) (.tmp 30) rfl (w.heap.size + 1) _ rfl rfl 49 _ HZ.out sizeFo rfl (by simp [Value.oneCell']) ?_)
  refine bodyPost_ret (results_ctt Try.results41 _ _ (w.heap.size + 1) 49 _ (0, 0) _ rfl (HZ.out.setRow zeroFnd) Try.underlying49 rfl sizeFo) rfl ⟨rfl, Keep.setRow HK.out (Or.inl (Nat.le_succ _)) _⟩

set_option maxRecDepth 100000 in
set_option maxHeartbeats 1000000 in
theorem find_far (N : Nd) (hcn : count N ≤ 900000) (A : Option Addr) (cap : Nat) (T : ByteArray) (a : Int) (bd : Bool) (w : World) (hl : Lies w N (.slice A N.l.length cap)) (hf : formedT N = true) (h1 : T.size ≤ 600) (h2 : ¬ a < 0) (h3 : (T.size : Int) < a) : Calls Try.prog 41 #[.agg (Nd.row N (.slice A N.l.length cap)), .string T, .int .i64 a, .bool bd] w fun x w' => x = .returned (.tuple #[.agg zeroFnd, .bool false, .int .i64 1]) ∧ Keep Nb w w' := by
  have HFM := Lib.hid (fun wx hx => formed_any N hcn (.slice A N.l.length cap) wx hx)
  have HLi := Lib.hid hl
  rw [hf] at HFM
  have m1 : decide (600 < (T.size : Int)) = false := by simp; omega
  have m2 : decide (a < 0) = false := by simpa using h2
  have m3 : decide ((T.size : Int) < a) = true := by simpa using h3
  clear h1 hf h2 h3
  clear hcn hl
  simp only [Nd.row] at HFM ⊢
  go_enter Try.func41, Try.ntmps41
  go_wp2_with fail
  have b0 : Blk ((w.alloc (.cells #[.int .i64 N.h.k, .int .u8 N.h.c, .int .u64 N.h.s0, .int .u64 N.h.s1, .int .u64 N.h.s2, .int .u64 N.h.s3, .int .i64 N.h.n, .int .i64 N.h.mn, .int .i64 N.h.mx, .slice A N.l.length cap] 33)).alloc (.cells #[.complex .f64 0 0, .complex .f64 0 0, .complex .f64 0 0, .complex .f64 0 0, .complex .f64 0 0, .complex .f64 0 0, .complex .f64 0 0, .complex .f64 0 0, .complex .f64 0 0, .complex .f64 0 0, .complex .f64 0 0, .bool false, .bool false, .bool false, .bool false, .bool false, .bool false, .bool false, .bool false, .bool false, .bool false, .int .i64 0] 49)) w.heap.size #[.int .i64 N.h.k, .int .u8 N.h.c, .int .u64 N.h.s0, .int .u64 N.h.s1, .int .u64 N.h.s2, .int .u64 N.h.s3, .int .i64 N.h.n, .int .i64 N.h.mn, .int .i64 N.h.mx, .slice A N.l.length cap] 33 := (Blk.new w _ _).alloc _
  have z0 : Blk ((w.alloc (.cells #[.int .i64 N.h.k, .int .u8 N.h.c, .int .u64 N.h.s0, .int .u64 N.h.s1, .int .u64 N.h.s2, .int .u64 N.h.s3, .int .i64 N.h.n, .int .i64 N.h.mn, .int .i64 N.h.mx, .slice A N.l.length cap] 33)).alloc (.cells #[.complex .f64 0 0, .complex .f64 0 0, .complex .f64 0 0, .complex .f64 0 0, .complex .f64 0 0, .complex .f64 0 0, .complex .f64 0 0, .complex .f64 0 0, .complex .f64 0 0, .complex .f64 0 0, .complex .f64 0 0, .bool false, .bool false, .bool false, .bool false, .bool false, .bool false, .bool false, .bool false, .bool false, .bool false, .int .i64 0] 49)) (w.heap.size + 1) zeroFnd 49 := Blk.new' (by simp) _ _
  have k0 : Keep Nb w ((w.alloc (.cells #[.int .i64 N.h.k, .int .u8 N.h.c, .int .u64 N.h.s0, .int .u64 N.h.s1, .int .u64 N.h.s2, .int .u64 N.h.s3, .int .i64 N.h.n, .int .i64 N.h.mn, .int .i64 N.h.mx, .slice A N.l.length cap] 33)).alloc (.cells #[.complex .f64 0 0, .complex .f64 0 0, .complex .f64 0 0, .complex .f64 0 0, .complex .f64 0 0, .complex .f64 0 0, .complex .f64 0 0, .complex .f64 0 0, .complex .f64 0 0, .complex .f64 0 0, .complex .f64 0 0, .bool false, .bool false, .bool false, .bool false, .bool false, .bool false, .bool false, .bool false, .bool false, .bool false, .int .i64 0] 49)) := Keep.alloc (Keep.alloc (Keep.refl _ _) _) _
  generalize ((w.alloc (.cells #[.int .i64 N.h.k, .int .u8 N.h.c, .int .u64 N.h.s0, .int .u64 N.h.s1, .int .u64 N.h.s2, .int .u64 N.h.s3, .int .i64 N.h.n, .int .i64 N.h.mn, .int .i64 N.h.mx, .slice A N.l.length cap] 33)).alloc (.cells #[.complex .f64 0 0, .complex .f64 0 0, .complex .f64 0 0, .complex .f64 0 0, .complex .f64 0 0, .complex .f64 0 0, .complex .f64 0 0, .complex .f64 0 0, .complex .f64 0 0, .complex .f64 0 0, .complex .f64 0 0, .bool false, .bool false, .bool false, .bool false, .bool false, .bool false, .bool false, .bool false, .bool false, .bool false, .int .i64 0] 49)) = w0 at b0 z0 k0 ⊢
  refine (HFM.out _ (Lies_keep k0 HLi.out)).mono ?_
  rintro x w1 ⟨rfl, hkn⟩
  have HB := Lib.hid (b0.keep hkn id)
  have HZ := Lib.hid (z0.keep hkn id)
  have HK := Lib.hid (k0.trans hkn (fun _ _ h => h))
  clear b0 z0 k0 hkn
  go_wp2_with (refine wpList_store_row rfl 49 (.tmp 8) (.tmp 30) rfl (w.heap.size + 1) _ rfl rfl 49 _ HZ.out sizeFo rfl (by simp [Value.oneCell']) ?_)
  refine bodyPost_ret (results_ctt Try.results41 _ _ (w.heap.size + 1) 49 _ (0, 0) _ rfl (HZ.out.setRow zeroFnd) Try.underlying49 rfl sizeFo) rfl ⟨rfl, Keep.setRow HK.out (Or.inl (Nat.le_succ _)) _⟩

end Go.Proofs.Ytkidjbfapldmbaa
