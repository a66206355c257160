import Derived.Test.YtkidjbfapldmbaaZBase
import Derived.ProofKit
import Derived.OpenShut
import Derived.ShutString
import Derived.ChangeOld
import Derived.Below
import Derived.Laws.IdiomArrays
import Derived.Deep.Slices
import Derived.Laws.StructEq
import Derived.ChangeKeysEq
set_option linter.unusedVariables false
set_option linter.unusedSimpArgs false
namespace Go.Proofs.Ytkidjbfapldmbaa
open Go.RowKit P8 Go.ChangeShapes Go.WideShapes
def Hd.wf (h : Hd) : Prop := (Lit.int .i64 h.k).wf = true ∧ (Lit.int .u8 h.c).wf = true ∧ (Lit.int .u64 h.s0).wf = true ∧ (Lit.int .u64 h.s1).wf = true ∧ (Lit.int .u64 h.s2).wf = true ∧ (Lit.int .u64 h.s3).wf = true ∧
 (Lit.int .i64 h.n).wf = true ∧ (Lit.int .i64 h.mn).wf = true ∧ (Lit.int .i64 h.mx).wf = true
section
variable {H : Type} {enc : TypeId × Value → H} {W : World} {base : Nat} {spare : Nat → Bool} {held : Bool}
instance : Inhabited Nd := ⟨.mk ⟨0, 0, 0, 0, 0, 0, 0, 0, 0⟩ []⟩
end
theorem ret_int {k : IntKind} {a b : Int} (h : a = b) : Ending.returned (.int k a) = .returned (.int k b) := by rw [h]
theorem ret_bool {a b : Bool} (h : a = b) : Ending.returned (.bool a) = .returned (.bool b) := by rw [h]
theorem bounded_pos (h : Hd) (l : List Nd) {D : Int} (hD : 0 < D) (left : Int) : bounded (.mk h l) D.toNat left = boundedL l (D - 1).toNat (left - 1) := by
 obtain ⟨d, rfl⟩ : ∃ d : Nat, D = (d : Int) + 1 := ⟨(D - 1).toNat, by omega⟩
 rw [show ((d : Int) + 1).toNat = d + 1 by omega, bounded, show ((d : Int) + 1 - 1).toNat = d by omega]
set_option maxHeartbeats 1000000 in
theorem bounded_any (c : Nat) : ∀ (T : Nd) (_ : count T ≤ c) (D : Int) (_ : 0 ≤ D) (_ : D ≤ 100) (left : Int) (_ : -9 ≤ left) (_ : left ≤ 1000) (v : Value) (w : World) (_ : Lies w T v),
  Calls Try.prog 58 #[.agg (Nd.row T v), .int .i64 D, .int .i64 left] w fun e w' => e = .returned (.int .i64 (bounded T D.toNat left)) ∧ Keep Nb w w' := by
 induction c with
 | zero => intro T hd; have := count_pos T; omega
 | succ c ih =>
 intro T hd D hd0 hd' left hl0 hl1 v w hl
 cases T with
 | mk h l =>
 rw [Lies_mk] at hl
 obtain ⟨A, cap, rfl, hlc, hcap, hL⟩ := hl
 unfold maxLen at hcap
 rw [count] at hd
 rw [Nd.row]
 have HI := Lib.hid ih
 clear ih
 by_cases hD : D = 0
 ·subst hD
  go_enter Try.func58, Try.ntmps58
  go_wp2_with fail
  go_ret
  exact ⟨rfl, kp⟩
 ·rw [bounded_pos h l (by omega)]
  have hDb : (D == 0) = false := by simpa using hD
  generalize hR : boundedL l (D - 1).toNat (left - 1) = R
  have HR := Lib.hid hR; clear hR
  go_enter Try.func58, Try.ntmps58
  go_wp2_with fail
  go_loopw [2, 15] (fun L i wr => ∃ (j : Nat) (x : Int), j ≤ l.length ∧ i = .int .i64 j ∧ L = .int .i64 x ∧ -10 ≤ x ∧ x ≤ 1000 ∧ Hid (R = boundedL (l.drop j) (D - 1).toNat x) ∧ wr.cell? ⟨w.heap.size, 9, none⟩ = some (.slice A l.length cap) ∧ w.heap.size < wr.heap.size ∧ Keep Nb w wr) (fun _ i _ => l.length - (intOf i).toNat)
  case atStart => exact ⟨0, left - 1, by omega, rfl, rfl, by omega, by omega, Lib.hid (by rw [← HR.out]; rfl), by simp, by simp, kp⟩
  case round =>
   obtain ⟨j, x, hj, rfl, rfl, hx0, hx1, hH, hbox, hsz, hk⟩ := hrel
   by_cases hlt : j < l.length
   ·obtain ⟨b, off, A2, n2, rfl, hten, hS⟩ := hL.at j hlt
    obtain ⟨c0, c1, c2, c3, c4, c5, c6, c7, c8, c9, lt⟩ := hten.keep hk
    have hc := countL_get_le l j hlt
    by_cases hx : x ≤ 0
    ·go_wp2_with fail
     go_ret
     exact ⟨ret_int (by rw [hH.out, List.drop_eq_getElem_cons hlt, boundedL, if_pos hx]), hk⟩
    ·go_wp2_with fail
     refine (HI.out l[j] (by omega) (D - 1) (by omega) (by omega) x (by omega) (by omega) _ _ (Lies_keep hk hS)).mono ?_
     have hr := bounded_range l[j] (D - 1).toNat x
     generalize hy : bounded l[j] (D - 1).toNat x = y at hr ⊢
     have HY := Lib.hid hy; clear hy
     rintro e w2 ⟨rfl, hk2⟩
     go_wp2_with fail
     go_roundw
     case rel => exact ⟨j + 1, _, by omega, by go_num, rfl, by omega, by omega, Lib.hid (by rw [hH.out, List.drop_eq_getElem_cons hlt, boundedL, if_neg (by omega), HY.out]), hk2.cell hbox id, by have := hk2.size; omega, hk.trans hk2 (fun _ _ h => h)⟩
     case measure => simp [intOf]; omega
   ·obtain rfl : j = l.length := by omega
    go_wp2_with fail
    all_goals
     go_ret
     exact ⟨ret_int (by rw [hH.out, List.drop_length, boundedL]; omega), hk⟩
def setEq (a0 a1 a2 a3 b0 b1 b2 b3 : Int) : Bool := decide (a0 = b0 ∧ a1 = b1 ∧ a2 = b2 ∧ a3 = b3)
theorem cells22 : Try.prog.cellsOf 22 = 1 := by kernel_rfl
theorem info22 : ∃ i, Try.prog.info? 22 = some i := Option.isSome_iff_exists.1 (by kernel_rfl)
theorem eqIn_set (t : TypeId) (hu : Try.prog.underlying t = some (.array 4 22)) (d : Nat) (a0 a1 a2 a3 b0 b1 b2 b3 : Int) (w : World) :
  (Op.equalIn (d + 2) t (.agg #[.int .u64 a0, .int .u64 a1, .int .u64 a2, .int .u64 a3]) (.agg #[.int .u64 b0, .int .u64 b1, .int .u64 b2, .int .u64 b3])).run Try.prog w = .ok (setEq a0 a1 a2 a3 b0 b1 b2 b3) w := by
 obtain ⟨i, hi⟩ := info22
 rw [show d + 2 = (d + 1) + 1 from rfl, run_equalIn_array w (d + 1) _ _ hu hi, cells22]
 simp only [List.range_succ, List.range_zero, List.nil_append, List.cons_append, Op.eqItems]
 go_simp
 unfold setEq
 by_cases h0 : a0 = b0 <;> by_cases h1 : a1 = b1 <;> by_cases h2 : a2 = b2 <;> by_cases h3 : a3 = b3 <;> simp [h0, h1, h2, h3]
theorem eql_set (t : TypeId) (hu : Try.prog.underlying t = some (.array 4 22)) (a0 a1 a2 a3 b0 b1 b2 b3 : Int) (w : World) :
  (binOp .eql t (.agg #[.int .u64 a0, .int .u64 a1, .int .u64 a2, .int .u64 a3]) (.agg #[.int .u64 b0, .int .u64 b1, .int .u64 b2, .int .u64 b3])).run Try.prog w = .ok (.bool (setEq a0 a1 a2 a3 b0 b1 b2 b3)) w := by
 simp only [binOp, Op.equal, Op.maxDepth, Sem.run_bind, eqIn_set t hu 9998 a0 a1 a2 a3 b0 b1 b2 b3, Result.andThen_ok, Sem.run_pure]
theorem neq_set (t : TypeId) (hu : Try.prog.underlying t = some (.array 4 22)) (a0 a1 a2 a3 b0 b1 b2 b3 : Int) (w : World) :
  (binOp .neq t (.agg #[.int .u64 a0, .int .u64 a1, .int .u64 a2, .int .u64 a3]) (.agg #[.int .u64 b0, .int .u64 b1, .int .u64 b2, .int .u64 b3])).run Try.prog w = .ok (.bool (!(setEq a0 a1 a2 a3 b0 b1 b2 b3))) w := by
 simp only [binOp, Op.equal, Op.maxDepth, Sem.run_bind, eqIn_set t hu 9998 a0 a1 a2 a3 b0 b1 b2 b3, Result.andThen_ok, Sem.run_pure]
def headEq (a b : Hd) : Bool := decide (a = b)
theorem headEq_iff {a b : Hd} : headEq a b = true ↔ a = b := by simp [headEq]
theorem headEq_parts (a b : Hd) : headEq a b = decide (a.k = b.k ∧ a.c = b.c ∧ setEq a.s0 a.s1 a.s2 a.s3 b.s0 b.s1 b.s2 b.s3 = true ∧ a.n = b.n ∧ a.mn = b.mn ∧ a.mx = b.mx) := by
 unfold headEq setEq
 rw [decide_eq_decide]
 cases a; cases b
 simp only [Hd.mk.injEq, decide_eq_true_eq]
 exact ⟨fun ⟨a, b, c, d, e, f, g, h, i⟩ => ⟨a, b, ⟨c, d, e, f⟩, g, h, i⟩, fun ⟨a, b, ⟨c, d, e, f⟩, g, h, i⟩ => ⟨a, b, c, d, e, f, g, h, i⟩⟩
theorem eql_head (k c s0 s1 s2 s3 n mn mx k' c' s0' s1' s2' s3' n' mn' mx' : Int) (w : World) :
  (binOp .eql 90 (.agg #[.int .i64 k, .int .u8 c, .int .u64 s0, .int .u64 s1, .int .u64 s2, .int .u64 s3, .int .i64 n, .int .i64 mn, .int .i64 mx])
   (.agg #[.int .i64 k', .int .u8 c', .int .u64 s0', .int .u64 s1', .int .u64 s2', .int .u64 s3', .int .i64 n', .int .i64 mn', .int .i64 mx'])).run Try.prog w =
   .ok (.bool (headEq ⟨k, c, s0, s1, s2, s3, n, mn, mx⟩ ⟨k', c', s0', s1', s2', s3', n', mn', mx'⟩)) w := by
 have h30 := fun d => eqIn_set 30 (by kernel_rfl) d s0 s1 s2 s3 s0' s1' s2' s3'
 have h30' := h30 9997
 rw [headEq_parts]
 go_simp
 generalize setEq s0 s1 s2 s3 s0' s1' s2' s3' = q
 by_cases h0 : k = k' <;> by_cases h1 : c = c' <;> cases q <;> by_cases h2 : n = n' <;> by_cases h3 : mn = mn' <;> by_cases h4 : mx = mx' <;> simp [h0, h1, h2, h3, h4]
theorem neq_head (k c s0 s1 s2 s3 n mn mx k' c' s0' s1' s2' s3' n' mn' mx' : Int) (w : World) :
  (binOp .neq 90 (.agg #[.int .i64 k, .int .u8 c, .int .u64 s0, .int .u64 s1, .int .u64 s2, .int .u64 s3, .int .i64 n, .int .i64 mn, .int .i64 mx])
   (.agg #[.int .i64 k', .int .u8 c', .int .u64 s0', .int .u64 s1', .int .u64 s2', .int .u64 s3', .int .i64 n', .int .i64 mn', .int .i64 mx'])).run Try.prog w =
   .ok (.bool (!(headEq ⟨k, c, s0, s1, s2, s3, n, mn, mx⟩ ⟨k', c', s0', s1', s2', s3', n', mn', mx'⟩))) w := by
 have h30 := fun d => eqIn_set 30 (by kernel_rfl) d s0 s1 s2 s3 s0' s1' s2' s3'
 have h30' := h30 9997
 rw [headEq_parts]
 go_simp
 generalize setEq s0 s1 s2 s3 s0' s1' s2' s3' = q
 by_cases h0 : k = k' <;> by_cases h1 : c = c' <;> cases q <;> by_cases h2 : n = n' <;> by_cases h3 : mn = mn' <;> by_cases h4 : mx = mx' <;> simp [h0, h1, h2, h3, h4]
attribute [go_sem ↓] eql_head neq_head eql_set neq_set
end Go.Proofs.Ytkidjbfapldmbaa
