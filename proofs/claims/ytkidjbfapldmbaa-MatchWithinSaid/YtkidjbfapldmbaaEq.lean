/- How two sets, and two heads of nodes, are held against each other. -/
import Derived.Test.YtkidjbfapldmbaaBase
import Derived.Laws.StructEq
import Derived.ChangeKeysEq
namespace Go.Proofs.Ytkidjbfapldmbaa
set_option linter.unusedVariables false
set_option linter.unusedSimpArgs false
open Go.RowKit P8

def setEq (a0 a1 a2 a3 b0 b1 b2 b3 : Int) : Bool := decide (a0 = b0 ∧ a1 = b1 ∧ a2 = b2 ∧ a3 = b3)

theorem cells22 : Try.prog.cellsOf 22 = 1 := by kernel_rfl
theorem info22 : ∃ i, Try.prog.info? 22 = some i := Option.isSome_iff_exists.1 (by kernel_rfl)

theorem eqIn_set (t : TypeId) (hu : Try.prog.underlying t = some (.array 4 22)) (d : Nat) (a0 a1 a2 a3 b0 b1 b2 b3 : Int) (w : World) :
    (Op.equalIn (d + 2) t (.agg #[.int .u64 a0, .int .u64 a1, .int .u64 a2, .int .u64 a3]) (.agg #[.int .u64 b0, .int .u64 b1, .int .u64 b2, .int .u64 b3])).run Try.prog w = .ok (setEq a0 a1 a2 a3 b0 b1 b2 b3) w := by
  obtain ⟨i, hi⟩ := info22
  rw [show d + 2 = (d + 1) + 1 from rfl, run_equalIn_array w (d + 1) _ _ hu hi, cells22]
  simp only [List.range_succ, List.range_zero, List.nil_append, List.cons_append, Op.eqItems]
  go_simp
  unfold setEq
  by_cases h0 : a0 = b0 <;> by_cases h1 : a1 = b1 <;> by_cases h2 : a2 = b2 <;> by_cases h3 : a3 = b3 <;> simp [h0, h1, h2, h3]

theorem eql_set (t : TypeId) (hu : Try.prog.underlying t = some (.array 4 22)) (a0 a1 a2 a3 b0 b1 b2 b3 : Int) (w : World) :
    (binOp .eql t (.agg #[.int .u64 a0, .int .u64 a1, .int .u64 a2, .int .u64 a3]) (.agg #[.int .u64 b0, .int .u64 b1, .int .u64 b2, .int .u64 b3])).run Try.prog w = .ok (.bool (setEq a0 a1 a2 a3 b0 b1 b2 b3)) w := by
  simp only [binOp, Op.equal, Op.maxDepth, Sem.run_bind, eqIn_set t hu 9998 a0 a1 a2 a3 b0 b1 b2 b3, Result.andThen_ok, Sem.run_pure]

theorem neq_set (t : TypeId) (hu : Try.prog.underlying t = some (.array 4 22)) (a0 a1 a2 a3 b0 b1 b2 b3 : Int) (w : World) :
    (binOp .neq t (.agg #[.int .u64 a0, .int .u64 a1, .int .u64 a2, .int .u64 a3]) (.agg #[.int .u64 b0, .int .u64 b1, .int .u64 b2, .int .u64 b3])).run Try.prog w = .ok (.bool (!(setEq a0 a1 a2 a3 b0 b1 b2 b3))) w := by
  simp only [binOp, Op.equal, Op.maxDepth, Sem.run_bind, eqIn_set t hu 9998 a0 a1 a2 a3 b0 b1 b2 b3, Result.andThen_ok, Sem.run_pure]

def headEq (a b : Hd) : Bool := decide (a = b)
theorem headEq_iff {a b : Hd} : headEq a b = true ↔ a = b := by simp [headEq]

theorem headEq_parts (a b : Hd) : headEq a b = decide (a.k = b.k ∧ a.c = b.c ∧ setEq a.s0 a.s1 a.s2 a.s3 b.s0 b.s1 b.s2 b.s3 = true ∧ a.n = b.n ∧ a.mn = b.mn ∧ a.mx = b.mx) := by
  unfold headEq setEq
  rw [decide_eq_decide]
  cases a; cases b
  simp only [Hd.mk.injEq, decide_eq_true_eq]
  exact ⟨fun ⟨a, b, c, d, e, f, g, h, i⟩ => ⟨a, b, ⟨c, d, e, f⟩, g, h, i⟩, fun ⟨a, b, ⟨c, d, e, f⟩, g, h, i⟩ => ⟨a, b, c, d, e, f, g, h, i⟩⟩

theorem eql_head (k c s0 s1 s2 s3 n mn mx k' c' s0' s1' s2' s3' n' mn' mx' : Int) (w : World) :
    (binOp .eql 90 (.agg #[.int .i64 k, .int .u8 c, .int .u64 s0, .int .u64 s1, .int .u64 s2, .int .u64 s3, .int .i64 n, .int .i64 mn, .int .i64 mx])
      (.agg #[.int .i64 k', .int .u8 c', .int .u64 s0', .int .u64 s1', .int .u64 s2', .int .u64 s3', .int .i64 n', .int .i64 mn', .int .i64 mx'])).run Try.prog w =
      .ok (.bool (headEq ⟨k, c, s0, s1, s2, s3, n, mn, mx⟩ ⟨k', c', s0', s1', s2', s3', n', mn', mx'⟩)) w := by
  have h30 := fun d => eqIn_set 30 (by kernel_rfl) d s0 s1 s2 s3 s0' s1' s2' s3'
  have h30' := h30 9997
  rw [headEq_parts]
  go_simp
  generalize setEq s0 s1 s2 s3 s0' s1' s2' s3' = q
  by_cases h0 : k = k' <;> by_cases h1 : c = c' <;> cases q <;> by_cases h2 : n = n' <;> by_cases h3 : mn = mn' <;> by_cases h4 : mx = mx' <;> simp [h0, h1, h2, h3, h4]

theorem neq_head (k c s0 s1 s2 s3 n mn mx k' c' s0' s1' s2' s3' n' mn' mx' : Int) (w : World) :
    (binOp .neq 90 (.agg #[.int .i64 k, .int .u8 c, .int .u64 s0, .int .u64 s1, .int .u64 s2, .int .u64 s3, .int .i64 n, .int .i64 mn, .int .i64 mx])
      (.agg #[.int .i64 k', .int .u8 c', .int .u64 s0', .int .u64 s1', .int .u64 s2', .int .u64 s3', .int .i64 n', .int .i64 mn', .int .i64 mx'])).run Try.prog w =
      .ok (.bool (!(headEq ⟨k, c, s0, s1, s2, s3, n, mn, mx⟩ ⟨k', c', s0', s1', s2', s3', n', mn', mx'⟩))) w := by
  have h30 := fun d => eqIn_set 30 (by kernel_rfl) d s0 s1 s2 s3 s0' s1' s2' s3'
  have h30' := h30 9997
  rw [headEq_parts]
  go_simp
  generalize setEq s0 s1 s2 s3 s0' s1' s2' s3' = q
  by_cases h0 : k = k' <;> by_cases h1 : c = c' <;> cases q <;> by_cases h2 : n = n' <;> by_cases h3 : mn = mn' <;> by_cases h4 : mx = mx' <;> simp [h0, h1, h2, h3, h4]

attribute [go_sem ↓] eql_head neq_head eql_set neq_set

end Go.Proofs.Ytkidjbfapldmbaa
