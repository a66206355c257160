/- How two sets are held against each other. -/
import Derived.Test.YtfjipiibkmapkaaAwake
import Derived.Laws.StructEq
import Derived.ChangeKeysEq
namespace Go.Proofs.Ytfjipiibkmapkaa
set_option linter.unusedVariables false
set_option linter.unusedSimpArgs false
open Go.RowKit

def setEq (a0 a1 a2 a3 b0 b1 b2 b3 : Int) : Bool := decide (a0 = b0 ∧ a1 = b1 ∧ a2 = b2 ∧ a3 = b3)

theorem cells22 : Try.prog.cellsOf 22 = 1 := by kernel_rfl
theorem info22 : ∃ i, Try.prog.info? 22 = some i := Option.isSome_iff_exists.1 (by kernel_rfl)

theorem eqIn_set (t : TypeId) (hu : Try.prog.underlying t = some (.array 4 22)) (d : Nat) (a0 a1 a2 a3 b0 b1 b2 b3 : Int) (w : World) :
    (Op.equalIn (d + 2) t (.agg #[.int .u64 a0, .int .u64 a1, .int .u64 a2, .int .u64 a3]) (.agg #[.int .u64 b0, .int .u64 b1, .int .u64 b2, .int .u64 b3])).run Try.prog w = .ok (setEq a0 a1 a2 a3 b0 b1 b2 b3) w := by
  obtain ⟨i, hi⟩ := info22
  rw [show d + 2 = (d + 1) + 1 from rfl, run_equalIn_array w (d + 1) _ _ hu hi, cells22]
  simp only [List.range_succ, List.range_zero, List.nil_append, List.cons_append, Op.eqItems]
  go_simp
  unfold setEq
  by_cases h0 : a0 = b0 <;> by_cases h1 : a1 = b1 <;> by_cases h2 : a2 = b2 <;> by_cases h3 : a3 = b3 <;> simp [h0, h1, h2, h3]

theorem eql_set (t : TypeId) (hu : Try.prog.underlying t = some (.array 4 22)) (a0 a1 a2 a3 b0 b1 b2 b3 : Int) (w : World) :
    (binOp .eql t (.agg #[.int .u64 a0, .int .u64 a1, .int .u64 a2, .int .u64 a3]) (.agg #[.int .u64 b0, .int .u64 b1, .int .u64 b2, .int .u64 b3])).run Try.prog w = .ok (.bool (setEq a0 a1 a2 a3 b0 b1 b2 b3)) w := by
  simp only [binOp, Op.equal, Op.maxDepth, Sem.run_bind, eqIn_set t hu 9998 a0 a1 a2 a3 b0 b1 b2 b3, Result.andThen_ok, Sem.run_pure]

theorem neq_set (t : TypeId) (hu : Try.prog.underlying t = some (.array 4 22)) (a0 a1 a2 a3 b0 b1 b2 b3 : Int) (w : World) :
    (binOp .neq t (.agg #[.int .u64 a0, .int .u64 a1, .int .u64 a2, .int .u64 a3]) (.agg #[.int .u64 b0, .int .u64 b1, .int .u64 b2, .int .u64 b3])).run Try.prog w = .ok (.bool (!(setEq a0 a1 a2 a3 b0 b1 b2 b3))) w := by
  simp only [binOp, Op.equal, Op.maxDepth, Sem.run_bind, eqIn_set t hu 9998 a0 a1 a2 a3 b0 b1 b2 b3, Result.andThen_ok, Sem.run_pure]

theorem setEq_self (a0 a1 a2 a3 : Int) : setEq a0 a1 a2 a3 a0 a1 a2 a3 = true := by simp [setEq]
theorem eqi24 (a0 a1 a2 a3 b0 b1 b2 b3 : Int) (w : World) : Sem.run Try.prog (Op.equalIn 10000 24 (.agg #[.int .u64 a0, .int .u64 a1, .int .u64 a2, .int .u64 a3]) (.agg #[.int .u64 b0, .int .u64 b1, .int .u64 b2, .int .u64 b3])) w = .ok (setEq a0 a1 a2 a3 b0 b1 b2 b3) w := eqIn_set _ (by kernel_rfl) 9998 ..
theorem eqs24 (a0 a1 a2 a3 b0 b1 b2 b3 : Int) (w : World) : (binOp .eql 24 (.agg #[.int .u64 a0, .int .u64 a1, .int .u64 a2, .int .u64 a3]) (.agg #[.int .u64 b0, .int .u64 b1, .int .u64 b2, .int .u64 b3])).run Try.prog w = .ok (.bool (setEq a0 a1 a2 a3 b0 b1 b2 b3)) w := eql_set _ (by kernel_rfl) ..
theorem eqi26 (a0 a1 a2 a3 b0 b1 b2 b3 : Int) (w : World) : Sem.run Try.prog (Op.equalIn 10000 26 (.agg #[.int .u64 a0, .int .u64 a1, .int .u64 a2, .int .u64 a3]) (.agg #[.int .u64 b0, .int .u64 b1, .int .u64 b2, .int .u64 b3])) w = .ok (setEq a0 a1 a2 a3 b0 b1 b2 b3) w := eqIn_set _ (by kernel_rfl) 9998 ..
theorem eqs26 (a0 a1 a2 a3 b0 b1 b2 b3 : Int) (w : World) : (binOp .eql 26 (.agg #[.int .u64 a0, .int .u64 a1, .int .u64 a2, .int .u64 a3]) (.agg #[.int .u64 b0, .int .u64 b1, .int .u64 b2, .int .u64 b3])).run Try.prog w = .ok (.bool (setEq a0 a1 a2 a3 b0 b1 b2 b3)) w := eql_set _ (by kernel_rfl) ..

end Go.Proofs.Ytfjipiibkmapkaa
