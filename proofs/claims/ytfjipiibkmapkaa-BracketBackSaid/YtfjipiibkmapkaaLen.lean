/- How many bytes a set has, as the program counts: Len, over OnesCount64. -/
import Derived.Test.YtfjipiibkmapkaaParse
namespace Go.Proofs.Ytfjipiibkmapkaa
set_option linter.unusedVariables false
set_option linter.unusedSimpArgs false
open Go.RowKit

def pa1 (x : Int) : Int := IntKind.u64.wrap (bits .and .u64 (x / 2) 6148914691236517205 + bits .and .u64 x 6148914691236517205)
def pa2 (x : Int) : Int := IntKind.u64.wrap (bits .and .u64 (x / 4) 3689348814741910323 + bits .and .u64 x 3689348814741910323)
def pa3 (x : Int) : Int := bits .and .u64 (IntKind.u64.wrap (x / 16 + x)) 1085102592571150095
def pa4 (x : Int) : Int := IntKind.u64.wrap (x + x / 256)
def pa5 (x : Int) : Int := IntKind.u64.wrap (x + x / 65536)
def pa6 (x : Int) : Int := IntKind.u64.wrap (x + x / 4294967296)
def popG (x : Int) : Int := bits .and .i64 (wrap64 (pa6 (pa5 (pa4 (pa3 (pa2 (pa1 x))))))) 127

set_option maxRecDepth 100000 in
theorem ones_any (x : Int) (w : World) :
    Calls Try.prog 24 #[.int .u64 x] w fun e w' => e = .returned (.int .i64 (popG x)) ∧ Keep Nb w w' := by
  obtain ⟨R, hR⟩ : ∃ R, R = popG x := ⟨_, rfl⟩
  rw [← hR]
  have HR := Lib.hid hR
  clear hR
  go_enter Try.func24, Try.ntmps24
  go_wp2_with fail
  go_ret
  exact ⟨by rw [HR.out]; rfl, Keep.refl _ _⟩

theorem size22 : (Try.prog.info? 22).map (·.size) = some 1 := by kernel_rfl
theorem idx0 (a0 a1 a2 a3 : Value) (w : World) : Sem.run Try.prog (Instr.index 26 (.agg #[a0, a1, a2, a3]) (.int .i64 0)) w = .ok a0 w := by
  have u1 : Sem.run Try.prog (underlying 26) w = _ := run_underlying Try.underlying26 w
  have u2 : Sem.run Try.prog (underlying 22) w = _ := run_underlying Try.underlying22 w
  have z2 : Sem.run Try.prog (sizeOf 22) w = .ok 1 w := by
    obtain ⟨j, hj, hjs⟩ := Option.map_eq_some_iff.1 size22
    simp [sizeOf, typeInfo, hj, hjs]
  simp [Instr.index, part, isAgg, asAgg, asIntOf, Sem.run_bind, u1, u2, z2]
theorem idx1 (a0 a1 a2 a3 : Value) (w : World) : Sem.run Try.prog (Instr.index 26 (.agg #[a0, a1, a2, a3]) (.int .i64 1)) w = .ok a1 w := by
  have u1 : Sem.run Try.prog (underlying 26) w = _ := run_underlying Try.underlying26 w
  have u2 : Sem.run Try.prog (underlying 22) w = _ := run_underlying Try.underlying22 w
  have z2 : Sem.run Try.prog (sizeOf 22) w = .ok 1 w := by
    obtain ⟨j, hj, hjs⟩ := Option.map_eq_some_iff.1 size22
    simp [sizeOf, typeInfo, hj, hjs]
  simp [Instr.index, part, isAgg, asAgg, asIntOf, Sem.run_bind, u1, u2, z2]
theorem idx2 (a0 a1 a2 a3 : Value) (w : World) : Sem.run Try.prog (Instr.index 26 (.agg #[a0, a1, a2, a3]) (.int .i64 2)) w = .ok a2 w := by
  have u1 : Sem.run Try.prog (underlying 26) w = _ := run_underlying Try.underlying26 w
  have u2 : Sem.run Try.prog (underlying 22) w = _ := run_underlying Try.underlying22 w
  have z2 : Sem.run Try.prog (sizeOf 22) w = .ok 1 w := by
    obtain ⟨j, hj, hjs⟩ := Option.map_eq_some_iff.1 size22
    simp [sizeOf, typeInfo, hj, hjs]
  simp [Instr.index, part, isAgg, asAgg, asIntOf, Sem.run_bind, u1, u2, z2]
theorem idx3 (a0 a1 a2 a3 : Value) (w : World) : Sem.run Try.prog (Instr.index 26 (.agg #[a0, a1, a2, a3]) (.int .i64 3)) w = .ok a3 w := by
  have u1 : Sem.run Try.prog (underlying 26) w = _ := run_underlying Try.underlying26 w
  have u2 : Sem.run Try.prog (underlying 22) w = _ := run_underlying Try.underlying22 w
  have z2 : Sem.run Try.prog (sizeOf 22) w = .ok 1 w := by
    obtain ⟨j, hj, hjs⟩ := Option.map_eq_some_iff.1 size22
    simp [sizeOf, typeInfo, hj, hjs]
  simp [Instr.index, part, isAgg, asAgg, asIntOf, Sem.run_bind, u1, u2, z2]
attribute [local go_sem] idx0 idx1 idx2 idx3

def lenN (f : Nat → Int) : Nat → Int
  | 0 => 0
  | j + 1 => wrap64 (lenN f j + popG (f j))

set_option maxRecDepth 100000 in
set_option maxHeartbeats 1000000 in
theorem len_t (f : Nat → Int) (w : World) :
    Calls Try.prog 12 #[.agg (setRow f)] w fun e w' => e = .returned (.int .i64 (lenN f 4)) ∧ Keep Nb w w' := by
  simp only [setRow]
  go_enter Try.func12, Try.ntmps12
  go_wp2_with fail
  go_loopw [3, 7] (fun o i wr => ∃ (j : Nat), j ≤ 4 ∧ i = .int .i64 j ∧ o = .int .i64 (lenN f j) ∧ Keep Nb w wr) (fun _ i _ => 4 - (intOf i).toNat)
  case atStart => exact ⟨0, by omega, rfl, rfl, (by repeat (first | assumption | exact Keep.refl _ _ | refine Keep.alloc ?_ _ | refine Keep.drew ?_ | refine Keep.setCell ?_ (Or.inl (by simp)) _ | refine Keep.setRow ?_ (Or.inl (by simp)) _))⟩
  case round =>
    obtain ⟨j, hj, rfl, ho, hk⟩ := hrel
    by_cases hlt : j < 4
    · have : j = 0 ∨ j = 1 ∨ j = 2 ∨ j = 3 := by omega
      rcases this with rfl | rfl | rfl | rfl
      · obtain ⟨n0, hn0⟩ : ∃ n, n = lenN f 0 := ⟨_, rfl⟩
        rw [← hn0] at ho
        subst ho
        go_wp2_with fail
        refine (ones_any (f 0) _).mono ?_
        rintro e w2 ⟨rfl, hkn⟩
        have hk2 := hk.trans hkn (fun _ _ h => h)
        clear hkn
        generalize hpp : popG (f 0) = pp
        go_wp2_with fail
        go_roundw
        case rel => exact ⟨1, by omega, rfl, by rw [← hpp]; rfl, hk2⟩
        case measure => simp [intOf]
      · obtain ⟨n0, hn0⟩ : ∃ n, n = lenN f 1 := ⟨_, rfl⟩
        rw [← hn0] at ho
        subst ho
        go_wp2_with fail
        refine (ones_any (f 1) _).mono ?_
        rintro e w2 ⟨rfl, hkn⟩
        have hk2 := hk.trans hkn (fun _ _ h => h)
        clear hkn
        generalize hpp : popG (f 1) = pp
        go_wp2_with fail
        go_roundw
        case rel => exact ⟨2, by omega, rfl, by rw [← hpp]; rfl, hk2⟩
        case measure => simp [intOf]
      · obtain ⟨n0, hn0⟩ : ∃ n, n = lenN f 2 := ⟨_, rfl⟩
        rw [← hn0] at ho
        subst ho
        go_wp2_with fail
        refine (ones_any (f 2) _).mono ?_
        rintro e w2 ⟨rfl, hkn⟩
        have hk2 := hk.trans hkn (fun _ _ h => h)
        clear hkn
        generalize hpp : popG (f 2) = pp
        go_wp2_with fail
        go_roundw
        case rel => exact ⟨3, by omega, rfl, by rw [← hpp]; rfl, hk2⟩
        case measure => simp [intOf]
      · obtain ⟨n0, hn0⟩ : ∃ n, n = lenN f 3 := ⟨_, rfl⟩
        rw [← hn0] at ho
        subst ho
        go_wp2_with fail
        refine (ones_any (f 3) _).mono ?_
        rintro e w2 ⟨rfl, hkn⟩
        have hk2 := hk.trans hkn (fun _ _ h => h)
        clear hkn
        generalize hpp : popG (f 3) = pp
        go_wp2_with fail
        go_roundw
        case rel => exact ⟨4, by omega, rfl, by rw [← hpp]; rfl, hk2⟩
        case measure => simp [intOf]
    · obtain rfl : j = 4 := by omega
      subst ho
      go_wp2_with fail
      go_ret
      exact ⟨rfl, hk⟩

end Go.Proofs.Ytfjipiibkmapkaa
