/- Places in a text, as spans have them: span, Trunc, place, Text of the program. -/
import Derived.Test.YtkidjbfapldmbaaFlt
import Derived.Test.YtkidjbfapldmbaaHas
import Derived.Laws.FloatArith
import Derived.Laws.Externs
namespace Go.Proofs.Ytkidjbfapldmbaa
set_option linter.unusedVariables false
set_option linter.unusedSimpArgs false
open Go.RowKit P8

theorem F_of (n : Nat) : floatOfInt FloatKind.f64 (n : Int) = F n := rfl
theorem F_zero : F 0 = 0 := by decide +kernel
set_option maxRecDepth 100000 in
theorem F_int : ∀ n < 701, floatToIntVal .f64 (F n) .i64 = some (n : Int) := by decide +kernel
set_option maxRecDepth 100000 in
theorem F_trunc : ∀ n < 701, FloatKind.f64.encode ((FloatKind.f64.decode (F n)).integral .zero) = F n := by decide +kernel
theorem F_eq {a b : Nat} (ha : a < 701) (hb : b < 701) : (FloatKind.f64.format.order (F a) (F b) == some .eq) = decide (a = b) := by
  rw [F_order ha hb, Bool.eq_iff_iff, beq_iff_eq, Option.some.injEq, Int.compare_eq_eq]
  simp; omega
theorem F_lt {a b : Nat} (ha : a < 701) (hb : b < 701) : (FloatKind.f64.format.order (F a) (F b) == some .lt) = decide (a < b) := by
  rw [F_order ha hb, Bool.eq_iff_iff, beq_iff_eq, Option.some.injEq, Int.compare_eq_lt]
  simp
theorem F_gt {a b : Nat} (ha : a < 701) (hb : b < 701) : (FloatKind.f64.format.order (F a) (F b) == some .gt) = decide (b < a) := by
  rw [F_order ha hb, Bool.eq_iff_iff, beq_iff_eq, Option.some.injEq, Int.compare_eq_gt]
  simp
theorem F_back {a : Nat} (ha : a < 701) (w : World) : (convert 61 3 (.float .f64 (F a))).run Try.prog w = .ok (.int .i64 (a : Int)) w :=
  run_convert_float_int w _ _ _ _ _ _ (by kernel_rfl) Try.underlying3 (F_int a ha)

theorem span_any (a b : Nat) (w : World) :
    Calls Try.prog 100 #[.int .i64 (a : Int), .int .i64 (b : Int)] w fun e w' => e = .returned (.complex .f64 (F a) (F b)) ∧ w = w' := by
  have h1 := F_of a
  have h2 := F_of b
  go_enter Try.func100, Try.ntmps100
  go_wp2_with fail
  go_ret
  exact ⟨rfl, rfl⟩

section
attribute [local irreducible] FloatKind.decode FloatKind.encode
theorem trunc_run (a : Nat) (ha : a < 701) (w : World) : (Extern.MathFloor.toIntegral "math.archTrunc" .zero #[.float .f64 (F a)]).run Try.prog w = .ok (.float .f64 (F a)) w := by
  have h2 := F_trunc a ha
  have h1 := F_read a ha
  generalize F a = x at h1 h2 ⊢
  rw [h1] at h2
  unfold Extern.MathFloor.toIntegral
  conv => lhs; arg 2; whnf
  rw [h1]
  show Sem.run _ (pure (Value.float .f64 (FloatKind.f64.encode (Ieee.Datum.integral .zero (.number false (a <<< kOf a) (-(kOf a : Int))))))) w = _
  rw [h2]
  rfl
end

set_option maxRecDepth 100000 in
theorem trunc_any (a : Nat) (ha : a < 701) (w : World) :
    Calls Try.prog 93 #[.float .f64 (F a)] w fun e w' => e = .returned (.float .f64 (F a)) ∧ w = w' := by
  go_enter Try.func93, Try.ntmps93
  go_wp2_with fail
  rw [run_callFunc_extern Try.func109 (by kernel_rfl) (by kernel_rfl) (by kernel_rfl) (e := Extern.MathFloor.toIntegral "math.archTrunc" .zero) (by kernel_rfl)]
  rw [trunc_run a ha]
  simp only [Result.andThen]
  rw [Oper.upon_value]
  go_wp2_with fail
  go_ret
  exact ⟨rfl, rfl⟩

theorem place_any (T : ByteArray) (a : Nat) (ha : a ≤ T.size) (hT : T.size ≤ 600) (w : World) :
    Calls Try.prog 71 #[.string T, .float .f64 (F a)] w fun e w' => e = .returned (.int .i64 (a : Int)) ∧ w = w' := by
  have h1 := F_of T.size
  have o1 := F_gt (a := a) (b := 0) (by omega) (by omega)
  have o2 := F_eq (a := a) (b := 0) (by omega) (by omega)
  have o3 := F_lt (a := a) (b := T.size) (by omega) (by omega)
  have o4 := F_eq (a := a) (b := T.size) (by omega) (by omega)
  have o5 := F_eq (a := a) (b := a) (by omega) (by omega)
  rw [F_zero] at o1 o2
  have p1 : (decide (0 < a) || decide (a = 0)) = true := by simp; omega
  have p2 : (decide (a < T.size) || decide (a = T.size)) = true := by simp; omega
  have q1 : ((FloatKind.f64.format.order (F a) 0 == some .gt) || (FloatKind.f64.format.order (F a) 0 == some .eq)) = true := by rw [o1, o2]; exact p1
  have q2 : ((FloatKind.f64.format.order (F a) (F T.size) == some .lt) || (FloatKind.f64.format.order (F a) (F T.size) == some .eq)) = true := by rw [o3, o4]; exact p2
  have q3 : (FloatKind.f64.format.order (F a) (F a) != some .eq) = false := by rw [bne, o5]; simp
  have hb := fun wx => F_back (a := a) (by omega) wx
  clear o1 o2 o3 o4 o5 p1 p2
  go_enter Try.func71, Try.ntmps71
  go_wp2_with fail
  refine (trunc_any a (by omega) _).mono ?_
  rintro e w2 ⟨rfl, rfl⟩
  go_wp2_with fail
  go_ret
  exact ⟨rfl, rfl⟩

theorem text_any (T : ByteArray) (a b : Nat) (hab : a ≤ b) (hb : b ≤ T.size) (hT : T.size ≤ 600) (w : World) :
    Calls Try.prog 45 #[.string T, .complex .f64 (F a) (F b)] w fun e w' => e = .returned (.string (T.extract a b)) ∧ w = w' := by
  have g1 : decide ((a : Int) < 0) = false := by simp
  have g2 : decide ((b : Int) < (a : Int)) = false := by simp; omega
  have g3 : decide (b < a) = false := by simp; omega
  have g4 : (0 : Int) ≤ (a : Int) := by omega
  have g5 : (a : Int) ≤ (b : Int) := by omega
  have g6 : (b : Int) ≤ (T.size : Int) := by omega
  have HP := Lib.hid (fun a ha wx => place_any T a ha hT wx)
  have HA := Lib.hid hab
  have HB := Lib.hid hb
  clear hab hb
  go_enter Try.func45, Try.ntmps45
  go_wp2_with fail
  refine (HP.out a (Nat.le_trans HA.out HB.out) _).mono ?_
  rintro e w2 ⟨rfl, rfl⟩
  go_wp2_with fail
  refine (HP.out b HB.out _).mono ?_
  rintro e w2 ⟨rfl, rfl⟩
  go_wp2_with fail
  go_ret
  exact ⟨rfl, rfl⟩

end Go.Proofs.Ytkidjbfapldmbaa
