/- Whole numbers as floats: places in a text, as a span has them. -/
import Derived.Test.YtkidjbfapldmbaaMt
namespace Go.Proofs.Ytkidjbfapldmbaa
set_option linter.unusedVariables false
set_option linter.unusedSimpArgs false
open P8

/-- The float of a whole number. -/
def F (n : Nat) : Nat := FloatKind.f64.nearest (n : Int)
def kOf (n : Nat) : Nat := if n = 0 then 1074 else 52 - n.log2
set_option maxRecDepth 100000 in
theorem F_read : ∀ n < 701, FloatKind.f64.decode (F n) = .number false (n <<< kOf n) (-(kOf n : Int)) := by decide +kernel
theorem F_order {a b : Nat} (ha : a < 701) (hb : b < 701) : FloatKind.f64.format.order (F a) (F b) = some (compare (a : Int) (b : Int)) := by
  have h1 : FloatKind.f64.format.read (F a) = _ := F_read a ha
  have h2 : FloatKind.f64.format.read (F b) = _ := F_read b hb
  rw [Ieee.Format.order, h1, h2, Ieee.Datum.order]
  congr 1
  have e : ∀ (n k m : Nat), k ≤ m → Ieee.signed false (n <<< k) (-(k : Int) - min (-(k : Int)) (-(m : Int))).toNat = ((n * 2 ^ m : Nat) : Int) := by
    intro n k m h
    rw [show (-(k : Int) - min (-(k : Int)) (-(m : Int))).toNat = m - k by omega, Ieee.signed]
    simp only [Bool.false_eq_true, if_false]
    rw [Nat.shiftLeft_eq, Nat.shiftLeft_eq, Nat.mul_assoc, ← Nat.pow_add, show k + (m - k) = m by omega]
  have e2 : ∀ (n k m : Nat), k ≤ m → Ieee.signed false (n <<< k) (-(k : Int) - min (-(m : Int)) (-(k : Int))).toNat = ((n * 2 ^ m : Nat) : Int) := by
    intro n k m h; rw [Int.min_comm]; exact e n k m h
  have c : ∀ m : Nat, compare ((a * 2 ^ m : Nat) : Int) ((b * 2 ^ m : Nat) : Int) = compare (a : Int) (b : Int) := by
    intro m
    have hp : 0 < 2 ^ m := Nat.two_pow_pos m
    rcases Nat.lt_trichotomy a b with h | h | h
    · have h3 := Nat.mul_lt_mul_of_pos_right h hp
      rw [Int.compare_eq_lt.2 (by omega), Int.compare_eq_lt.2 (by omega)]
    · subst h; rw [Int.compare_eq_eq.2 rfl, Int.compare_eq_eq.2 rfl]
    · have h3 := Nat.mul_lt_mul_of_pos_right h hp
      rw [Int.compare_eq_gt.2 (by omega), Int.compare_eq_gt.2 (by omega)]
  rcases Nat.le_total (kOf a) (kOf b) with h | h
  · rw [e a _ _ h]
    have := e2 b (kOf b) (kOf b) (Nat.le_refl _)
    rw [show min (-(kOf a : Int)) (-(kOf b : Int)) = min (-(kOf b : Int)) (-(kOf b : Int)) by omega, this]
    exact c _
  · rw [e2 b _ _ h]
    have := e a (kOf a) (kOf a) (Nat.le_refl _)
    rw [show min (-(kOf a : Int)) (-(kOf b : Int)) = min (-(kOf a : Int)) (-(kOf a : Int)) by omega, this]
    exact c _

end Go.Proofs.Ytkidjbfapldmbaa
