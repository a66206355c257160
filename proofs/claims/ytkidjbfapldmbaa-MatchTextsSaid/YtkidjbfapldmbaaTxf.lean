/- Any float against whole numbers: where it is one, and which. -/
import Derived.Test.YtkidjbfapldmbaaFna
namespace Go.Proofs.Ytkidjbfapldmbaa
set_option linter.unusedVariables false
set_option linter.unusedSimpArgs false
open P8

abbrev ordF (x y : Nat) : Option Ordering := FloatKind.f64.format.order x y
theorem signed_eq (neg : Bool) (m u : Nat) : Ieee.signed neg m u = (if neg then -1 else 1) * ((m * 2 ^ u : Nat) : Int) := by
  unfold Ieee.signed
  rw [Nat.shiftLeft_eq]
  cases neg <;> simp
theorem cmp_pow (X Y : Int) (w : Nat) : compare (X * ((2 ^ w : Nat) : Int)) (Y * ((2 ^ w : Nat) : Int)) = compare X Y := by
  have hp : (0 : Int) < ((2 ^ w : Nat) : Int) := by have := Nat.two_pow_pos w; omega
  rcases Int.lt_trichotomy X Y with h | h | h
  · rw [Int.compare_eq_lt.2 h, Int.compare_eq_lt.2 (Int.mul_lt_mul_of_pos_right h hp)]
  · subst h; rw [Int.compare_eq_eq.2 rfl, Int.compare_eq_eq.2 rfl]
  · rw [Int.compare_eq_gt.2 h, Int.compare_eq_gt.2 (Int.mul_lt_mul_of_pos_right h hp)]
theorem F_cmp {x : Nat} {neg : Bool} {m : Nat} {e : Int} (hx : FloatKind.f64.decode x = .number neg m e) {j : Nat} (hj : j < 701) :
    ordF x (F j) = some (compare (Ieee.signed neg m e.toNat) ((j * 2 ^ (-e).toNat : Nat) : Int)) := by
  have h1 : FloatKind.f64.format.read x = _ := hx
  have h2 : FloatKind.f64.format.read (F j) = _ := F_read j hj
  rw [ordF, Ieee.Format.order, h1, h2, Ieee.Datum.order]
  congr 1
  obtain ⟨k, hk⟩ : ∃ k, k = kOf j := ⟨_, rfl⟩
  rw [← hk]
  obtain ⟨b, hb⟩ : ∃ b, b = min e (-(k : Int)) := ⟨_, rfl⟩
  rw [← hb, signed_eq, signed_eq, signed_eq, Nat.shiftLeft_eq]
  obtain ⟨w, hw⟩ : ∃ w : Nat, (w : Int) = min e 0 - b := ⟨(min e 0 - b).toNat, by omega⟩
  have e1 : (e - b).toNat = e.toNat + w := by omega
  have e2 : k + (-(k : Int) - b).toNat = (-e).toNat + w := by omega
  have a1 : m * 2 ^ (e - b).toNat = m * 2 ^ e.toNat * 2 ^ w := by rw [e1, Nat.pow_add, Nat.mul_assoc]
  have a2 : j * 2 ^ k * 2 ^ (-(k : Int) - b).toNat = j * 2 ^ (-e).toNat * 2 ^ w := by rw [Nat.mul_assoc, ← Nat.pow_add, e2, Nat.pow_add, Nat.mul_assoc]
  rw [a1, a2]
  have c := cmp_pow ((if neg then -1 else 1) * ((m * 2 ^ e.toNat : Nat) : Int)) ((j * 2 ^ (-e).toNat : Nat) : Int) w
  rw [← c]
  congr 1
  · rw [Int.mul_assoc]
    congr 1
  · simp
theorem cut_zero (neg : Bool) (n drop : Nat) : Ieee.Toward.cut .zero neg n drop = n / 2 ^ drop := by
  unfold Ieee.Toward.cut
  simp only [Bool.toNat_false, Nat.add_zero, Nat.one_shiftLeft]
  by_cases h : drop ≤ n.log2 + 2
  · rw [Nat.min_eq_left h]
  · rw [Nat.min_eq_right (by omega)]
    have h1 : n < 2 ^ (n.log2 + 1) := Nat.lt_log2_self
    have h2 : 2 ^ (n.log2 + 1) ≤ 2 ^ (n.log2 + 2) := Nat.pow_le_pow_right (by omega) (by omega)
    have h3 : 2 ^ (n.log2 + 1) ≤ 2 ^ drop := Nat.pow_le_pow_right (by omega) (by omega)
    rw [Nat.div_eq_of_lt (by omega), Nat.div_eq_of_lt (by omega)]
/-- What Trunc answers. -/
def truncF (x : Nat) : Nat := FloatKind.f64.encode ((FloatKind.f64.decode x).integral .zero)
theorem negzero_read : FloatKind.f64.decode (FloatKind.f64.encode (.number true 0 0)) = .number true 0 (-1074) := by decide +kernel
theorem F_enc (i : Nat) : FloatKind.f64.encode (.number false i 0) = F i := by
  unfold F FloatKind.nearest
  rw [show decide ((i : Int) < 0) = false by simp, Int.natAbs_natCast]

/-- A float in the bounds, whole: which number it is. -/
theorem place_yes {x n : Nat} (hn : n < 701) (h0 : (ordF x (F 0) == some .gt || ordF x (F 0) == some .eq) = true) (h1 : (ordF x (F n) == some .lt || ordF x (F n) == some .eq) = true)
    (ht : ordF x (truncF x) = some .eq) : ∃ i, i ≤ n ∧ ordF x (F i) = some .eq := by
  cases hd : FloatKind.f64.decode x with
  | nan s t =>
    have hd' : FloatKind.f64.format.read x = _ := hd
    rw [ordF, Ieee.Format.order, hd'] at h0
    simp [Ieee.Datum.order] at h0
  | infinity s =>
    have hd' : FloatKind.f64.format.read x = _ := hd
    have r0 : FloatKind.f64.format.read (F 0) = _ := F_read 0 (by omega)
    have rn : FloatKind.f64.format.read (F n) = _ := F_read n hn
    rw [ordF, Ieee.Format.order, hd', r0] at h0
    rw [ordF, Ieee.Format.order, hd', rn] at h1
    cases s <;> simp [Ieee.Datum.order] at h0 h1
  | number neg m e =>
    rw [F_cmp hd (by omega)] at h0
    rw [F_cmp hd hn] at h1
    rw [signed_eq] at h0 h1
    have hpos : neg = true → m = 0 := fun hneg => by
      subst hneg
      simp only [Nat.zero_mul] at h0
      have hle : (0 : Int) ≤ (if (true : Bool) = true then -1 else 1) * ((m * 2 ^ e.toNat : Nat) : Int) := by
        simp only [Bool.or_eq_true, beq_iff_eq, Option.some.injEq] at h0
        rcases h0 with h | h
        · have := Int.compare_eq_gt.1 h; simpa using Int.le_of_lt this
        · have := Int.compare_eq_eq.1 h; simp at this ⊢; omega
      simp only [if_true] at hle
      have : m * 2 ^ e.toNat = 0 := by omega
      rcases Nat.mul_eq_zero.1 this with h | h
      · exact h
      · have := Nat.two_pow_pos e.toNat; omega
    cases neg with
    | true =>
      refine ⟨0, Nat.zero_le _, ?_⟩
      rw [F_cmp hd (by omega), signed_eq, hpos rfl]
      simp
    | false =>
      have hle : m * 2 ^ e.toNat ≤ n * 2 ^ (-e).toNat := by
        simp only [Bool.or_eq_true, beq_iff_eq, Option.some.injEq] at h1
        rcases h1 with h | h
        · have := Int.compare_eq_lt.1 h; simp only [Bool.false_eq_true, if_false, Int.one_mul] at this; omega
        · have := Int.compare_eq_eq.1 h; simp only [Bool.false_eq_true, if_false, Int.one_mul] at this; omega
      refine ⟨m * 2 ^ e.toNat / 2 ^ (-e).toNat, Nat.div_le_of_le_mul (by rw [Nat.mul_comm (2 ^ (-e).toNat)]; exact hle), ?_⟩
      have : truncF x = F (m * 2 ^ e.toNat / 2 ^ (-e).toNat) := by
        rw [truncF, hd, Ieee.Datum.integral, cut_zero, F_enc, Nat.shiftLeft_eq]
      rw [← this]
      exact ht
/-- A float that is one of the numbers: it is in the bounds, whole, and turned into that number. -/
theorem place_is {x n i : Nat} (hn : n < 701) (hi : i ≤ n) (h : ordF x (F i) = some .eq) :
    (ordF x (F 0) == some .gt || ordF x (F 0) == some .eq) = true ∧ (ordF x (F n) == some .lt || ordF x (F n) == some .eq) = true ∧ ordF x (truncF x) = some .eq ∧ floatToIntVal .f64 x .i64 = some (i : Int) ∧
    ∀ j, j < 701 → (ordF x (F j) = some .eq ↔ j = i) := by
  cases hd : FloatKind.f64.decode x with
  | nan s t =>
    have hd' : FloatKind.f64.format.read x = _ := hd
    rw [ordF, Ieee.Format.order, hd'] at h
    simp [Ieee.Datum.order] at h
  | infinity s =>
    have hd' : FloatKind.f64.format.read x = _ := hd
    have r0 : FloatKind.f64.format.read (F i) = _ := F_read i (by omega)
    rw [ordF, Ieee.Format.order, hd', r0] at h
    cases s <;> simp [Ieee.Datum.order] at h
  | number neg m e =>
    have hv : Ieee.signed neg m e.toNat = ((i * 2 ^ (-e).toNat : Nat) : Int) := by
      rw [F_cmp hd (by omega)] at h
      exact Int.compare_eq_eq.1 (Option.some.inj h)
    have hp := Nat.two_pow_pos (-e).toNat
    have key : ∀ j, j < 701 → ordF x (F j) = some (compare (i : Int) (j : Int)) := fun j hj => by
      rw [F_cmp hd hj, hv]
      congr 1
      have := cmp_pow (i : Int) (j : Int) (-e).toNat
      rw [← this]
      simp
    have hdiv : i * 2 ^ (-e).toNat / 2 ^ (-e).toNat = i := Nat.mul_div_cancel _ hp
    have hcut : (neg = false ∧ m * 2 ^ e.toNat / 2 ^ (-e).toNat = i) ∨ (neg = true ∧ i = 0 ∧ m = 0) := by
      rw [signed_eq] at hv
      cases neg with
      | false =>
        simp only [Bool.false_eq_true, if_false, Int.one_mul] at hv
        have hv' : m * 2 ^ e.toNat = i * 2 ^ (-e).toNat := by omega
        exact .inl ⟨rfl, by rw [hv', hdiv]⟩
      | true =>
        simp only [if_true] at hv
        have z1 : m * 2 ^ e.toNat = 0 := by omega
        have z2 : i * 2 ^ (-e).toNat = 0 := by omega
        refine .inr ⟨rfl, ?_, ?_⟩
        · rcases Nat.mul_eq_zero.1 z2 with h | h
          · exact h
          · omega
        · rcases Nat.mul_eq_zero.1 z1 with h | h
          · exact h
          · have := Nat.two_pow_pos e.toNat; omega
    refine ⟨?_, ?_, ?_, ?_, fun j hj => ?_⟩
    · rw [key 0 (by omega)]
      rcases Nat.lt_or_ge 0 i with h | h
      · rw [Int.compare_eq_gt.2 (by omega)]; rfl
      · rw [Int.compare_eq_eq.2 (by omega)]; rfl
    · rw [key n hn]
      rcases Nat.lt_or_ge i n with h | h
      · rw [Int.compare_eq_lt.2 (by omega)]; rfl
      · rw [Int.compare_eq_eq.2 (by omega)]; rfl
    · rcases hcut with ⟨h1, h2⟩ | ⟨h1, h2, h3⟩
      · subst h1
        rw [truncF, hd, Ieee.Datum.integral, cut_zero, Nat.shiftLeft_eq, h2, F_enc]
        exact h
      · subst h1
        subst h3
        have hz : truncF x = FloatKind.f64.encode (.number true 0 0) := by
          rw [truncF, hd, Ieee.Datum.integral, cut_zero, Nat.shiftLeft_eq, Nat.zero_mul, Nat.zero_div]
        have r1 : FloatKind.f64.format.read x = _ := hd
        have r2 : FloatKind.f64.format.read (FloatKind.f64.encode (.number true 0 0)) = _ := negzero_read
        rw [hz, ordF, Ieee.Format.order, r1, r2, Ieee.Datum.order, signed_eq, signed_eq]
        simp
    · unfold floatToIntVal
      rw [hd]
      simp only [Ieee.Datum.toInt, Ieee.Datum.integral, cut_zero, Nat.shiftLeft_eq]
      have hb : IntKind.i64.min ≤ (i : Int) ∧ (i : Int) ≤ IntKind.i64.max := by
        have a1 : IntKind.i64.min = -9223372036854775808 := rfl
        have a2 : IntKind.i64.max = 9223372036854775807 := rfl
        omega
      rcases hcut with ⟨h1, h2⟩ | ⟨h1, h2, h3⟩
      · subst h1
        rw [h2, signed_eq]
        simp only [Bool.false_eq_true, if_false, Int.one_mul, Nat.pow_zero, Nat.mul_one]
        rw [if_pos hb]
      · subst h1
        subst h3
        subst h2
        rw [signed_eq, Nat.zero_mul, Nat.zero_div]
        simp
        exact hb.1
    · rw [key j hj]
      constructor
      · intro h
        have := Int.compare_eq_eq.1 (Option.some.inj h)
        omega
      · rintro rfl
        rw [Int.compare_eq_eq.2 rfl]

end Go.Proofs.Ytkidjbfapldmbaa
