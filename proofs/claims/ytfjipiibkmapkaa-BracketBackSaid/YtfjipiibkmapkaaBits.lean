/- Sets as rows of bits: which bytes are in with, or, not; sets of the same bytes are the same. -/
import Derived.Test.YtfjipiibkmapkaaPop
import Derived.Laws.Bits64b
import Derived.Laws.Bits64
namespace Go.Proofs.Ytfjipiibkmapkaa
set_option linter.unusedVariables false
set_option linter.unusedSimpArgs false
open Go.RowKit

def inU (f : Nat → Int) : Prop := ∀ i, 0 ≤ f i ∧ f i < 18446744073709551616
theorem or_in (x y : Int) : 0 ≤ bits .or .u64 x y ∧ bits .or .u64 x y < 18446744073709551616 := by
  show 0 ≤ IntKind.u64.wrap _ ∧ IntKind.u64.wrap _ < _
  rw [IntKind.wrap_u64]
  omega
theorem setBit_in {f : Nat → Int} (h : inU f) (c : Nat) : inU (setBit f c) := fun i => by
  unfold setBit
  split
  · exact or_in _ _
  · exact h i
theorem withN_in : ∀ (n : Nat) {f : Nat → Int} (_ : inU f) (a : Nat), inU (withN f a n)
  | 0, _, h, _ => h
  | n + 1, _, h, a => withN_in n (setBit_in h a) (a + 1)

theorem nat_of {f : Nat → Int} (h : inU f) (i : Nat) : f i = ((f i).toNat : Int) ∧ (f i).toNat < 18446744073709551616 := by have := h i; omega
theorem hasF_tb {f : Nat → Int} (h : inU f) (c : Nat) : hasF f c = (f (c / 64)).toNat.testBit (c % 64) := by
  obtain ⟨e, hl⟩ := nat_of h (c / 64)
  have hb := hasF_bit f (c / 64) (c % 64) (Nat.mod_lt _ (by omega)) _ hl e
  rw [show 64 * (c / 64) + c % 64 = c by omega] at hb
  rw [Nat.testBit_eq_decide_div_mod_eq]
  cases hh : hasF f c with
  | true => rw [hh] at hb; simp only [if_true] at hb; rw [← hb]; rfl
  | false => rw [hh] at hb; rw [if_neg (by simp)] at hb; rw [← hb]; rfl
theorem or_nat {f g : Nat → Int} (hf : inU f) (hg : inU g) (i : Nat) : bits .or .u64 (f i) (g i) = (((f i).toNat ||| (g i).toNat : Nat) : Int) := by
  obtain ⟨e1, l1⟩ := nat_of hf i
  obtain ⟨e2, l2⟩ := nat_of hg i
  have := bits_or_u64_nat (f i).toNat (g i).toNat l1 l2
  rw [← e1, ← e2] at this
  exact this
theorem orF_in (f g : Nat → Int) : inU (orF f g) := fun i => or_in (f i) (g i)
theorem hasF_or {f g : Nat → Int} (hf : inU f) (hg : inU g) (c : Nat) : hasF (orF f g) c = (hasF f c || hasF g c) := by
  rw [hasF_tb (orF_in f g), hasF_tb hf, hasF_tb hg, orF, or_nat hf hg, Int.toNat_natCast, Nat.testBit_or]
theorem pow_wrap (k : Nat) (h : k < 64) : IntKind.u64.wrap ((2 : Int) ^ k) = ((2 ^ k : Nat) : Int) := by
  have h1 : (2 : Nat) ^ k < 18446744073709551616 := Nat.lt_of_lt_of_le (Nat.pow_lt_pow_right (by omega) h) (by decide)
  rw [IntKind.wrap_u64, show (2 : Int) ^ k = ((2 ^ k : Nat) : Int) by simp]
  generalize (2 : Nat) ^ k = p at h1 ⊢
  omega
theorem hasF_setBit {f : Nat → Int} (hf : inU f) (x c : Nat) : hasF (setBit f c) x = (decide (x = c) || hasF f x) := by
  rw [hasF_tb (setBit_in hf c), hasF_tb hf]
  by_cases hq : x / 64 = c / 64
  · obtain ⟨e1, l1⟩ := nat_of hf (x / 64)
    have h1 : (2 : Nat) ^ (c % 64) < 18446744073709551616 := Nat.lt_of_lt_of_le (Nat.pow_lt_pow_right (by omega) (Nat.mod_lt _ (by omega))) (by decide)
    have h2 : setBit f c (x / 64) = (((f (x / 64)).toNat ||| 2 ^ (c % 64) : Nat) : Int) := by
      unfold setBit
      rw [if_pos hq, pow_wrap _ (Nat.mod_lt _ (by omega))]
      have := bits_or_u64_nat (f (x / 64)).toNat (2 ^ (c % 64)) l1 h1
      rw [← e1] at this
      exact this
    rw [h2, Int.toNat_natCast, Nat.testBit_or, Nat.testBit_two_pow, Bool.or_comm]
    congr 1
    rw [decide_eq_decide]
    omega
  · have h2 : setBit f c (x / 64) = f (x / 64) := by unfold setBit; rw [if_neg hq]
    rw [h2, decide_eq_false (by rintro rfl; exact hq rfl), Bool.false_or]
theorem hasF_withN : ∀ (n : Nat) {f : Nat → Int} (_ : inU f) (a x : Nat), hasF (withN f a n) x = (decide (a ≤ x ∧ x < a + n) || hasF f x)
  | 0, f, _, a, x => by
    rw [decide_eq_false (by omega)]; rfl
  | n + 1, f, hf, a, x => by
    show hasF (withN (setBit f a) (a + 1) n) x = _
    rw [hasF_withN n (setBit_in hf a) (a + 1) x, hasF_setBit hf, ← Bool.or_assoc]
    congr 1
    rw [← Bool.decide_or, decide_eq_decide]
    omega
theorem zero_in : inU zeroF := fun _ => ⟨Int.le_refl _, by show (0 : Int) < _; omega⟩
theorem hasF_zero (x : Nat) : hasF zeroF x = false := by
  rw [hasF_tb zero_in]
  show (0 : Nat).testBit _ = false
  simp
theorem withF_in {f : Nat → Int} (h : inU f) (a b : Nat) : inU (withF f a b) := withN_in _ h a
theorem hasF_range (a b x : Nat) (h : a ≤ b) : hasF (withF zeroF a b) x = decide (a ≤ x ∧ x ≤ b) := by
  rw [withF, hasF_withN _ zero_in, hasF_zero, Bool.or_false, decide_eq_decide]
  omega
theorem notF_nat {f : Nat → Int} (hf : inU f) (i : Nat) : notF f i = ((18446744073709551615 ^^^ (f i).toNat : Nat) : Int) := by
  obtain ⟨e1, l1⟩ := nat_of hf i
  have := bits_xor_u64_nat 18446744073709551615 (f i).toNat (by omega) l1
  rw [← e1] at this
  exact this
theorem notF_in {f : Nat → Int} (hf : inU f) : inU (notF f) := fun i => by
  rw [notF_nat hf i]
  have h := Nat.xor_lt_two_pow (n := 64) (x := 18446744073709551615) (y := (f i).toNat) (by decide) (by have := (nat_of hf i).2; exact Nat.lt_of_lt_of_le this (by decide))
  have : (2 : Nat) ^ 64 = 18446744073709551616 := by decide
  omega
theorem hasF_not {f : Nat → Int} (hf : inU f) (x : Nat) : hasF (notF f) x = !hasF f x := by
  rw [hasF_tb (notF_in hf), hasF_tb hf, notF_nat hf, Int.toNat_natCast, Nat.testBit_xor, show (18446744073709551615 : Nat) = 2 ^ 64 - 1 by decide, Nat.testBit_two_pow_sub_one, decide_eq_true (Nat.mod_lt _ (by omega))]
  simp
theorem word_ext {f g : Nat → Int} (hf : inU f) (hg : inU g) (h : ∀ x, x < 256 → hasF f x = hasF g x) (i : Nat) (hi : i < 4) : f i = g i := by
  obtain ⟨e1, l1⟩ := nat_of hf i
  obtain ⟨e2, l2⟩ := nat_of hg i
  rw [e1, e2]
  congr 1
  refine Nat.eq_of_testBit_eq fun j => ?_
  by_cases hj : j < 64
  · have := h (64 * i + j) (by omega)
    rw [hasF_tb hf, hasF_tb hg, show (64 * i + j) / 64 = i by omega, show (64 * i + j) % 64 = j by omega] at this
    exact this
  · have h64 : (18446744073709551616 : Nat) ≤ 2 ^ j := Nat.le_trans (by decide) (Nat.pow_le_pow_right (by omega) (show 64 ≤ j by omega))
    rw [Nat.testBit_lt_two_pow (Nat.lt_of_lt_of_le l1 h64), Nat.testBit_lt_two_pow (Nat.lt_of_lt_of_le l2 h64)]
theorem set_ext {f g : Nat → Int} (hf : inU f) (hg : inU g) (h : ∀ x, x < 256 → hasF f x = hasF g x) : setRow f = setRow g :=
  setRow_congr fun i hi => word_ext hf hg h i hi
theorem cnt_none (f : Nat → Int) : ∀ n, cntF f n = 0 → ∀ x, x < n → hasF f x = false
  | 0, _, x, hx => by omega
  | n + 1, h, x, hx => by
    have h1 : cntF f n + (if hasF f n then 1 else 0) = 0 := h
    have h2 : hasF f n = false := by cases hh : hasF f n with
      | false => rfl
      | true => rw [hh] at h1; simp at h1
    rcases Nat.lt_or_ge x n with h3 | h3
    · exact cnt_none f n (by omega) x h3
    · rw [show x = n by omega, h2]
theorem cnt_some (f : Nat → Int) : ∀ n, cntF f n ≠ 0 → ∃ x, x < n ∧ hasF f x = true
  | 0, h => absurd rfl h
  | n + 1, h => by
    by_cases h2 : hasF f n = true
    · exact ⟨n, by omega, h2⟩
    · have h1 : cntF f n ≠ 0 := fun e => h (by show cntF f n + (if hasF f n then 1 else 0) = 0; rw [e, if_neg h2])
      obtain ⟨x, hx, hh⟩ := cnt_some f n h1
      exact ⟨x, by omega, hh⟩

end Go.Proofs.Ytfjipiibkmapkaa
