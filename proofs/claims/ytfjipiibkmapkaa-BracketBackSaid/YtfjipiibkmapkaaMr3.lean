/- The reference: a member of a bracket expression. -/
import Derived.Test.YtfjipiibkmapkaaMr2
namespace Go.Proofs.Ytfjipiibkmapkaa
set_option linter.unusedVariables false
set_option linter.unusedSimpArgs false
open Go.RowKit

def rangeB (L : List UInt8) (q : Nat) : Bool := preB [45] (L.drop q) && !preB [45, 93] (L.drop q) && decide (q + 1 < L.length)
def badB (L : List UInt8) (q r : Nat) (x y : UInt8) : Bool := (preB [91, 61] (L.drop (q + 1)) || preB [91, 58] (L.drop (q + 1))) || decide (y.toNat < x.toNat) || (preB [45] (L.drop (q + 1)) && !preB [93] (L.drop r))
theorem rangeF_eq (L : List UInt8) (a n q : Nat) (hq : q = a + n) (x : UInt8) : rangeF x n (L.drop a) = if rangeB L q = true then (match signF (L.drop (q + 1)) with
    | none => none
    | some (b, k) => if b.toNat < x.toNat ∨ (preB [45] (L.drop (q + 1)) = true ∧ preB [93] (L.drop (q + 1 + k)) = false) then none else some (withF zeroF x.toNat b.toNat, n + 1 + k)) else some (withF zeroF x.toNat x.toNat, n) := by
  subst hq
  have e : (preB [45] ((L.drop a).drop n) = true ∧ preB [45, 93] ((L.drop a).drop n) = false ∧ n + 1 < (L.drop a).length) ↔ rangeB L (a + n) = true := by
    rw [List.drop_drop, List.length_drop, rangeB]
    simp only [Bool.and_eq_true, Bool.not_eq_true', decide_eq_true_eq, and_assoc]
    constructor
    · rintro ⟨h1, h2, h3⟩; exact ⟨h1, h2, by omega⟩
    · rintro ⟨h1, h2, h3⟩; exact ⟨h1, h2, by omega⟩
  rw [rangeF]
  by_cases h : rangeB L (a + n) = true
  · rw [if_pos (e.2 h), if_pos h, List.drop_drop, show a + (n + 1) = a + n + 1 by omega]
    cases signF (L.drop (a + n + 1)) with
    | none => rfl
    | some bk => obtain ⟨b, k⟩ := bk; simp only [List.drop_drop, show a + (n + 1 + k) = a + n + 1 + k by omega]
  · rw [if_neg (fun hh => h (e.1 hh)), if_neg h]
theorem range_one {L : List UInt8} {a n q : Nat} {x : UInt8} (hq : q = a + n) (h : rangeB L q = false) : rangeF x n (L.drop a) = some (withF zeroF x.toNat x.toNat, n) := by
  rw [rangeF_eq L a n q hq, if_neg (by rw [h]; simp)]
theorem range_none {L : List UInt8} {a n q : Nat} {x : UInt8} (hq : q = a + n) (h : rangeB L q = true) (hs : singleF (L.drop (q + 1)) = none) : rangeF x n (L.drop a) = none := by
  rw [rangeF_eq L a n q hq, if_pos h, signF]
  split
  · rfl
  · rename_i b k he
    split at he
    · cases he
    · rw [hs] at he; cases he
theorem range_bad {L : List UInt8} {a n q k : Nat} {x y : UInt8} (hq : q = a + n) (h : rangeB L q = true) (hs : singleF (L.drop (q + 1)) = some (y, k)) (hb : badB L q (q + 1 + k) x y = true) : rangeF x n (L.drop a) = none := by
  rw [rangeF_eq L a n q hq, if_pos h, signF]
  by_cases hp : preB [91, 61] (L.drop (q + 1)) = true ∨ preB [91, 58] (L.drop (q + 1)) = true
  · rw [if_pos hp]
  · rw [if_neg hp, hs]
    simp only []
    rw [if_pos]
    rw [badB] at hb
    simp only [Bool.or_eq_true, decide_eq_true_eq, Bool.and_eq_true, Bool.not_eq_true'] at hb
    rcases hb with (h1 | h1) | h1
    · exact absurd h1 hp
    · exact .inl h1
    · exact .inr h1
theorem range_ok {L : List UInt8} {a n q k : Nat} {x y : UInt8} (hq : q = a + n) (h : rangeB L q = true) (hs : singleF (L.drop (q + 1)) = some (y, k)) (hb : badB L q (q + 1 + k) x y = false) : rangeF x n (L.drop a) = some (withF zeroF x.toNat y.toNat, n + 1 + k) := by
  rw [badB] at hb
  simp only [Bool.or_eq_false_iff, decide_eq_false_iff_not, Bool.and_eq_false_iff, Bool.not_eq_false'] at hb
  obtain ⟨⟨⟨h1, h2⟩, h3⟩, h4⟩ := hb
  rw [rangeF_eq L a n q hq, if_pos h, signF, if_neg (by rw [h1, h2]; simp), hs]
  simp only []
  rw [if_neg]
  rintro (h5 | ⟨h5, h6⟩)
  · exact h3 h5
  · rcases h4 with h4 | h4
    · rw [h5] at h4; cases h4
    · rw [h6] at h4; cases h4
theorem range_get {L : List UInt8} {q : Nat} (h : rangeB L q = true) : L[q]? = some 45 ∧ q + 1 < L.length := by
  rw [rangeB] at h
  simp only [Bool.and_eq_true, decide_eq_true_eq] at h
  refine ⟨?_, h.2⟩
  have h0 : L[q]? = some L[q] := List.getElem?_eq_getElem (by omega)
  have := h.1.1
  rw [pre1_eq h0] at this
  simp at this
  rw [h0, this]

end Go.Proofs.Ytfjipiibkmapkaa
