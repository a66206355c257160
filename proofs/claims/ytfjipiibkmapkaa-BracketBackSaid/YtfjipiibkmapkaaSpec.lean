/- What a bracket expression is, in plain words: on the bytes from a place on. -/
import Derived.Test.YtfjipiibkmapkaaSign
namespace Go.Proofs.Ytfjipiibkmapkaa
set_option linter.unusedVariables false
set_option linter.unusedSimpArgs false
open Go.RowKit

/-- [.x.], [=x=] -/
def namedF (c : UInt8) : List UInt8 → Option UInt8
  | _ :: _ :: x :: d :: e :: _ => if x = 10 then none else if d = c ∧ e = 93 then some x else none
  | _ => none
def singleF : List UInt8 → Option (UInt8 × Nat)
  | [] => none
  | b :: r => if b = 10 then none else if preB [92, 110] (b :: r) then some (10, 2) else if preB [91, 46] (b :: r) then (namedF 46 (b :: r)).map fun x => (x, 5) else some (b, 1)
def signF (l : List UInt8) : Option (UInt8 × Nat) := if preB [91, 61] l ∨ preB [91, 58] l then none else singleF l
def cutF : List UInt8 → Option Nat
  | [] => none
  | b :: r => if preB [58, 93] (b :: r) then some 0 else (cutF r).map (· + 1)
def classF (l : List UInt8) : Option ((Nat → Int) × Nat) :=
  match cutF l with
  | none => none
  | some i => if clsP (l.take i) = [] then none else some (foldC zeroF (clsP (l.take i)), i + 4)
def rangeF (a : UInt8) (n : Nat) (l : List UInt8) : Option ((Nat → Int) × Nat) :=
  if preB [45] (l.drop n) = true ∧ preB [45, 93] (l.drop n) = false ∧ n + 1 < l.length then
    match signF (l.drop (n + 1)) with
    | none => none
    | some (b, k) => if b.toNat < a.toNat ∨ (preB [45] (l.drop (n + 1)) = true ∧ preB [93] (l.drop (n + 1 + k)) = false) then none else some (withF zeroF a.toNat b.toNat, n + 1 + k)
  else some (withF zeroF a.toNat a.toNat, n)
def memberF (l : List UInt8) : Option ((Nat → Int) × Nat) :=
  if preB [91, 58] l then classF (l.drop 2)
  else if preB [91, 61] l then (namedF 61 l).map fun x => (withF zeroF x.toNat x.toNat, 5)
  else match singleF l with
    | none => none
    | some (a, n) => rangeF a n l
def loopF : Nat → Bool → (Nat → Int) → List UInt8 → Nat → Option ((Nat → Int) × Nat)
  | 0, _, _, _, _ => none
  | f + 1, first, acc, l, n =>
    if first = false ∧ preB [93] l = true then some (acc, n + 1) else
    match memberF l with
    | none => none
    | some (t, k) => loopF f false (orF acc t) (l.drop k) (n + k)

theorem namedF_len {c : UInt8} {l : List UInt8} {x : UInt8} (h : namedF c l = some x) : 5 ≤ l.length := by
  unfold namedF at h
  split at h
  · simp only [List.length_cons]; omega
  · cases h
theorem namedF_some {c x : UInt8} {l : List UInt8} (h : namedF c l = some x) : 5 ≤ l.length ∧ l[2]? = some x ∧ x ≠ 10 ∧ l[3]? = some c ∧ l[4]? = some 93 := by
  unfold namedF at h
  split at h
  · rename_i y d e _
    split at h
    · cases h
    · rename_i hx
      split at h
      · rename_i hd
        cases h
        refine ⟨by simp only [List.length_cons]; omega, rfl, hx, ?_, ?_⟩
        · rw [hd.1]; rfl
        · rw [hd.2]; rfl
      · cases h
  · cases h
theorem namedF_none {c : UInt8} {l : List UInt8} (h : namedF c l = none) : l.length < 5 ∨ l[2]? = some 10 ∨ (∃ x d e, l[2]? = some x ∧ x ≠ 10 ∧ l[3]? = some d ∧ l[4]? = some e ∧ 5 ≤ l.length ∧ ¬ (d = c ∧ e = 93)) := by
  by_cases h5 : l.length < 5
  · exact .inl h5
  · match l, h, h5 with
    | a :: b :: x :: d :: e :: r, h, _ =>
      by_cases hx : x = 10
      · exact .inr (.inl (by rw [hx]; rfl))
      · refine .inr (.inr ⟨x, d, e, rfl, hx, rfl, rfl, by simp only [List.length_cons]; omega, fun hd => ?_⟩)
        simp [namedF, hx, hd] at h
    | [], _, h => simp at h
    | [_], _, h => simp at h
    | [_, _], _, h => simp at h
    | [_, _, _], _, h => simp at h
    | [_, _, _, _], _, h => simp at h
theorem singleF_len {l : List UInt8} {x : UInt8} {k : Nat} (h : singleF l = some (x, k)) : 1 ≤ k ∧ k ≤ l.length := by
  unfold singleF at h
  split at h
  · cases h
  · rename_i b r
    split at h
    · cases h
    · split at h
      · rename_i h2
        cases h
        have := congrArg List.length (beq_iff_eq.1 h2)
        rw [List.length_take] at this
        simp only [List.length_cons, List.length_nil] at this ⊢
        omega
      · split at h
        · obtain ⟨y, hy, hz⟩ := Option.map_eq_some_iff.1 h
          have := namedF_len hy
          cases hz
          exact ⟨by omega, this⟩
        · cases h
          simp only [List.length_cons]
          omega
theorem signF_len {l : List UInt8} {x : UInt8} {k : Nat} (h : signF l = some (x, k)) : 1 ≤ k ∧ k ≤ l.length := by
  unfold signF at h
  split at h
  · cases h
  · exact singleF_len h
theorem cutF_len : ∀ {l : List UInt8} {i : Nat}, cutF l = some i → i + 2 ≤ l.length
  | [], _, h => by cases h
  | b :: r, i, h => by
    unfold cutF at h
    split at h
    · rename_i h2
      cases h
      have := congrArg List.length (beq_iff_eq.1 h2)
      rw [List.length_take] at this
      simp only [List.length_cons, List.length_nil] at this ⊢
      omega
    · obtain ⟨j, hj, rfl⟩ := Option.map_eq_some_iff.1 h
      have := cutF_len hj
      simp only [List.length_cons]
      omega
theorem classF_len {l : List UInt8} {t : Nat → Int} {k : Nat} (h : classF l = some (t, k)) : 1 ≤ k ∧ k ≤ l.length + 2 := by
  unfold classF at h
  split at h
  · cases h
  · rename_i i hi
    have := cutF_len hi
    split at h
    · cases h
    · cases h
      omega
theorem rangeF_len {a : UInt8} {n : Nat} {l : List UInt8} {t : Nat → Int} {k : Nat} (h1 : 1 ≤ n) (h2 : n ≤ l.length) (h : rangeF a n l = some (t, k)) : 1 ≤ k ∧ k ≤ l.length := by
  unfold rangeF at h
  split at h
  · rename_i hc
    split at h
    · cases h
    · rename_i b k2 hs
      have := signF_len hs
      rw [List.length_drop] at this
      split at h
      · cases h
      · cases h
        omega
  · cases h
    exact ⟨h1, h2⟩
theorem preB_len {t l : List UInt8} (h : preB t l = true) : t.length ≤ l.length := by
  have := congrArg List.length (beq_iff_eq.1 h)
  rw [List.length_take] at this
  omega
theorem memberF_len {l : List UInt8} {t : Nat → Int} {k : Nat} (h : memberF l = some (t, k)) : 1 ≤ k ∧ k ≤ l.length := by
  unfold memberF at h
  split at h
  · rename_i h2
    have h3 := preB_len h2
    have := classF_len h
    rw [List.length_drop] at this
    simp only [List.length_cons, List.length_nil] at h3
    omega
  · split at h
    · obtain ⟨y, hy, hz⟩ := Option.map_eq_some_iff.1 h
      have := namedF_len hy
      cases hz
      exact ⟨by omega, this⟩
    · split at h
      · cases h
      · rename_i a n hs
        have := singleF_len hs
        exact rangeF_len this.1 this.2 h

end Go.Proofs.Ytfjipiibkmapkaa
