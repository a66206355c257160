/- The plain mathematics of layers 7 and 8: trees as data, and what the program and the reference compute of them. No Go in sight. -/
namespace Go.Proofs.Ytkidjbfapldmbaa.P8
set_option linter.unusedVariables false
set_option linter.unusedSimpArgs false

/-- A node's head: kind, byte, set (four words), group's number, bounds. -/
structure Hd where
  (k c s0 s1 s2 s3 n mn mx : Int)
  deriving DecidableEq

inductive Nd where
  | mk (h : Hd) (l : List Nd)

def Nd.h : Nd → Hd | .mk h _ => h
def Nd.l : Nd → List Nd | .mk _ l => l

mutual
def count : Nd → Nat
  | .mk _ l => 1 + countL l
def countL : List Nd → Nat
  | [] => 0
  | x :: r => count x + countL r
end

mutual
def deep : Nd → Nat
  | .mk _ l => deepL l + 1
def deepL : List Nd → Nat
  | [] => 0
  | x :: r => max (deep x) (deepL r)
end

theorem countL_append (a b : List Nd) : countL (a ++ b) = countL a + countL b := by
  induction a with
  | nil => simp [countL]
  | cons x r ih => simp [countL, ih]; omega

theorem countL_take (l : List Nd) (j : Nat) (hj : j < l.length) : countL (l.take (j + 1)) = countL (l.take j) + count l[j] := by
  rw [List.take_succ_eq_append_getElem hj, countL_append]; simp [countL]

theorem countL_split (l : List Nd) (j : Nat) : countL l = countL (l.take j) + countL (l.drop j) := by
  rw [← countL_append, List.take_append_drop]

theorem countL_take_le (l : List Nd) (j : Nat) : countL (l.take j) ≤ countL l := by
  have := countL_split l j; omega

theorem countL_get_le (l : List Nd) (j : Nat) (hj : j < l.length) : count l[j] ≤ countL l := by
  have := countL_take l j hj; have := countL_take_le l (j + 1); omega

theorem count_pos (T : Nd) : 1 ≤ count T := by cases T; simp [count]

theorem countL_len (l : List Nd) : l.length ≤ countL l := by
  induction l with
  | nil => simp
  | cons x r ih => have := count_pos x; simp [countL]; omega

mutual
def groups : Nd → Nat
  | .mk h l => groupsL l + (if h.k = 6 then 1 else 0)
def groupsL : List Nd → Nat
  | [] => 0
  | x :: r => groups x + groupsL r
end

theorem groupsL_append (a b : List Nd) : groupsL (a ++ b) = groupsL a + groupsL b := by
  induction a with
  | nil => simp [groupsL]
  | cons x r ih => simp [groupsL, ih]; omega

theorem groupsL_take (l : List Nd) (j : Nat) (hj : j < l.length) : groupsL (l.take (j + 1)) = groupsL (l.take j) + groups l[j] := by
  rw [List.take_succ_eq_append_getElem hj, groupsL_append]; simp [groupsL]

mutual
theorem groups_le : ∀ T : Nd, groups T ≤ count T
  | .mk h l => by rw [groups, count]; have := groupsL_le l; split <;> omega
theorem groupsL_le : ∀ l : List Nd, groupsL l ≤ countL l
  | [] => by simp [groupsL]
  | x :: r => by rw [groupsL, countL]; have := groups_le x; have := groupsL_le r; omega
end

mutual
theorem deep_le : ∀ T : Nd, deep T ≤ count T
  | .mk h l => by rw [deep, count]; have := deepL_le l; omega
theorem deepL_le : ∀ l : List Nd, deepL l ≤ countL l
  | [] => by simp [deepL]
  | x :: r => by rw [deepL, countL]; have := deep_le x; have := deepL_le r; omega
end

theorem deepL_append (a b : List Nd) : deepL (a ++ b) = max (deepL a) (deepL b) := by
  induction a with
  | nil => simp [deepL]
  | cons x r ih => simp only [List.cons_append, deepL, ih]; omega

theorem deepL_take (l : List Nd) (j : Nat) (hj : j < l.length) : deepL (l.take (j + 1)) = max (deepL (l.take j)) (deep l[j]) := by
  rw [List.take_succ_eq_append_getElem hj, deepL_append]; simp [deepL]

theorem deepL_get_le (l : List Nd) (j : Nat) (hj : j < l.length) : deep l[j] ≤ deepL l := by
  induction l generalizing j with
  | nil => simp at hj
  | cons x r ih =>
    cases j with
    | zero => simp only [deepL, List.getElem_cons_zero]; omega
    | succ j => have := ih j (by simpa using hj); simp only [deepL, List.getElem_cons_succ]; omega

/-! The fewest bytes -/
def mostLeast : Int := 2147483647
def often (k n : Int) : Int := if k = 0 ∨ n < 1 then 0 else if n > mostLeast / k then mostLeast else k * n

mutual
def least : Nd → Int
  | .mk h l =>
    if h.k = 1 ∨ h.k = 2 ∨ h.k = 3 then 1
    else if h.k = 6 ∨ h.k = 10 then
      (if h.k = 10 then often (leastF l) h.mn else leastF l)
    else if h.k = 8 then leastS l 0
    else if h.k = 9 then (if l.length = 0 then 0 else leastA l mostLeast)
    else 0
def leastF : List Nd → Int
  | [] => 0
  | x :: _ => least x
def leastS : List Nd → Int → Int
  | [], k => k
  | x :: r, k => leastS r (min mostLeast (k + least x))
def leastA : List Nd → Int → Int
  | [], k => k
  | x :: r, k => leastA r (min k (least x))
end

theorem often_range {k n : Int} (h0 : 0 ≤ k) (h1 : k ≤ mostLeast) : 0 ≤ often k n ∧ often k n ≤ mostLeast := by
  unfold often mostLeast at *
  split
  · omega
  · split
    · omega
    · rename_i h2 h3
      have h4 : n ≤ 2147483647 / k := by omega
      have h5 : 0 < k := by omega
      have h6 : k * n ≤ k * (2147483647 / k) := Int.mul_le_mul_of_nonneg_left h4 h0
      have h7 : k * (2147483647 / k) ≤ 2147483647 := Int.mul_ediv_self_le (by omega)
      have h8 : 0 ≤ k * n := Int.mul_nonneg h0 (by omega)
      omega

mutual
theorem least_range : ∀ T : Nd, 0 ≤ least T ∧ least T ≤ mostLeast
  | .mk h l => by
    rw [least]
    split
    · unfold mostLeast; omega
    split
    · have := leastF_range l
      split
      · exact often_range this.1 this.2
      · exact this
    split
    · exact leastS_range l 0 (by omega) (by unfold mostLeast; omega)
    split
    · split
      · unfold mostLeast; omega
      · exact leastA_range l mostLeast (by unfold mostLeast; omega) (by omega)
    · unfold mostLeast; omega
theorem leastF_range : ∀ (l : List Nd), 0 ≤ leastF l ∧ leastF l ≤ mostLeast
  | [] => by rw [leastF]; unfold mostLeast; omega
  | x :: r => by rw [leastF]; exact least_range x
theorem leastS_range : ∀ (l : List Nd) (k : Int), 0 ≤ k → k ≤ mostLeast → 0 ≤ leastS l k ∧ leastS l k ≤ mostLeast
  | [], k, h0, h1 => by rw [leastS]; exact ⟨h0, h1⟩
  | x :: r, k, h0, h1 => by
    rw [leastS]
    have := least_range x
    unfold mostLeast at *
    exact leastS_range r _ (by omega) (by unfold mostLeast; omega)
theorem leastA_range : ∀ (l : List Nd) (k : Int), 0 ≤ k → k ≤ mostLeast → 0 ≤ leastA l k ∧ leastA l k ≤ mostLeast
  | [], k, h0, h1 => by rw [leastA]; exact ⟨h0, h1⟩
  | x :: r, k, h0, h1 => by
    rw [leastA]
    have := least_range x
    exact leastA_range r _ (by omega) (by omega)
end

/-! Same -/
mutual
def same : Nd → Nd → Bool
  | .mk h l, .mk h' l' => decide (h = h') && sameL l l'
def sameL : List Nd → List Nd → Bool
  | [], [] => true
  | x :: r, y :: s => same x y && sameL r s
  | _, _ => false
end

mutual
theorem same_iff : ∀ (a b : Nd), same a b = true ↔ a = b
  | .mk h l, .mk h' l' => by rw [same]; simp [sameL_iff l l']
theorem sameL_iff : ∀ (a b : List Nd), sameL a b = true ↔ a = b
  | [], [] => by simp [sameL]
  | [], y :: s => by simp [sameL]
  | x :: r, [] => by simp [sameL]
  | x :: r, y :: s => by rw [sameL]; simp [same_iff x y, sameL_iff r s]
end

theorem same_refl (a : Nd) : same a a = true := (same_iff a a).2 rfl
theorem same_symm (a b : Nd) : same a b = same b a := by
  rw [Bool.eq_iff_iff, same_iff, same_iff]; exact eq_comm

/-! What is of a size that is looked at -/
mutual
def bounded : Nd → Nat → Int → Int
  | .mk _ l, d, left => match d with
    | 0 => 0
    | d + 1 => boundedL l d (left - 1)
def boundedL : List Nd → Nat → Int → Int
  | [], _, left => max left 0
  | x :: r, d, left => if left ≤ 0 then 0 else boundedL r d (bounded x d left)
end

mutual
theorem bounded_count : ∀ (T : Nd) (d : Nat) (left : Int), 0 < bounded T d left → bounded T d left + count T ≤ left ∧ deep T ≤ d
  | .mk h l, 0, left, hp => by rw [bounded] at hp; omega
  | .mk h l, d + 1, left, hp => by
    rw [bounded] at hp ⊢
    have := boundedL_count l d (left - 1) hp
    rw [count, deep]; omega
theorem boundedL_count : ∀ (l : List Nd) (d : Nat) (left : Int), 0 < boundedL l d left → boundedL l d left + countL l ≤ left ∧ deepL l ≤ d
  | [], d, left, hp => by rw [boundedL] at hp ⊢; simp [countL, deepL]; omega
  | x :: r, d, left, hp => by
    rw [boundedL] at hp ⊢
    split at hp
    · omega
    · rename_i h0
      rw [if_neg h0]
      have h1 := boundedL_count r d _ hp
      have h2 : 0 < bounded x d left := by omega
      have h3 := bounded_count x d left h2
      rw [countL, deepL]; omega
end

mutual
theorem bounded_range : ∀ (T : Nd) (d : Nat) (left : Int), bounded T d left ≤ max (left - 1) 0 ∧ 0 ≤ bounded T d left
  | .mk h l, 0, left => by rw [bounded]; omega
  | .mk h l, d + 1, left => by rw [bounded]; exact boundedL_range l d (left - 1)
theorem boundedL_range : ∀ (l : List Nd) (d : Nat) (left : Int), boundedL l d left ≤ max left 0 ∧ 0 ≤ boundedL l d left
  | [], d, left => by rw [boundedL]; omega
  | x :: r, d, left => by
    rw [boundedL]
    split
    · omega
    · have h1 := bounded_range x d left
      have h2 := boundedL_range r d (bounded x d left)
      omega
end

def few (T : Nd) : Bool := decide (0 < bounded T 40 400)

theorem few_count {T : Nd} (h : few T = true) : count T ≤ 400 ∧ deep T ≤ 40 := by
  unfold few at h
  have := bounded_count T 40 400 (by simpa using h)
  have h2 := bounded_range T 40 400
  simp at h
  omega

end Go.Proofs.Ytkidjbfapldmbaa.P8
