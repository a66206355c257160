/- The plain mathematics of layers 7 and 8: trees as data, and what the program and the reference compute of them. No Go in sight. What lies in memory: trees behind slices of nodes, and what of it a call leaves as it was. A region that draws its order and whose operations read what is kept, or call what makes memory alone: one walk in the order of the text serves every order. A region that draws its order and writes: what only reads is taken first, in every world of a class that all but the last phase's operations keep. -/
import Derived.Test.YtnjanpejmfkopaaDoorProg
import Derived.WalkKit
import Derived.WalkSpells
import Derived.WalkLawsBesides
import Derived.Lib.Hide
import Derived.Deep.QuietTactic
import Derived.BigQuiet
import Derived.OrdersHeld
import Derived.Laws.Tables
import Derived.Laws.Rows
import Derived.Laws.ResultCell
import Derived.KernelRfl
namespace Go.Proofs.YtnjanpejmfkopaaDoor.P8
set_option linter.unusedVariables false
set_option linter.unusedSimpArgs false

/-- A node's head: kind, byte, set (four words), group's number, bounds. -/
structure Hd where
  (k c s0 s1 s2 s3 n mn mx : Int)
  deriving DecidableEq

inductive Nd where
  | mk (h : Hd) (l : List Nd)

def Nd.h : Nd → Hd | .mk h _ => h
def Nd.l : Nd → List Nd | .mk _ l => l

mutual
def count : Nd → Nat
  | .mk _ l => 1 + countL l
def countL : List Nd → Nat
  | [] => 0
  | x :: r => count x + countL r
end

mutual
def deep : Nd → Nat
  | .mk _ l => deepL l + 1
def deepL : List Nd → Nat
  | [] => 0
  | x :: r => max (deep x) (deepL r)
end

theorem countL_append (a b : List Nd) : countL (a ++ b) = countL a + countL b := by
  induction a with
  | nil => simp [countL]
  | cons x r ih => simp [countL, ih]; omega

theorem countL_take (l : List Nd) (j : Nat) (hj : j < l.length) : countL (l.take (j + 1)) = countL (l.take j) + count l[j] := by
  rw [List.take_succ_eq_append_getElem hj, countL_append]; simp [countL]

theorem countL_split (l : List Nd) (j : Nat) : countL l = countL (l.take j) + countL (l.drop j) := by
  rw [← countL_append, List.take_append_drop]

theorem countL_take_le (l : List Nd) (j : Nat) : countL (l.take j) ≤ countL l := by
  have := countL_split l j; omega

theorem countL_get_le (l : List Nd) (j : Nat) (hj : j < l.length) : count l[j] ≤ countL l := by
  have := countL_take l j hj; have := countL_take_le l (j + 1); omega

theorem count_pos (T : Nd) : 1 ≤ count T := by cases T; simp [count]

theorem countL_len (l : List Nd) : l.length ≤ countL l := by
  induction l with
  | nil => simp
  | cons x r ih => have := count_pos x; simp [countL]; omega

mutual
def groups : Nd → Nat
  | .mk h l => groupsL l + (if h.k = 6 then 1 else 0)
def groupsL : List Nd → Nat
  | [] => 0
  | x :: r => groups x + groupsL r
end

theorem groupsL_append (a b : List Nd) : groupsL (a ++ b) = groupsL a + groupsL b := by
  induction a with
  | nil => simp [groupsL]
  | cons x r ih => simp [groupsL, ih]; omega

theorem groupsL_take (l : List Nd) (j : Nat) (hj : j < l.length) : groupsL (l.take (j + 1)) = groupsL (l.take j) + groups l[j] := by
  rw [List.take_succ_eq_append_getElem hj, groupsL_append]; simp [groupsL]

mutual
theorem groups_le : ∀ T : Nd, groups T ≤ count T
  | .mk h l => by rw [groups, count]; have := groupsL_le l; split <;> omega
theorem groupsL_le : ∀ l : List Nd, groupsL l ≤ countL l
  | [] => by simp [groupsL]
  | x :: r => by rw [groupsL, countL]; have := groups_le x; have := groupsL_le r; omega
end

mutual
theorem deep_le : ∀ T : Nd, deep T ≤ count T
  | .mk h l => by rw [deep, count]; have := deepL_le l; omega
theorem deepL_le : ∀ l : List Nd, deepL l ≤ countL l
  | [] => by simp [deepL]
  | x :: r => by rw [deepL, countL]; have := deep_le x; have := deepL_le r; omega
end

theorem deepL_append (a b : List Nd) : deepL (a ++ b) = max (deepL a) (deepL b) := by
  induction a with
  | nil => simp [deepL]
  | cons x r ih => simp only [List.cons_append, deepL, ih]; omega

theorem deepL_take (l : List Nd) (j : Nat) (hj : j < l.length) : deepL (l.take (j + 1)) = max (deepL (l.take j)) (deep l[j]) := by
  rw [List.take_succ_eq_append_getElem hj, deepL_append]; simp [deepL]

theorem deepL_get_le (l : List Nd) (j : Nat) (hj : j < l.length) : deep l[j] ≤ deepL l := by
  induction l generalizing j with
  | nil => simp at hj
  | cons x r ih =>
    cases j with
    | zero => simp only [deepL, List.getElem_cons_zero]; omega
    | succ j => have := ih j (by simpa using hj); simp only [deepL, List.getElem_cons_succ]; omega

/-! The fewest bytes -/
def mostLeast : Int := 2147483647
def often (k n : Int) : Int := if k = 0 ∨ n < 1 then 0 else if n > mostLeast / k then mostLeast else k * n

mutual
def least : Nd → Int
  | .mk h l =>
    if h.k = 1 ∨ h.k = 2 ∨ h.k = 3 then 1
    else if h.k = 6 ∨ h.k = 10 then
      (if h.k = 10 then often (leastF l) h.mn else leastF l)
    else if h.k = 8 then leastS l 0
    else if h.k = 9 then (if l.length = 0 then 0 else leastA l mostLeast)
    else 0
def leastF : List Nd → Int
  | [] => 0
  | x :: _ => least x
def leastS : List Nd → Int → Int
  | [], k => k
  | x :: r, k => leastS r (min mostLeast (k + least x))
def leastA : List Nd → Int → Int
  | [], k => k
  | x :: r, k => leastA r (min k (least x))
end

theorem often_range {k n : Int} (h0 : 0 ≤ k) (h1 : k ≤ mostLeast) : 0 ≤ often k n ∧ often k n ≤ mostLeast := by
  unfold often mostLeast at *
  split
  · omega
  · split
    · omega
    · rename_i h2 h3
      have h4 : n ≤ 2147483647 / k := by omega
      have h5 : 0 < k := by omega
      have h6 : k * n ≤ k * (2147483647 / k) := Int.mul_le_mul_of_nonneg_left h4 h0
      have h7 : k * (2147483647 / k) ≤ 2147483647 := Int.mul_ediv_self_le (by omega)
      have h8 : 0 ≤ k * n := Int.mul_nonneg h0 (by omega)
      omega

mutual
theorem least_range : ∀ T : Nd, 0 ≤ least T ∧ least T ≤ mostLeast
  | .mk h l => by
    rw [least]
    split
    · unfold mostLeast; omega
    split
    · have := leastF_range l
      split
      · exact often_range this.1 this.2
      · exact this
    split
    · exact leastS_range l 0 (by omega) (by unfold mostLeast; omega)
    split
    · split
      · unfold mostLeast; omega
      · exact leastA_range l mostLeast (by unfold mostLeast; omega) (by omega)
    · unfold mostLeast; omega
theorem leastF_range : ∀ (l : List Nd), 0 ≤ leastF l ∧ leastF l ≤ mostLeast
  | [] => by rw [leastF]; unfold mostLeast; omega
  | x :: r => by rw [leastF]; exact least_range x
theorem leastS_range : ∀ (l : List Nd) (k : Int), 0 ≤ k → k ≤ mostLeast → 0 ≤ leastS l k ∧ leastS l k ≤ mostLeast
  | [], k, h0, h1 => by rw [leastS]; exact ⟨h0, h1⟩
  | x :: r, k, h0, h1 => by
    rw [leastS]
    have := least_range x
    unfold mostLeast at *
    exact leastS_range r _ (by omega) (by unfold mostLeast; omega)
theorem leastA_range : ∀ (l : List Nd) (k : Int), 0 ≤ k → k ≤ mostLeast → 0 ≤ leastA l k ∧ leastA l k ≤ mostLeast
  | [], k, h0, h1 => by rw [leastA]; exact ⟨h0, h1⟩
  | x :: r, k, h0, h1 => by
    rw [leastA]
    have := least_range x
    exact leastA_range r _ (by omega) (by omega)
end

/-! Same -/
mutual
def same : Nd → Nd → Bool
  | .mk h l, .mk h' l' => decide (h = h') && sameL l l'
def sameL : List Nd → List Nd → Bool
  | [], [] => true
  | x :: r, y :: s => same x y && sameL r s
  | _, _ => false
end

mutual
theorem same_iff : ∀ (a b : Nd), same a b = true ↔ a = b
  | .mk h l, .mk h' l' => by rw [same]; simp [sameL_iff l l']
theorem sameL_iff : ∀ (a b : List Nd), sameL a b = true ↔ a = b
  | [], [] => by simp [sameL]
  | [], y :: s => by simp [sameL]
  | x :: r, [] => by simp [sameL]
  | x :: r, y :: s => by rw [sameL]; simp [same_iff x y, sameL_iff r s]
end

theorem same_refl (a : Nd) : same a a = true := (same_iff a a).2 rfl
theorem same_symm (a b : Nd) : same a b = same b a := by
  rw [Bool.eq_iff_iff, same_iff, same_iff]; exact eq_comm

/-! What is of a size that is looked at -/
mutual
def bounded : Nd → Nat → Int → Int
  | .mk _ l, d, left => match d with
    | 0 => 0
    | d + 1 => boundedL l d (left - 1)
def boundedL : List Nd → Nat → Int → Int
  | [], _, left => max left 0
  | x :: r, d, left => if left ≤ 0 then 0 else boundedL r d (bounded x d left)
end

mutual
theorem bounded_count : ∀ (T : Nd) (d : Nat) (left : Int), 0 < bounded T d left → bounded T d left + count T ≤ left ∧ deep T ≤ d
  | .mk h l, 0, left, hp => by rw [bounded] at hp; omega
  | .mk h l, d + 1, left, hp => by
    rw [bounded] at hp ⊢
    have := boundedL_count l d (left - 1) hp
    rw [count, deep]; omega
theorem boundedL_count : ∀ (l : List Nd) (d : Nat) (left : Int), 0 < boundedL l d left → boundedL l d left + countL l ≤ left ∧ deepL l ≤ d
  | [], d, left, hp => by rw [boundedL] at hp ⊢; simp [countL, deepL]; omega
  | x :: r, d, left, hp => by
    rw [boundedL] at hp ⊢
    split at hp
    · omega
    · rename_i h0
      rw [if_neg h0]
      have h1 := boundedL_count r d _ hp
      have h2 : 0 < bounded x d left := by omega
      have h3 := bounded_count x d left h2
      rw [countL, deepL]; omega
end

mutual
theorem bounded_range : ∀ (T : Nd) (d : Nat) (left : Int), bounded T d left ≤ max (left - 1) 0 ∧ 0 ≤ bounded T d left
  | .mk h l, 0, left => by rw [bounded]; omega
  | .mk h l, d + 1, left => by rw [bounded]; exact boundedL_range l d (left - 1)
theorem boundedL_range : ∀ (l : List Nd) (d : Nat) (left : Int), boundedL l d left ≤ max left 0 ∧ 0 ≤ boundedL l d left
  | [], d, left => by rw [boundedL]; omega
  | x :: r, d, left => by
    rw [boundedL]
    split
    · omega
    · have h1 := bounded_range x d left
      have h2 := boundedL_range r d (bounded x d left)
      omega
end

def few (T : Nd) : Bool := decide (0 < bounded T 40 400)

theorem few_count {T : Nd} (h : few T = true) : count T ≤ 400 ∧ deep T ≤ 40 := by
  unfold few at h
  have := bounded_count T 40 400 (by simpa using h)
  have h2 := bounded_range T 40 400
  simp at h
  omega

end Go.Proofs.YtnjanpejmfkopaaDoor.P8

namespace Go.Proofs.YtnjanpejmfkopaaDoor
set_option linter.unusedVariables false
set_option linter.unusedSimpArgs false
open Go.RowKit P8

/-- A node's ten cells: its head, and the slice value v of the nodes in it. -/
def Nd.row (T : Nd) (v : Value) : Array Value :=
  #[.int .i64 T.h.k, .int .u8 T.h.c, .int .u64 T.h.s0, .int .u64 T.h.s1, .int .u64 T.h.s2, .int .u64 T.h.s3, .int .i64 T.h.n, .int .i64 T.h.mn, .int .i64 T.h.mx, v]

mutual
/-- In w the nodes in T lie behind the slice value v, all in blocks that Ok lets. -/
def LiesP (Ok : Nat → Prop) (w : World) : Nd → Value → Prop
  | .mk _ l, v => ∃ A cap, v = .slice A l.length cap ∧ l.length ≤ cap ∧ cap ≤ maxLen ∧ LiesPL Ok w A 0 l
def LiesPL (Ok : Nat → Prop) (w : World) (A : Option Addr) : Nat → List Nd → Prop
  | _, [] => True
  | i, x :: r => (∃ b off S, A = some ⟨b, off, none⟩ ∧ Ok b ∧ (∀ j u, (Nd.row x S)[j]? = some u → w.cell? ⟨b, off + i * 10 + j, none⟩ = some u) ∧ LiesP Ok w x S) ∧ LiesPL Ok w A (i + 1) r
end

/-- In w the nodes in T lie behind the slice value v. -/
abbrev Lies (w : World) (T : Nd) (v : Value) : Prop := LiesP (fun _ => True) w T v
abbrev LiesL (w : World) (A : Option Addr) (i : Nat) (l : List Nd) : Prop := LiesPL (fun _ => True) w A i l

theorem LiesP_def {Ok : Nat → Prop} {w : World} {T : Nd} {v : Value} : LiesP Ok w T v ↔ ∃ A cap, v = .slice A T.l.length cap ∧ T.l.length ≤ cap ∧ cap ≤ maxLen ∧ LiesPL Ok w A 0 T.l := by
  cases T; rw [LiesP, Nd.l]
theorem Lies_def {w : World} {T : Nd} {v : Value} : Lies w T v ↔ ∃ A cap, v = .slice A T.l.length cap ∧ T.l.length ≤ cap ∧ cap ≤ maxLen ∧ LiesL w A 0 T.l := LiesP_def
theorem Lies_mk {w : World} {h : Hd} {l : List Nd} {v : Value} : Lies w (.mk h l) v ↔ ∃ A cap, v = .slice A l.length cap ∧ l.length ≤ cap ∧ cap ≤ maxLen ∧ LiesL w A 0 l := LiesP_def

theorem LiesPL_get {Ok : Nat → Prop} {w : World} {A : Option Addr} : ∀ {l : List Nd} {i : Nat}, LiesPL Ok w A i l → ∀ j, (hj : j < l.length) →
    ∃ b off S, A = some ⟨b, off, none⟩ ∧ Ok b ∧ (∀ m u, (Nd.row l[j] S)[m]? = some u → w.cell? ⟨b, off + (i + j) * 10 + m, none⟩ = some u) ∧ LiesP Ok w l[j] S := by
  intro l
  induction l with
  | nil => intro i _ j hj; simp at hj
  | cons x r ih =>
    intro i h j hj
    rw [LiesPL] at h
    cases j with
    | zero => simpa using h.1
    | succ j =>
      have := ih h.2 j (by simpa using hj)
      simpa [Nat.add_assoc, Nat.add_comm 1 j] using this

theorem LiesPL_of {Ok : Nat → Prop} {w : World} {A : Option Addr} : ∀ {l : List Nd} {i : Nat}, (∀ j, (hj : j < l.length) →
    ∃ b off S, A = some ⟨b, off, none⟩ ∧ Ok b ∧ (∀ m u, (Nd.row l[j] S)[m]? = some u → w.cell? ⟨b, off + (i + j) * 10 + m, none⟩ = some u) ∧ LiesP Ok w l[j] S) → LiesPL Ok w A i l := by
  intro l
  induction l with
  | nil => intro i _; rw [LiesPL]; trivial
  | cons x r ih =>
    intro i h
    rw [LiesPL]
    refine ⟨h 0 (by simp), ih fun j hj => ?_⟩
    have := h (j + 1) (by simpa using hj)
    simpa [Nat.add_assoc, Nat.add_comm 1 j] using this

theorem cell_lt {w : World} {b off : Nat} {u : Value} (h : w.cell? ⟨b, off, none⟩ = some u) : b < w.heap.size := World.block_lt_of_cell? w ⟨b, off, none⟩ h

/-! ## Worlds: all blocks but some are as they were -/
structure Keep (X : Nat → Prop) (w w' : World) : Prop where
  os : w'.os = w.os
  tape : w'.tape = w.tape
  output : w'.output = w.output
  size : w.heap.size ≤ w'.heap.size
  block : ∀ k, k < w.heap.size → ¬ X k → w'.heap[k]? = w.heap[k]?

def Nb : Nat → Prop := fun _ => False
def Ob (B : Nat) : Nat → Prop := fun k => k = B

namespace Keep
set_option linter.unusedVariables false
set_option linter.unusedSimpArgs false
variable {X Y : Nat → Prop} {a w w' w1 w2 w3 : World}
theorem refl (X : Nat → Prop) (w : World) : Keep X w w := ⟨rfl, rfl, rfl, Nat.le_refl _, fun _ _ _ => rfl⟩
/-- Behind a step that keeps all but what X or what is new. -/
theorem trans (h : Keep X w1 w2) (k : Keep Y w2 w3) (hY : ∀ b, b < w1.heap.size → Y b → X b) : Keep X w1 w3 :=
  ⟨k.os.trans h.os, k.tape.trans h.tape, k.output.trans h.output, Nat.le_trans h.size k.size,
    fun i hi hx => (k.block i (Nat.lt_of_lt_of_le hi h.size) (fun hy => hx (hY i hi hy))).trans (h.block i hi hx)⟩
theorem mono (h : Keep X w w') (hX : ∀ b, b < w.heap.size → X b → Y b) : Keep Y w w' := ⟨h.os, h.tape, h.output, h.size, fun k hk hy => h.block k hk fun hx => hy (hX k hk hx)⟩
theorem drew (h : Keep X a w) : Keep X a w.drew := ⟨h.os, h.tape, h.output, h.size, h.block⟩
theorem drewN (h : Keep X a w) (n : Nat) : Keep X a (w.drewN n) := by
  have e : (w.drewN n).heap = w.heap ∧ (w.drewN n).os = w.os ∧ (w.drewN n).tape = w.tape ∧ (w.drewN n).output = w.output := ⟨rfl, rfl, rfl, rfl⟩
  exact ⟨h.os, h.tape, h.output, h.size, h.block⟩
theorem alloc (h : Keep X a w) (o : Obj) : Keep X a (w.alloc o) :=
  h.trans (Y := X) ⟨rfl, rfl, rfl, by simp, fun k hk _ => Below.heap_alloc _ _ _ hk⟩ fun _ _ h => h
theorem setCell (h : Keep X a w) {p : Addr} (hp : a.heap.size ≤ p.block ∨ X p.block) (u : Value) : Keep X a (w.setCell p u) :=
  h.trans (Y := fun k => k = p.block) ⟨rfl, rfl, rfl, by simp [World.setCell], fun k _ hk => Below.heap_setCell _ _ _ _ (by exact fun e => hk e)⟩
    (fun b hb e => by subst e; rcases hp with hp | hp; · omega
                      · exact hp)
theorem below (h : Keep Nb w w') : Below w.heap.size w w' := ⟨h.os, h.tape, h.output, h.size, fun k hk => h.block k hk id⟩
theorem of_below {B : Nat} (h : Below B w w') : Keep (fun k => B ≤ k) w w' := ⟨h.os, h.tape, h.output, h.size, fun k _ hx => h.block k (by omega)⟩
theorem of_grown {row : Option Nat} (h : w.grownBy w' row) : Keep (fun k => some k = row) w w' := ⟨h.os, h.tape, h.output, h.size, fun k hk hx => h.block k hk hx⟩
theorem cell (h : Keep X w w') {p : Addr} {u : Value} (hc : w.cell? p = some u) (hx : ¬ X p.block) : w'.cell? p = some u := by
  rw [World.cell?_of_block (w := w) (h.block p.block (World.block_lt_of_cell? w p hc) hx)]; exact hc
theorem frozen (h : Keep X w w') {p : Addr} {v : Bool} (hc : w.frozen? p = v) (hl : p.block < w.heap.size) (hx : ¬ X p.block) : w'.frozen? p = v := by
  rw [World.frozen?_of_block (w := w) (h.block p.block hl hx)]; exact hc
theorem obj (h : Keep X w w') {b : Nat} {o : Obj} (hc : w.heap[b]? = some o) (hx : ¬ X b) : w'.heap[b]? = some o := by
  rw [h.block b (Array.getElem?_eq_some_iff.1 hc).1 hx]; exact hc
end Keep

mutual
/-- What lies in memory lies there still where no cell of the blocks that Ok lets has turned. -/
theorem LiesP_cells {Ok : Nat → Prop} {w w' : World} (hc : ∀ b off u, Ok b → w.cell? ⟨b, off, none⟩ = some u → w'.cell? ⟨b, off, none⟩ = some u) : ∀ (T : Nd) (v : Value), LiesP Ok w T v → LiesP Ok w' T v
  | .mk _ l, v, h => by
    rw [LiesP] at h ⊢
    obtain ⟨A, cap, rfl, h1, h2, h3⟩ := h
    exact ⟨A, cap, rfl, h1, h2, LiesPL_cells hc l A 0 h3⟩
theorem LiesPL_cells {Ok : Nat → Prop} {w w' : World} (hc : ∀ b off u, Ok b → w.cell? ⟨b, off, none⟩ = some u → w'.cell? ⟨b, off, none⟩ = some u) : ∀ (l : List Nd) (A : Option Addr) (i : Nat), LiesPL Ok w A i l → LiesPL Ok w' A i l
  | [], _, _, _ => by rw [LiesPL]; trivial
  | x :: r, A, i, h => by
    rw [LiesPL] at h ⊢
    obtain ⟨⟨b, off, S, hA, hb, hx, hs⟩, hr⟩ := h
    exact ⟨⟨b, off, S, hA, hb, fun j u hu => hc _ _ _ hb (hx j u hu), LiesP_cells hc x S hs⟩, LiesPL_cells hc r A (i + 1) hr⟩
end

mutual
theorem LiesP_mono {Ok Ok' : Nat → Prop} {w : World} (hc : ∀ b off u, Ok b → w.cell? ⟨b, off, none⟩ = some u → Ok' b) : ∀ (T : Nd) (v : Value), LiesP Ok w T v → LiesP Ok' w T v
  | .mk _ l, v, h => by
    rw [LiesP] at h ⊢
    obtain ⟨A, cap, rfl, h1, h2, h3⟩ := h
    exact ⟨A, cap, rfl, h1, h2, LiesPL_mono hc l A 0 h3⟩
theorem LiesPL_mono {Ok Ok' : Nat → Prop} {w : World} (hc : ∀ b off u, Ok b → w.cell? ⟨b, off, none⟩ = some u → Ok' b) : ∀ (l : List Nd) (A : Option Addr) (i : Nat), LiesPL Ok w A i l → LiesPL Ok' w A i l
  | [], _, _, _ => by rw [LiesPL]; trivial
  | x :: r, A, i, h => by
    rw [LiesPL] at h ⊢
    obtain ⟨⟨b, off, S, hA, hb, hx, hs⟩, hr⟩ := h
    exact ⟨⟨b, off, S, hA, hc _ _ _ hb (hx 0 _ rfl), hx, LiesP_mono hc x S hs⟩, LiesPL_mono hc r A (i + 1) hr⟩
end

theorem LiesP_all {Ok : Nat → Prop} {w : World} {T : Nd} {v : Value} (h : LiesP Ok w T v) : Lies w T v := LiesP_mono (fun _ _ _ _ _ => trivial) T v h

/-- Blocks of X have turned, none of what lies. -/
theorem LiesP_keep {Ok X : Nat → Prop} {w w' : World} (hb : Keep X w w') (hx : ∀ b, Ok b → ¬ X b) {T : Nd} {v : Value} (h : LiesP Ok w T v) : LiesP Ok w' T v :=
  LiesP_cells (fun b off u ho hc => hb.cell (p := ⟨b, off, none⟩) hc (hx b ho)) T v h
theorem Lies_keep {Ok : Nat → Prop} {w w' : World} (hb : Keep Nb w w') {T : Nd} {v : Value} (h : LiesP Ok w T v) : LiesP Ok w' T v :=
  LiesP_keep hb (fun _ _ h => h) h
theorem LiesL_keep {Ok : Nat → Prop} {w w' : World} (hb : Keep Nb w w') {l : List Nd} {A : Option Addr} {i : Nat} (h : LiesPL Ok w A i l) : LiesPL Ok w' A i l :=
  LiesPL_cells (fun b off u _ hc => hb.cell (p := ⟨b, off, none⟩) hc id) l A i h

/-- The ten cells of element j, as the walk wants them. -/
structure Ten (w : World) (b o : Nat) (T : Nd) (S : Value) : Prop where
  c0 : w.cell? ⟨b, o, none⟩ = some (.int .i64 T.h.k)
  c1 : w.cell? ⟨b, o + 1, none⟩ = some (.int .u8 T.h.c)
  c2 : w.cell? ⟨b, o + 2, none⟩ = some (.int .u64 T.h.s0)
  c3 : w.cell? ⟨b, o + 3, none⟩ = some (.int .u64 T.h.s1)
  c4 : w.cell? ⟨b, o + 4, none⟩ = some (.int .u64 T.h.s2)
  c5 : w.cell? ⟨b, o + 5, none⟩ = some (.int .u64 T.h.s3)
  c6 : w.cell? ⟨b, o + 6, none⟩ = some (.int .i64 T.h.n)
  c7 : w.cell? ⟨b, o + 7, none⟩ = some (.int .i64 T.h.mn)
  c8 : w.cell? ⟨b, o + 8, none⟩ = some (.int .i64 T.h.mx)
  c9 : w.cell? ⟨b, o + 9, none⟩ = some S
  lt : b < w.heap.size

theorem ten_of {w : World} {b o : Nat} {T : Nd} {S : Value} (h : ∀ m u, (Nd.row T S)[m]? = some u → w.cell? ⟨b, o + m, none⟩ = some u) : Ten w b o T S :=
  ⟨h 0 _ rfl, h 1 _ rfl, h 2 _ rfl, h 3 _ rfl, h 4 _ rfl, h 5 _ rfl, h 6 _ rfl, h 7 _ rfl, h 8 _ rfl, h 9 _ rfl, cell_lt (h 9 _ rfl)⟩

/-- Element j of nodes that lie behind A. -/
theorem LiesPL.at {w : World} {A : Option Addr} {l : List Nd} (h : LiesL w A 0 l) (j : Nat) (hj : j < l.length) :
    ∃ b off A2 c2, A = some ⟨b, off, none⟩ ∧ Ten w b (off + j * 10) l[j] (.slice A2 l[j].l.length c2) ∧ Lies w l[j] (.slice A2 l[j].l.length c2) := by
  obtain ⟨b, off, S, hA, _, hc, hs⟩ := LiesPL_get h j hj
  have hs' := hs
  rw [LiesP_def] at hs'
  obtain ⟨A2, c2, rfl, _⟩ := hs'
  exact ⟨b, off, A2, c2, hA, ten_of (by simpa using hc), hs⟩

theorem LiesPL.atP {Ok : Nat → Prop} {w : World} {A : Option Addr} {l : List Nd} (h : LiesPL Ok w A 0 l) (j : Nat) (hj : j < l.length) :
    ∃ b off A2 c2, A = some ⟨b, off, none⟩ ∧ Ok b ∧ Ten w b (off + j * 10) l[j] (.slice A2 l[j].l.length c2) ∧ LiesP Ok w l[j] (.slice A2 l[j].l.length c2) := by
  obtain ⟨b, off, S, hA, hb, hc, hs⟩ := LiesPL_get h j hj
  have hs' := hs
  rw [LiesP_def] at hs'
  obtain ⟨A2, c2, rfl, _⟩ := hs'
  exact ⟨b, off, A2, c2, hA, hb, ten_of (by simpa using hc), hs⟩

theorem Ten.keepX {X : Nat → Prop} {w w' : World} {b o : Nat} {T : Nd} {S : Value} (h : Ten w b o T S) (hk : Keep X w w') (hx : ¬ X b) : Ten w' b o T S :=
  ⟨hk.cell h.c0 hx, hk.cell h.c1 hx, hk.cell h.c2 hx, hk.cell h.c3 hx, hk.cell h.c4 hx, hk.cell h.c5 hx, hk.cell h.c6 hx, hk.cell h.c7 hx, hk.cell h.c8 hx, hk.cell h.c9 hx, Nat.lt_of_lt_of_le h.lt hk.size⟩

theorem Ten.keep {w w' : World} {b o : Nat} {T : Nd} {S : Value} (h : Ten w b o T S) (hk : Keep Nb w w') : Ten w' b o T S :=
  ⟨hk.cell h.c0 id, hk.cell h.c1 id, hk.cell h.c2 id, hk.cell h.c3 id, hk.cell h.c4 id, hk.cell h.c5 id, hk.cell h.c6 id, hk.cell h.c7 id, hk.cell h.c8 id, hk.cell h.c9 id, Nat.lt_of_lt_of_le h.lt hk.size⟩

end Go.Proofs.YtnjanpejmfkopaaDoor

namespace Go.Proofs.YtnjanpejmfkopaaDoor
set_option linter.unusedVariables false
set_option linter.unusedSimpArgs false
open Go.RowKit

/-- A world that is W, and more. -/
structure Ext (W : World) where
  val : World
  property : Keep Nb W val

instance (W : World) : Nonempty (Ext W) := ⟨⟨W, Keep.refl _ _⟩⟩

theorem lt_step {a b : Nat} (h : a < b) (k : Nat) : a < b + k := Nat.lt_add_right k h

theorem Ext.cell {W : World} (E : Ext W) (b o : Nat) (h : b < W.heap.size) : (E.val).cell? ⟨b, o, none⟩ = W.cell? ⟨b, o, none⟩ :=
  World.cell?_of_block (w := W) (E.property.block b h id)
theorem Ext.frozen {W : World} (E : Ext W) (b o : Nat) (h : b < W.heap.size) : (E.val).frozen? ⟨b, o, none⟩ = W.frozen? ⟨b, o, none⟩ :=
  World.frozen?_of_block (w := W) (E.property.block b h id)

attribute [go_sem] Ext.cell Ext.frozen

theorem wp_region_x {P : Program} {id : Nat} {Q : Exit → Act → World → Prop} {a : Act} {w : World} {l : List Oper} (hm : P.follows .mixedOrders = true) (hB : Region.lexB .any l.toArray = true)
    (h : wpQuiet P l.toArray (fun w' => ∃ E : Ext w, w' = E.val) (fun a' => ∀ w', (∃ E : Ext w, w' = E.val) → Q .normal a' w') l a) : (Code.region id l.toArray true).wp P Q a w :=
  wp_region_quiet (C := fun w' => ∃ E : Ext w, w' = E.val) hm hB ⟨⟨w.drew, (Keep.refl _ _).drew⟩, rfl⟩ (by simpa using h)

/-- A callee's contract, met in a world of the class. -/
theorem Calls.ext {P : Program} {f : FuncId} {args : Array Value} {W : World} (E : Ext W) {v : Value}
    (h : Calls P f args E.val fun e w' => e = .returned v ∧ Keep Nb E.val w') : Calls P f args E.val fun e w'' => e = .returned v ∧ ∃ E' : Ext W, w'' = E'.val :=
  h.mono fun _ w' ⟨he, hk⟩ => ⟨he, ⟨w', E.property.trans hk fun _ _ h => h⟩, rfl⟩

end Go.Proofs.YtnjanpejmfkopaaDoor

namespace Go.Proofs.YtnjanpejmfkopaaDoor
set_option linter.unusedVariables false
set_option linter.unusedSimpArgs false
open Go.RowKit

section
variable {P : Program} {ops : Array Oper} {Q : Exit → Act → World → Prop} {md : Region.Mode} {S : World → Prop} {fin : List Nat}

/-- Whatever order is picked from here on; behind each operation but those of the last phase ('fin') S holds. -/
def wpF (P : Program) (md : Region.Mode) (ops : Array Oper) (Q : Exit → Act → World → Prop) (S : World → Prop) (fin : List Nat) : Nat → Array Bool → Act → World → Prop
  | 0, L, a, w => Region.ready md ops L = [] ∧ Q .normal a w
  | n + 1, L, a, w => (Region.ready md ops L = [] → Q .normal a w) ∧
      ∀ i ∈ Region.ready md ops L, wpOp P ops Q i (fun a' w' => (i ∉ fin → S w') ∧ wpF P md ops Q S fin n (L.setIfInBounds i true) a' w') a w

theorem wpAny_of_wpF : ∀ (n : Nat) (L : Array Bool) (a : Act) (w : World), wpF P md ops Q S fin n L a w → wpAny P md ops Q n L a w
  | 0, _, _, _, h => h
  | n + 1, _, _, _, h => ⟨h.1, fun i hi => wpOp_mono (fun a' w' h' => wpAny_of_wpF n _ a' w' h'.2) (h.2 i hi)⟩

/-- Each operation of the last phase waits for number i. -/
def finOk (md : Region.Mode) (ops : Array Oper) (fin : List Nat) (i : Nat) : Bool :=
  !fin.contains i && fin.all fun j => match ops[j]? with
    | some o => o.after.any fun e => Region.binds md e && e.on == i
    | none => true

theorem finOk_spec {i : Nat} (h : finOk md ops fin i = true) : i ∉ fin ∧ ∀ j ∈ fin, ∀ o, ops[j]? = some o → ∃ e ∈ o.after, Region.binds md e = true ∧ e.on = i := by
  unfold finOk at h
  simp only [Bool.and_eq_true, Bool.not_eq_true', List.all_eq_true] at h
  refine ⟨by simpa using h.1, fun j hj o ho => ?_⟩
  have h2 := h.2 j hj
  rw [ho] at h2
  obtain ⟨e, he, hb⟩ := Array.any_eq_true'.1 h2
  simp only [Bool.and_eq_true, beq_iff_eq] at hb
  exact ⟨e, he, hb.1, hb.2⟩

theorem ready_waits {i j : Nat} {L : Array Bool} {o : Oper} (hj : j ∈ Region.ready md ops L) (ho : ops[j]? = some o) (hi : i ∈ Region.ready md ops L) :
    ∀ e ∈ o.after, Region.binds md e = true → e.on ≠ i := fun e he hb heq => by
  obtain ⟨_, o', ho', hall⟩ := mem_ready.1 hj
  rw [ho] at ho'
  cases ho'
  have h1 := hall e he hb
  have h0 := (mem_ready.1 hi).1
  rw [heq] at h1
  rcases Nat.lt_or_ge i L.size with hlt | hge
  · simp [hlt] at h0 h1; rw [h0] at h1; cases h1
  · simp [Array.getElem?_eq_none hge] at h1

theorem wpF_first {i : Nat} {o : Oper} {v : Value} (hi : ops[i]? = some o) (hsel : ∀ (j : Nat) (o : Oper) cs b, ops[j]? = some o → o.op ≠ .select cs b)
    (hfin : i ∉ fin ∧ ∀ j ∈ fin, ∀ o, ops[j]? = some o → ∃ e ∈ o.after, Region.binds md e = true ∧ e.on = i)
    (hQ : ∀ c a w, Q (.panic c) (a.put o.dst v) w → Q (.panic c) a w) :
    ∀ (n : Nat) (L : Array Bool) (a : Act) (w : World),
      (∀ j oj, ops[j]? = some oj → j ≠ i → L.getD j true = false → (∀ e ∈ oj.after, Region.binds md e = true → e.on ≠ i) → o.apart ops oj = true) →
      i ∈ Region.ready md ops L → YieldsIf P ops S o v a → S w →
      wpF P md ops Q S fin n (L.setIfInBounds i true) (a.put o.dst v) w → wpF P md ops Q S fin (n + 1) L a w := by
  intro n
  induction n with
  | zero =>
    intro L a w _ hr hy hS H
    refine ⟨fun h => absurd (h ▸ hr) (by simp), fun j hj => ?_⟩
    by_cases e : j = i
    · subst e; exact hy.wpOp hi hS ⟨fun _ => hS, H⟩
    · have := ready_mono hj e
      rw [H.1] at this
      simp at this
  | succ n ih =>
    intro L a w hfree hr hy hS H
    refine ⟨fun h => absurd (h ▸ hr) (by simp), fun j hj => ?_⟩
    by_cases e : j = i
    · subst e; exact hy.wpOp hi hS ⟨fun _ => hS, H⟩
    · have h1 := H.2 j (ready_mono hj e)
      obtain ⟨hun, oj, hoj, _⟩ := mem_ready.1 hj
      have hnot := ready_waits hj hoj hr
      have hjf : j ∉ fin := fun hm => by
        obtain ⟨x, hx, hb, hxe⟩ := hfin.2 j hm oj hoj
        exact hnot x hx hb hxe
      have h2 := wpOp_putIf hoj (hfree j oj hoj e hun hnot) (fun cs b => hsel i o cs b hi) (fun cs b => hsel j oj cs b hoj) hQ hy h1
      refine wpOp_mono (fun a' w' h3 => ⟨fun _ => h3.2.1 hjf, ih (L.setIfInBounds j true) a' w' ?_ (ready_mono hr (Ne.symm e)) h3.1 (h3.2.1 hjf) ?_⟩) h2
      · intro k ok hk hki hku hno
        refine hfree k ok hk hki ?_ hno
        by_cases hjk : j = k
        · subst hjk; exact hun
        · rwa [getD_set_ne true hjk] at hku
      · rw [Array.setIfInBounds_comm _ _ e]
        exact h3.2.2

theorem wpF_take (i : Nat) {o : Oper} {v : Value} {n : Nat} {L : Array Bool} {a : Act} {w : World} (hi : ops[i]? = some o)
    (hs : Region.noSelect ops = true) (hf : Region.free md ops L i = true) (hr : (Region.ready md ops L).contains i = true) (hn : finOk md ops fin i = true)
    (hQ : ∀ c a w, Q (.panic c) (a.put o.dst v) w → Q (.panic c) a w) (hS : S w) (hw : Region.wanted o (yielded ops a.tmps) = true) (hv : ∀ w, S w → (execOp a.eval o).run P w = .ok (.value v) w)
    (h : wpF P md ops Q S fin n (L.setIfInBounds i true) (a.put o.dst v) w) : wpF P md ops Q S fin (n + 1) L a w :=
  wpF_first hi (Region.noSelect_spec hs) (finOk_spec hn) hQ n L a w (Region.free_spec hi hf) (by simpa using hr) (.inl ⟨hw, hv⟩) hS h

theorem wpF_skip (i : Nat) {o : Oper} {n : Nat} {L : Array Bool} {a : Act} {w : World} (hi : ops[i]? = some o)
    (hs : Region.noSelect ops = true) (hf : Region.free md ops L i = true) (hr : (Region.ready md ops L).contains i = true) (hn : finOk md ops fin i = true)
    (hQ : ∀ c a w, Q (.panic c) (a.put o.dst undef) w → Q (.panic c) a w) (hS : S w) (hw : Region.wanted o (yielded ops a.tmps) = false)
    (h : wpF P md ops Q S fin n (L.setIfInBounds i true) (a.put o.dst undef) w) : wpF P md ops Q S fin (n + 1) L a w :=
  wpF_first hi (Region.noSelect_spec hs) (finOk_spec hn) hQ n L a w (Region.free_spec hi hf) (by simpa using hr) (.inr ⟨hw, rfl⟩) hS h

/-- One check in the place of four. -/
def takeOk (md : Region.Mode) (ops : Array Oper) (fin : List Nat) (L : Array Bool) (i : Nat) : Bool :=
  Region.noSelect ops && Region.free md ops L i && (Region.ready md ops L).contains i && finOk md ops fin i
theorem takeOk_spec {md : Region.Mode} {ops : Array Oper} {fin : List Nat} {L : Array Bool} {i : Nat} (h : takeOk md ops fin L i = true) :
    Region.noSelect ops = true ∧ Region.free md ops L i = true ∧ (Region.ready md ops L).contains i = true ∧ finOk md ops fin i = true := by
  unfold takeOk at h
  simp only [Bool.and_eq_true] at h
  exact ⟨h.1.1.1, h.1.1.2, h.1.2, h.2⟩
theorem wpF_take2 (i : Nat) {o : Oper} {v : Value} {n : Nat} {L : Array Bool} {a : Act} {w : World} (hi : ops[i]? = some o) (hc : takeOk md ops fin L i = true)
    (hQ : ∀ c a w, Q (.panic c) (a.put o.dst v) w → Q (.panic c) a w) (hS : S w) (hw : Region.wanted o (yielded ops a.tmps) = true) (hv : ∀ w, S w → (execOp a.eval o).run P w = .ok (.value v) w)
    (h : wpF P md ops Q S fin n (L.setIfInBounds i true) (a.put o.dst v) w) : wpF P md ops Q S fin (n + 1) L a w :=
  wpF_take i hi (takeOk_spec hc).1 (takeOk_spec hc).2.1 (takeOk_spec hc).2.2.1 (takeOk_spec hc).2.2.2 hQ hS hw hv h
theorem wpF_skip2 (i : Nat) {o : Oper} {n : Nat} {L : Array Bool} {a : Act} {w : World} (hi : ops[i]? = some o) (hc : takeOk md ops fin L i = true)
    (hQ : ∀ c a w, Q (.panic c) (a.put o.dst undef) w → Q (.panic c) a w) (hS : S w) (hw : Region.wanted o (yielded ops a.tmps) = false)
    (h : wpF P md ops Q S fin n (L.setIfInBounds i true) (a.put o.dst undef) w) : wpF P md ops Q S fin (n + 1) L a w :=
  wpF_skip i hi (takeOk_spec hc).1 (takeOk_spec hc).2.1 (takeOk_spec hc).2.2.1 (takeOk_spec hc).2.2.2 hQ hS hw h
/-- The same, with the number of the next operation beside it: a row of steps is one text. -/
def wpI (P : Program) (md : Region.Mode) (ops : Array Oper) (Q : Exit → Act → World → Prop) (S : World → Prop) (fin : List Nat) (_ n : Nat) (L : Array Bool) (a : Act) (w : World) : Prop := wpF P md ops Q S fin n L a w
theorem wpI_from (i : Nat) {n : Nat} {L : Array Bool} {a : Act} {w : World} (h : wpI P md ops Q S fin i n L a w) : wpF P md ops Q S fin n L a w := h
theorem wpI_till {i n : Nat} {L : Array Bool} {a : Act} {w : World} (h : wpF P md ops Q S fin n L a w) : wpI P md ops Q S fin i n L a w := h
theorem wpI_take {i : Nat} {o : Oper} {v : Value} {n : Nat} {L : Array Bool} {a : Act} {w : World} (hi : ops[i]? = some o) (hc : takeOk md ops fin L i = true)
    (hQ : ∀ c a w, Q (.panic c) (a.put o.dst v) w → Q (.panic c) a w) (hS : S w) (hw : Region.wanted o (yielded ops a.tmps) = true) (hv : ∀ w, S w → (execOp a.eval o).run P w = .ok (.value v) w)
    (h : wpI P md ops Q S fin (i + 1) n (L.setIfInBounds i true) (a.put o.dst v) w) : wpI P md ops Q S fin i (n + 1) L a w :=
  wpF_take2 i hi hc hQ hS hw hv h
theorem wpI_skip {i : Nat} {o : Oper} {n : Nat} {L : Array Bool} {a : Act} {w : World} (hi : ops[i]? = some o) (hc : takeOk md ops fin L i = true)
    (hQ : ∀ c a w, Q (.panic c) (a.put o.dst undef) w → Q (.panic c) a w) (hS : S w) (hw : Region.wanted o (yielded ops a.tmps) = false)
    (h : wpI P md ops Q S fin (i + 1) n (L.setIfInBounds i true) (a.put o.dst undef) w) : wpI P md ops Q S fin i (n + 1) L a w :=
  wpF_skip2 i hi hc hQ hS hw h
/-- What a step leaves is put into order by these. -/
theorem tk : type_of% (And.intro (@List.getElem_toArray Oper) (And.intro (@List.getElem_cons_succ Oper) (And.intro (@List.getElem_cons_zero Oper) (And.intro (@List.setIfInBounds_toArray Value) (And.intro (@List.set_cons_zero Value) (@List.set_cons_succ Value)))))) :=
  And.intro (@List.getElem_toArray Oper) (And.intro (@List.getElem_cons_succ Oper) (And.intro (@List.getElem_cons_zero Oper) (And.intro (@List.setIfInBounds_toArray Value) (And.intro (@List.set_cons_zero Value) (@List.set_cons_succ Value)))))

theorem wpF_one (i : Nat) {o : Oper} {n : Nat} {L : Array Bool} {a : Act} {w : World} (hi : ops[i]? = some o) (hr : Region.ready md ops L = [i])
    (hw : Region.wanted o (yielded ops a.tmps) = true)
    (h : ∀ K : Act → World → Prop, (∀ a' w', (i ∉ fin → S w') → ((i ∉ fin → S w') → wpF P md ops Q S fin n (L.setIfInBounds i true) a' w') → K a' w') → o.wp P a w K Q) : wpF P md ops Q S fin (n + 1) L a w := by
  refine ⟨fun h0 => absurd (h0.symm.trans hr) (by simp), ?_⟩
  rw [hr]
  intro j hj
  obtain rfl : j = i := by simpa using hj
  unfold wpOp
  rw [hi]
  simp only [hw, if_true]
  exact .inl (h _ fun a' w' h1 h2 => ⟨h1, h2 h1⟩)

/-- Several may come up: each on a way of its own. -/
theorem wpF_many {n : Nat} {L : Array Bool} {a : Act} {w : World} (rs : List Nat) (hr : Region.ready md ops L = rs) (hne : rs ≠ [])
    (h : ∀ i, i ∈ rs → wpOp P ops Q i (fun a' w' => (i ∉ fin → S w') ∧ wpF P md ops Q S fin n (L.setIfInBounds i true) a' w') a w) : wpF P md ops Q S fin (n + 1) L a w :=
  ⟨fun h0 => absurd (hr.symm.trans h0) hne, by rw [hr]; exact h⟩
theorem many_cons {i : Nat} {rs : List Nat} {p : Nat → Prop} (h1 : p i) (h2 : ∀ j, j ∈ rs → p j) : ∀ j, j ∈ i :: rs → p j := fun j hj => by
  rcases List.mem_cons.1 hj with rfl | hj
  · exact h1
  · exact h2 j hj
theorem many_nil {p : Nat → Prop} : ∀ j, j ∈ ([] : List Nat) → p j := fun j hj => by simp at hj
theorem wpF_way (i : Nat) {o : Oper} {n : Nat} {L : Array Bool} {a : Act} {w : World} (hi : ops[i]? = some o)
    (hw : Region.wanted o (yielded ops a.tmps) = true)
    (h : ∀ K : Act → World → Prop, (∀ a' w', (i ∉ fin → S w') → ((i ∉ fin → S w') → wpF P md ops Q S fin n (L.setIfInBounds i true) a' w') → K a' w') → o.wp P a w K Q) :
    wpOp P ops Q i (fun a' w' => (i ∉ fin → S w') ∧ wpF P md ops Q S fin n (L.setIfInBounds i true) a' w') a w := by
  unfold wpOp
  rw [hi]
  simp only [hw, if_true]
  exact .inl (h _ fun a' w' h1 h2 => ⟨h1, h2 h1⟩)

theorem wpF_done {L : Array Bool} {a : Act} {w : World} (hr : Region.ready md ops L = []) (h : Q .normal a w) : ∀ n, wpF P md ops Q S fin n L a w
  | 0 => ⟨hr, h⟩
  | _ + 1 => ⟨fun _ => h, by rw [hr]; simp⟩

theorem wp_region_f (fin : List Nat) (S : World → Prop) {id : Nat} {l : List Oper} {a : Act} {w : World} (hm : P.follows .mixedOrders = true) (hS : S w.drew)
    (h : S w.drew → wpF P .any l.toArray Q S fin l.toArray.size (Array.replicate l.toArray.size false) a w.drew) : (Code.region id l.toArray true).wp P Q a w :=
  wp_region_any hm (wpAny_of_wpF _ _ _ _ (h hS))
end

/-- A world in which all but the blocks of X is as in W. -/
structure ExtX (X : Nat → Prop) (W : World) where
  val : World
  property : Keep X W val

instance (X : Nat → Prop) (W : World) : Nonempty (ExtX X W) := ⟨⟨W, Keep.refl _ _⟩⟩

theorem ExtX.cell {X : Nat → Prop} {W : World} (E : ExtX X W) (b o : Nat) (h : b < W.heap.size) (hx : ¬ X b) : (E.val).cell? ⟨b, o, none⟩ = W.cell? ⟨b, o, none⟩ :=
  World.cell?_of_block (w := W) (E.property.block b h hx)

attribute [go_sem] ExtX.cell

/-- The class: what is W but for X. -/
def InX (X : Nat → Prop) (W w : World) : Prop := ∃ E : ExtX X W, w = E.val
theorem InX.mk {X : Nat → Prop} {W w : World} (h : Keep X W w) : InX X W w := ⟨⟨w, h⟩, rfl⟩
theorem InX.keep {X : Nat → Prop} {W w : World} (h : InX X W w) : Keep X W w := by obtain ⟨E, rfl⟩ := h; exact E.property

theorem ownsRow_keep {X : Nat → Prop} {w w' : World} {base : Nat} {e : TypeId} {size : Nat} {v : Value} {n : Nat} {xs : List Value} (h : w.ownsRow base e size v n xs) (hk : Keep X w w') (hx : ∀ g, v.ownBlock = some g → ¬ X g) :
    w'.ownsRow base e size v n xs := by
  refine ⟨h.1, ?_⟩
  rcases h.2 with h2 | ⟨g, cap, cur, rfl, hb, hg, r⟩
  · exact .inl h2
  · exact .inr ⟨g, cap, cur, rfl, hb, hk.obj hg (hx g rfl), r⟩

/-! A block known whole -/
def Blk (w : World) (b : Nat) (cs : Array Value) (t : TypeId) : Prop := w.heap[b]? = some (.cells cs t (0, 0))
namespace Blk
set_option linter.unusedVariables false
set_option linter.unusedSimpArgs false
variable {w w' : World} {b : Nat} {cs : Array Value} {t : TypeId}
theorem lt (h : Blk w b cs t) : b < w.heap.size := (Array.getElem?_eq_some_iff.1 h).1
theorem cell (h : Blk w b cs t) (o : Nat) {u : Value} (hu : cs[o]? = some u) : w.cell? ⟨b, o, none⟩ = some u := by
  unfold World.cell?; rw [h]; simpa using hu
theorem frozen (h : Blk w b cs t) (o : Nat) : w.frozen? ⟨b, o, none⟩ = false := by
  unfold World.frozen?; rw [h]; simp
theorem keep {X : Nat → Prop} (h : Blk w b cs t) (hk : Keep X w w') (hx : ¬ X b) : Blk w' b cs t := hk.obj h hx
theorem drew (h : Blk w b cs t) : Blk w.drew b cs t := h
theorem alloc (h : Blk w b cs t) (o : Obj) : Blk (w.alloc o) b cs t := by
  unfold Blk; rw [Below.heap_alloc _ _ _ h.lt]; exact h
theorem new (w : World) (cs : Array Value) (t : TypeId) : Blk (w.alloc (.cells cs t)) w.heap.size cs t := heap_alloc_new w _
theorem new' {w : World} {b : Nat} (hb : b = w.heap.size) (cs : Array Value) (t : TypeId) : Blk (w.alloc (.cells cs t)) b cs t := hb ▸ heap_alloc_new w _
theorem set (h : Blk w b cs t) (o : Nat) (u : Value) : Blk (w.setCell ⟨b, o, none⟩ u) b (cs.setIfInBounds o u) t := by
  unfold Blk World.setCell
  simp only [Array.getElem?_modify, if_true]
  rw [h]; simp
theorem setOther (h : Blk w b cs t) {p : Addr} (hp : p.block ≠ b) (u : Value) : Blk (w.setCell p u) b cs t := by
  unfold Blk; rw [Below.heap_setCell _ _ _ _ (by exact fun e => hp e.symm)]; exact h
theorem setRow (h : Blk w b cs t) (cs' : Array Value) : Blk (w.setRow b cs') b cs' t := setRow_heap w b cs cs' t _ h
theorem setRowOther (h : Blk w b cs t) {g : Nat} (hg : b ≠ g) (cs' : Array Value) : Blk (w.setRow g cs') b cs t := by
  unfold Blk; rw [setRow_other w g b cs' hg]; exact h
end Blk

theorem Keep.setOb (w : World) (B o : Nat) (v : Value) : Keep (Ob B) w (w.setCell ⟨B, o, none⟩ v) :=
  Keep.setCell (X := Ob B) (p := ⟨B, o, none⟩) (Keep.refl _ _) (Or.inr rfl) v
theorem Keep.ob {w w' : World} {B : Nat} (h : Keep Nb w w') : Keep (Ob B) w w' := h.mono fun _ _ h => h.elim

theorem Keep.relit {A : World} {B : Nat} (hB : B = A.heap.size) (o1 o2 : Obj) : Keep (Ob B) (A.alloc o1) (A.alloc o2) :=
  ⟨rfl, rfl, rfl, by simp, fun k hk hx => by
    have h1 : k ≠ A.heap.size := fun e => hx (by rw [Ob, hB]; exact e)
    have h2 : (A.alloc o1).heap.size = A.heap.size + 1 := by simp
    rw [Below.heap_alloc _ _ _ (by omega), Below.heap_alloc _ _ _ (by omega)]⟩

theorem results_row_tmp {P : Program} {fn : Func} {p u : Tmp} {ty : TypeId} (h : fn.results = #[.cell p ty, .tmp u]) (tmps : Array Value) (w : World) (g : Nat) (t : TypeId) (cs : Array Value) (fr : Nat × Nat) (d : TypeDesc)
    (hp : tmps.getD p undef = .pointer (some ⟨g, 0, none⟩)) (hg : w.heap[g]? = some (.cells cs t fr))
    (hu : P.underlying ty = some d) (hd : (match d with | .struct _ | .array _ _ => true | _ => false) = true) (hi : (P.info? ty).map (·.size) = some cs.size) :
    (results fn tmps).run P w = .ok (.tuple #[.agg cs, tmps.getD u undef]) w := by
  rw [results_cell_tmp h, hp]
  simp [asAddr, run_loadVar_row w g t ty cs fr d hg hu hd hi]

theorem Keep.setRow {X : Nat → Prop} {a w : World} (h : Keep X a w) {g : Nat} (hp : a.heap.size ≤ g ∨ X g) (cs : Array Value) : Keep X a (w.setRow g cs) :=
  h.trans (Y := fun k => k = g) ⟨rfl, rfl, rfl, by simp [World.setRow], fun k _ hk => setRow_other w g k cs (fun e => hk e)⟩
    (fun b hb e => by subst e; rcases hp with hp | hp; · omega
                      · exact hp)

end Go.Proofs.YtnjanpejmfkopaaDoor
