/- What lies in memory: trees behind slices of nodes, and what of it a call leaves as it was. -/
import Derived.Test.YtkidjbfapldmbaaProg
import Derived.Test.YtkidjbfapldmbaaPure
import Derived.WalkKit
import Derived.WalkSpells
import Derived.WalkLawsBesides
import Derived.Lib.Hide
namespace Go.Proofs.Ytkidjbfapldmbaa
set_option linter.unusedVariables false
set_option linter.unusedSimpArgs false
open Go.RowKit P8

/-- A node's ten cells: its head, and the slice value v of the nodes in it. -/
def Nd.row (T : Nd) (v : Value) : Array Value :=
  #[.int .i64 T.h.k, .int .u8 T.h.c, .int .u64 T.h.s0, .int .u64 T.h.s1, .int .u64 T.h.s2, .int .u64 T.h.s3, .int .i64 T.h.n, .int .i64 T.h.mn, .int .i64 T.h.mx, v]

mutual
/-- In w the nodes in T lie behind the slice value v, all in blocks that Ok lets. -/
def LiesP (Ok : Nat → Prop) (w : World) : Nd → Value → Prop
  | .mk _ l, v => ∃ A cap, v = .slice A l.length cap ∧ l.length ≤ cap ∧ cap ≤ maxLen ∧ LiesPL Ok w A 0 l
def LiesPL (Ok : Nat → Prop) (w : World) (A : Option Addr) : Nat → List Nd → Prop
  | _, [] => True
  | i, x :: r => (∃ b off S, A = some ⟨b, off, none⟩ ∧ Ok b ∧ (∀ j u, (Nd.row x S)[j]? = some u → w.cell? ⟨b, off + i * 10 + j, none⟩ = some u) ∧ LiesP Ok w x S) ∧ LiesPL Ok w A (i + 1) r
end

/-- In w the nodes in T lie behind the slice value v. -/
abbrev Lies (w : World) (T : Nd) (v : Value) : Prop := LiesP (fun _ => True) w T v
abbrev LiesL (w : World) (A : Option Addr) (i : Nat) (l : List Nd) : Prop := LiesPL (fun _ => True) w A i l

theorem LiesP_def {Ok : Nat → Prop} {w : World} {T : Nd} {v : Value} : LiesP Ok w T v ↔ ∃ A cap, v = .slice A T.l.length cap ∧ T.l.length ≤ cap ∧ cap ≤ maxLen ∧ LiesPL Ok w A 0 T.l := by
  cases T; rw [LiesP, Nd.l]
theorem Lies_def {w : World} {T : Nd} {v : Value} : Lies w T v ↔ ∃ A cap, v = .slice A T.l.length cap ∧ T.l.length ≤ cap ∧ cap ≤ maxLen ∧ LiesL w A 0 T.l := LiesP_def
theorem Lies_mk {w : World} {h : Hd} {l : List Nd} {v : Value} : Lies w (.mk h l) v ↔ ∃ A cap, v = .slice A l.length cap ∧ l.length ≤ cap ∧ cap ≤ maxLen ∧ LiesL w A 0 l := LiesP_def

theorem LiesPL_get {Ok : Nat → Prop} {w : World} {A : Option Addr} : ∀ {l : List Nd} {i : Nat}, LiesPL Ok w A i l → ∀ j, (hj : j < l.length) →
    ∃ b off S, A = some ⟨b, off, none⟩ ∧ Ok b ∧ (∀ m u, (Nd.row l[j] S)[m]? = some u → w.cell? ⟨b, off + (i + j) * 10 + m, none⟩ = some u) ∧ LiesP Ok w l[j] S := by
  intro l
  induction l with
  | nil => intro i _ j hj; simp at hj
  | cons x r ih =>
    intro i h j hj
    rw [LiesPL] at h
    cases j with
    | zero => simpa using h.1
    | succ j =>
      have := ih h.2 j (by simpa using hj)
      simpa [Nat.add_assoc, Nat.add_comm 1 j] using this

theorem LiesPL_of {Ok : Nat → Prop} {w : World} {A : Option Addr} : ∀ {l : List Nd} {i : Nat}, (∀ j, (hj : j < l.length) →
    ∃ b off S, A = some ⟨b, off, none⟩ ∧ Ok b ∧ (∀ m u, (Nd.row l[j] S)[m]? = some u → w.cell? ⟨b, off + (i + j) * 10 + m, none⟩ = some u) ∧ LiesP Ok w l[j] S) → LiesPL Ok w A i l := by
  intro l
  induction l with
  | nil => intro i _; rw [LiesPL]; trivial
  | cons x r ih =>
    intro i h
    rw [LiesPL]
    refine ⟨h 0 (by simp), ih fun j hj => ?_⟩
    have := h (j + 1) (by simpa using hj)
    simpa [Nat.add_assoc, Nat.add_comm 1 j] using this

theorem cell_lt {w : World} {b off : Nat} {u : Value} (h : w.cell? ⟨b, off, none⟩ = some u) : b < w.heap.size := World.block_lt_of_cell? w ⟨b, off, none⟩ h

/-! ## Worlds: all blocks but some are as they were -/
structure Keep (X : Nat → Prop) (w w' : World) : Prop where
  os : w'.os = w.os
  tape : w'.tape = w.tape
  output : w'.output = w.output
  size : w.heap.size ≤ w'.heap.size
  block : ∀ k, k < w.heap.size → ¬ X k → w'.heap[k]? = w.heap[k]?

def Nb : Nat → Prop := fun _ => False
def Ob (B : Nat) : Nat → Prop := fun k => k = B

namespace Keep
variable {X Y : Nat → Prop} {a w w' w1 w2 w3 : World}
theorem refl (X : Nat → Prop) (w : World) : Keep X w w := ⟨rfl, rfl, rfl, Nat.le_refl _, fun _ _ _ => rfl⟩
/-- Behind a step that keeps all but what X or what is new. -/
theorem trans (h : Keep X w1 w2) (k : Keep Y w2 w3) (hY : ∀ b, b < w1.heap.size → Y b → X b) : Keep X w1 w3 :=
  ⟨k.os.trans h.os, k.tape.trans h.tape, k.output.trans h.output, Nat.le_trans h.size k.size,
    fun i hi hx => (k.block i (Nat.lt_of_lt_of_le hi h.size) (fun hy => hx (hY i hi hy))).trans (h.block i hi hx)⟩
theorem mono (h : Keep X w w') (hX : ∀ b, b < w.heap.size → X b → Y b) : Keep Y w w' := ⟨h.os, h.tape, h.output, h.size, fun k hk hy => h.block k hk fun hx => hy (hX k hk hx)⟩
theorem drew (h : Keep X a w) : Keep X a w.drew := ⟨h.os, h.tape, h.output, h.size, h.block⟩
theorem drewN (h : Keep X a w) (n : Nat) : Keep X a (w.drewN n) := by
  have e : (w.drewN n).heap = w.heap ∧ (w.drewN n).os = w.os ∧ (w.drewN n).tape = w.tape ∧ (w.drewN n).output = w.output := ⟨rfl, rfl, rfl, rfl⟩
  exact ⟨h.os, h.tape, h.output, h.size, h.block⟩
theorem alloc (h : Keep X a w) (o : Obj) : Keep X a (w.alloc o) :=
  h.trans (Y := X) ⟨rfl, rfl, rfl, by simp, fun k hk _ => Below.heap_alloc _ _ _ hk⟩ fun _ _ h => h
theorem setCell (h : Keep X a w) {p : Addr} (hp : a.heap.size ≤ p.block ∨ X p.block) (u : Value) : Keep X a (w.setCell p u) :=
  h.trans (Y := fun k => k = p.block) ⟨rfl, rfl, rfl, by simp [World.setCell], fun k _ hk => Below.heap_setCell _ _ _ _ (by exact fun e => hk e)⟩
    (fun b hb e => by subst e; rcases hp with hp | hp; · omega
                      · exact hp)
theorem below (h : Keep Nb w w') : Below w.heap.size w w' := ⟨h.os, h.tape, h.output, h.size, fun k hk => h.block k hk id⟩
theorem of_below {B : Nat} (h : Below B w w') : Keep (fun k => B ≤ k) w w' := ⟨h.os, h.tape, h.output, h.size, fun k _ hx => h.block k (by omega)⟩
theorem of_grown {row : Option Nat} (h : w.grownBy w' row) : Keep (fun k => some k = row) w w' := ⟨h.os, h.tape, h.output, h.size, fun k hk hx => h.block k hk hx⟩
theorem cell (h : Keep X w w') {p : Addr} {u : Value} (hc : w.cell? p = some u) (hx : ¬ X p.block) : w'.cell? p = some u := by
  rw [World.cell?_of_block (w := w) (h.block p.block (World.block_lt_of_cell? w p hc) hx)]; exact hc
theorem frozen (h : Keep X w w') {p : Addr} {v : Bool} (hc : w.frozen? p = v) (hl : p.block < w.heap.size) (hx : ¬ X p.block) : w'.frozen? p = v := by
  rw [World.frozen?_of_block (w := w) (h.block p.block hl hx)]; exact hc
theorem obj (h : Keep X w w') {b : Nat} {o : Obj} (hc : w.heap[b]? = some o) (hx : ¬ X b) : w'.heap[b]? = some o := by
  rw [h.block b (Array.getElem?_eq_some_iff.1 hc).1 hx]; exact hc
end Keep

mutual
/-- What lies in memory lies there still where no cell of the blocks that Ok lets has turned. -/
theorem LiesP_cells {Ok : Nat → Prop} {w w' : World} (hc : ∀ b off u, Ok b → w.cell? ⟨b, off, none⟩ = some u → w'.cell? ⟨b, off, none⟩ = some u) : ∀ (T : Nd) (v : Value), LiesP Ok w T v → LiesP Ok w' T v
  | .mk _ l, v, h => by
    rw [LiesP] at h ⊢
    obtain ⟨A, cap, rfl, h1, h2, h3⟩ := h
    exact ⟨A, cap, rfl, h1, h2, LiesPL_cells hc l A 0 h3⟩
theorem LiesPL_cells {Ok : Nat → Prop} {w w' : World} (hc : ∀ b off u, Ok b → w.cell? ⟨b, off, none⟩ = some u → w'.cell? ⟨b, off, none⟩ = some u) : ∀ (l : List Nd) (A : Option Addr) (i : Nat), LiesPL Ok w A i l → LiesPL Ok w' A i l
  | [], _, _, _ => by rw [LiesPL]; trivial
  | x :: r, A, i, h => by
    rw [LiesPL] at h ⊢
    obtain ⟨⟨b, off, S, hA, hb, hx, hs⟩, hr⟩ := h
    exact ⟨⟨b, off, S, hA, hb, fun j u hu => hc _ _ _ hb (hx j u hu), LiesP_cells hc x S hs⟩, LiesPL_cells hc r A (i + 1) hr⟩
end

mutual
theorem LiesP_mono {Ok Ok' : Nat → Prop} {w : World} (hc : ∀ b off u, Ok b → w.cell? ⟨b, off, none⟩ = some u → Ok' b) : ∀ (T : Nd) (v : Value), LiesP Ok w T v → LiesP Ok' w T v
  | .mk _ l, v, h => by
    rw [LiesP] at h ⊢
    obtain ⟨A, cap, rfl, h1, h2, h3⟩ := h
    exact ⟨A, cap, rfl, h1, h2, LiesPL_mono hc l A 0 h3⟩
theorem LiesPL_mono {Ok Ok' : Nat → Prop} {w : World} (hc : ∀ b off u, Ok b → w.cell? ⟨b, off, none⟩ = some u → Ok' b) : ∀ (l : List Nd) (A : Option Addr) (i : Nat), LiesPL Ok w A i l → LiesPL Ok' w A i l
  | [], _, _, _ => by rw [LiesPL]; trivial
  | x :: r, A, i, h => by
    rw [LiesPL] at h ⊢
    obtain ⟨⟨b, off, S, hA, hb, hx, hs⟩, hr⟩ := h
    exact ⟨⟨b, off, S, hA, hc _ _ _ hb (hx 0 _ rfl), hx, LiesP_mono hc x S hs⟩, LiesPL_mono hc r A (i + 1) hr⟩
end

theorem LiesP_all {Ok : Nat → Prop} {w : World} {T : Nd} {v : Value} (h : LiesP Ok w T v) : Lies w T v := LiesP_mono (fun _ _ _ _ _ => trivial) T v h

/-- Blocks of X have turned, none of what lies. -/
theorem LiesP_keep {Ok X : Nat → Prop} {w w' : World} (hb : Keep X w w') (hx : ∀ b, Ok b → ¬ X b) {T : Nd} {v : Value} (h : LiesP Ok w T v) : LiesP Ok w' T v :=
  LiesP_cells (fun b off u ho hc => hb.cell (p := ⟨b, off, none⟩) hc (hx b ho)) T v h
theorem Lies_keep {Ok : Nat → Prop} {w w' : World} (hb : Keep Nb w w') {T : Nd} {v : Value} (h : LiesP Ok w T v) : LiesP Ok w' T v :=
  LiesP_keep hb (fun _ _ h => h) h
theorem LiesL_keep {Ok : Nat → Prop} {w w' : World} (hb : Keep Nb w w') {l : List Nd} {A : Option Addr} {i : Nat} (h : LiesPL Ok w A i l) : LiesPL Ok w' A i l :=
  LiesPL_cells (fun b off u _ hc => hb.cell (p := ⟨b, off, none⟩) hc id) l A i h

/-- The ten cells of element j, as the walk wants them. -/
structure Ten (w : World) (b o : Nat) (T : Nd) (S : Value) : Prop where
  c0 : w.cell? ⟨b, o, none⟩ = some (.int .i64 T.h.k)
  c1 : w.cell? ⟨b, o + 1, none⟩ = some (.int .u8 T.h.c)
  c2 : w.cell? ⟨b, o + 2, none⟩ = some (.int .u64 T.h.s0)
  c3 : w.cell? ⟨b, o + 3, none⟩ = some (.int .u64 T.h.s1)
  c4 : w.cell? ⟨b, o + 4, none⟩ = some (.int .u64 T.h.s2)
  c5 : w.cell? ⟨b, o + 5, none⟩ = some (.int .u64 T.h.s3)
  c6 : w.cell? ⟨b, o + 6, none⟩ = some (.int .i64 T.h.n)
  c7 : w.cell? ⟨b, o + 7, none⟩ = some (.int .i64 T.h.mn)
  c8 : w.cell? ⟨b, o + 8, none⟩ = some (.int .i64 T.h.mx)
  c9 : w.cell? ⟨b, o + 9, none⟩ = some S
  lt : b < w.heap.size

theorem ten_of {w : World} {b o : Nat} {T : Nd} {S : Value} (h : ∀ m u, (Nd.row T S)[m]? = some u → w.cell? ⟨b, o + m, none⟩ = some u) : Ten w b o T S :=
  ⟨h 0 _ rfl, h 1 _ rfl, h 2 _ rfl, h 3 _ rfl, h 4 _ rfl, h 5 _ rfl, h 6 _ rfl, h 7 _ rfl, h 8 _ rfl, h 9 _ rfl, cell_lt (h 9 _ rfl)⟩

/-- Element j of nodes that lie behind A. -/
theorem LiesPL.at {w : World} {A : Option Addr} {l : List Nd} (h : LiesL w A 0 l) (j : Nat) (hj : j < l.length) :
    ∃ b off A2 c2, A = some ⟨b, off, none⟩ ∧ Ten w b (off + j * 10) l[j] (.slice A2 l[j].l.length c2) ∧ Lies w l[j] (.slice A2 l[j].l.length c2) := by
  obtain ⟨b, off, S, hA, _, hc, hs⟩ := LiesPL_get h j hj
  have hs' := hs
  rw [LiesP_def] at hs'
  obtain ⟨A2, c2, rfl, _⟩ := hs'
  exact ⟨b, off, A2, c2, hA, ten_of (by simpa using hc), hs⟩

theorem LiesPL.atP {Ok : Nat → Prop} {w : World} {A : Option Addr} {l : List Nd} (h : LiesPL Ok w A 0 l) (j : Nat) (hj : j < l.length) :
    ∃ b off A2 c2, A = some ⟨b, off, none⟩ ∧ Ok b ∧ Ten w b (off + j * 10) l[j] (.slice A2 l[j].l.length c2) ∧ LiesP Ok w l[j] (.slice A2 l[j].l.length c2) := by
  obtain ⟨b, off, S, hA, hb, hc, hs⟩ := LiesPL_get h j hj
  have hs' := hs
  rw [LiesP_def] at hs'
  obtain ⟨A2, c2, rfl, _⟩ := hs'
  exact ⟨b, off, A2, c2, hA, hb, ten_of (by simpa using hc), hs⟩

theorem Ten.keepX {X : Nat → Prop} {w w' : World} {b o : Nat} {T : Nd} {S : Value} (h : Ten w b o T S) (hk : Keep X w w') (hx : ¬ X b) : Ten w' b o T S :=
  ⟨hk.cell h.c0 hx, hk.cell h.c1 hx, hk.cell h.c2 hx, hk.cell h.c3 hx, hk.cell h.c4 hx, hk.cell h.c5 hx, hk.cell h.c6 hx, hk.cell h.c7 hx, hk.cell h.c8 hx, hk.cell h.c9 hx, Nat.lt_of_lt_of_le h.lt hk.size⟩

theorem Ten.keep {w w' : World} {b o : Nat} {T : Nd} {S : Value} (h : Ten w b o T S) (hk : Keep Nb w w') : Ten w' b o T S :=
  ⟨hk.cell h.c0 id, hk.cell h.c1 id, hk.cell h.c2 id, hk.cell h.c3 id, hk.cell h.c4 id, hk.cell h.c5 id, hk.cell h.c6 id, hk.cell h.c7 id, hk.cell h.c8 id, hk.cell h.c9 id, Nat.lt_of_lt_of_le h.lt hk.size⟩

end Go.Proofs.Ytkidjbfapldmbaa
