/- What a call leaves as it was; a block known whole. -/
import Derived.Test.YtilnccjdbdcklaaDoorBuild
namespace Go.Proofs.YtilnccjdbdcklaaDoor
set_option linter.unusedVariables false
set_option linter.unusedSimpArgs false
open Go.RowKit

theorem cell_lt {w : World} {b off : Nat} {u : Value} (h : w.cell? ⟨b, off, none⟩ = some u) : b < w.heap.size := World.block_lt_of_cell? w ⟨b, off, none⟩ h

structure Keep (X : Nat → Prop) (w w' : World) : Prop where
  os : w'.os = w.os
  tape : w'.tape = w.tape
  output : w'.output = w.output
  size : w.heap.size ≤ w'.heap.size
  block : ∀ k, k < w.heap.size → ¬ X k → w'.heap[k]? = w.heap[k]?

def Nb : Nat → Prop := fun _ => False
def Ob (B : Nat) : Nat → Prop := fun k => k = B

namespace Keep
set_option linter.unusedVariables false
set_option linter.unusedSimpArgs false
variable {X Y : Nat → Prop} {a w w' w1 w2 w3 : World}
theorem refl (X : Nat → Prop) (w : World) : Keep X w w := ⟨rfl, rfl, rfl, Nat.le_refl _, fun _ _ _ => rfl⟩
/-- Behind a step that keeps all but what X or what is new. -/
theorem trans (h : Keep X w1 w2) (k : Keep Y w2 w3) (hY : ∀ b, b < w1.heap.size → Y b → X b) : Keep X w1 w3 :=
  ⟨k.os.trans h.os, k.tape.trans h.tape, k.output.trans h.output, Nat.le_trans h.size k.size,
    fun i hi hx => (k.block i (Nat.lt_of_lt_of_le hi h.size) (fun hy => hx (hY i hi hy))).trans (h.block i hi hx)⟩
theorem mono (h : Keep X w w') (hX : ∀ b, b < w.heap.size → X b → Y b) : Keep Y w w' := ⟨h.os, h.tape, h.output, h.size, fun k hk hy => h.block k hk fun hx => hy (hX k hk hx)⟩
theorem drew (h : Keep X a w) : Keep X a w.drew := ⟨h.os, h.tape, h.output, h.size, h.block⟩
theorem drewN (h : Keep X a w) (n : Nat) : Keep X a (w.drewN n) := by
  have e : (w.drewN n).heap = w.heap ∧ (w.drewN n).os = w.os ∧ (w.drewN n).tape = w.tape ∧ (w.drewN n).output = w.output := ⟨rfl, rfl, rfl, rfl⟩
  exact ⟨h.os, h.tape, h.output, h.size, h.block⟩
theorem alloc (h : Keep X a w) (o : Obj) : Keep X a (w.alloc o) :=
  h.trans (Y := X) ⟨rfl, rfl, rfl, by simp, fun k hk _ => Below.heap_alloc _ _ _ hk⟩ fun _ _ h => h
theorem setCell (h : Keep X a w) {p : Addr} (hp : a.heap.size ≤ p.block ∨ X p.block) (u : Value) : Keep X a (w.setCell p u) :=
  h.trans (Y := fun k => k = p.block) ⟨rfl, rfl, rfl, by simp [World.setCell], fun k _ hk => Below.heap_setCell _ _ _ _ (by exact fun e => hk e)⟩
    (fun b hb e => by subst e; rcases hp with hp | hp; · omega
                      · exact hp)
theorem below (h : Keep Nb w w') : Below w.heap.size w w' := ⟨h.os, h.tape, h.output, h.size, fun k hk => h.block k hk id⟩
theorem of_below {B : Nat} (h : Below B w w') : Keep (fun k => B ≤ k) w w' := ⟨h.os, h.tape, h.output, h.size, fun k _ hx => h.block k (by omega)⟩
theorem of_grown {row : Option Nat} (h : w.grownBy w' row) : Keep (fun k => some k = row) w w' := ⟨h.os, h.tape, h.output, h.size, fun k hk hx => h.block k hk hx⟩
theorem cell (h : Keep X w w') {p : Addr} {u : Value} (hc : w.cell? p = some u) (hx : ¬ X p.block) : w'.cell? p = some u := by
  rw [World.cell?_of_block (w := w) (h.block p.block (World.block_lt_of_cell? w p hc) hx)]; exact hc
theorem frozen (h : Keep X w w') {p : Addr} {v : Bool} (hc : w.frozen? p = v) (hl : p.block < w.heap.size) (hx : ¬ X p.block) : w'.frozen? p = v := by
  rw [World.frozen?_of_block (w := w) (h.block p.block hl hx)]; exact hc
theorem obj (h : Keep X w w') {b : Nat} {o : Obj} (hc : w.heap[b]? = some o) (hx : ¬ X b) : w'.heap[b]? = some o := by
  rw [h.block b (Array.getElem?_eq_some_iff.1 hc).1 hx]; exact hc
end Keep

/-! A block known whole -/
def Blk (w : World) (b : Nat) (cs : Array Value) (t : TypeId) : Prop := w.heap[b]? = some (.cells cs t (0, 0))
namespace Blk
set_option linter.unusedVariables false
set_option linter.unusedSimpArgs false
variable {w w' : World} {b : Nat} {cs : Array Value} {t : TypeId}
theorem lt (h : Blk w b cs t) : b < w.heap.size := (Array.getElem?_eq_some_iff.1 h).1
theorem cell (h : Blk w b cs t) (o : Nat) {u : Value} (hu : cs[o]? = some u) : w.cell? ⟨b, o, none⟩ = some u := by
  unfold World.cell?; rw [h]; simpa using hu
theorem frozen (h : Blk w b cs t) (o : Nat) : w.frozen? ⟨b, o, none⟩ = false := by
  unfold World.frozen?; rw [h]; simp
theorem keep {X : Nat → Prop} (h : Blk w b cs t) (hk : Keep X w w') (hx : ¬ X b) : Blk w' b cs t := hk.obj h hx
theorem drew (h : Blk w b cs t) : Blk w.drew b cs t := h
theorem alloc (h : Blk w b cs t) (o : Obj) : Blk (w.alloc o) b cs t := by
  unfold Blk; rw [Below.heap_alloc _ _ _ h.lt]; exact h
theorem new (w : World) (cs : Array Value) (t : TypeId) : Blk (w.alloc (.cells cs t)) w.heap.size cs t := heap_alloc_new w _
theorem new' {w : World} {b : Nat} (hb : b = w.heap.size) (cs : Array Value) (t : TypeId) : Blk (w.alloc (.cells cs t)) b cs t := hb ▸ heap_alloc_new w _
theorem set (h : Blk w b cs t) (o : Nat) (u : Value) : Blk (w.setCell ⟨b, o, none⟩ u) b (cs.setIfInBounds o u) t := by
  unfold Blk World.setCell
  simp only [Array.getElem?_modify, if_true]
  rw [h]; simp
theorem setOther (h : Blk w b cs t) {p : Addr} (hp : p.block ≠ b) (u : Value) : Blk (w.setCell p u) b cs t := by
  unfold Blk; rw [Below.heap_setCell _ _ _ _ (by exact fun e => hp e.symm)]; exact h
end Blk

theorem Keep.setOb (w : World) (B o : Nat) (v : Value) : Keep (Ob B) w (w.setCell ⟨B, o, none⟩ v) :=
  Keep.setCell (X := Ob B) (p := ⟨B, o, none⟩) (Keep.refl _ _) (Or.inr rfl) v
theorem Keep.ob {w w' : World} {B : Nat} (h : Keep Nb w w') : Keep (Ob B) w w' := h.mono fun _ _ h => h.elim


theorem Keep.above {X : Nat → Prop} {a w w' : World} {B : Nat} (h : Keep X a w) (hb : Below B w w') (hB : a.heap.size ≤ B) : Keep X a w' :=
  h.trans (Keep.of_below hb) (fun b hb' h => by omega)

/-- A builder of its own, behind steps that turn blocks below it alone. -/
theorem IsB.keep {B b : Nat} {bs : List Value} {w w' : World} {X : Nat → Prop} (h : IsB B b bs w) (hk : Keep X w w') (hX : ∀ k, X k → k < B) : IsB B b bs w' := by
  have key : ∀ p, AtB B b p bs w → AtB B b p bs w' := fun p h => by
    obtain ⟨hB, v, hbk, hown, hne⟩ := h
    refine ⟨hB, v, hk.obj hbk (fun hx => by have := hX b hx; omega), ⟨hown.1, ?_⟩, hne⟩
    rcases hown.2 with h2 | ⟨g, cap, cur, fz, rfl, hb, hg, r⟩
    · exact .inl h2
    · exact .inr ⟨g, cap, cur, fz, rfl, hb, hk.obj hg (fun hx => by have := hX g hx; omega), r⟩
  rcases h with h | h
  · exact .inl (key _ h)
  · exact .inr (key _ h)

end Go.Proofs.YtilnccjdbdcklaaDoor
