/- A region that draws its order and whose operations read what is kept, or call what makes memory alone: one walk in the order of the text serves every order. -/
import Derived.Test.YtilnccjdbdcklaaDoorKeep
import Derived.Deep.QuietTactic
import Derived.BigQuiet
namespace Go.Proofs.YtilnccjdbdcklaaDoor
set_option linter.unusedVariables false
set_option linter.unusedSimpArgs false
open Go.RowKit

/-- A world that is W, and more. -/
structure Ext (W : World) where
  val : World
  property : Keep Nb W val

instance (W : World) : Nonempty (Ext W) := ⟨⟨W, Keep.refl _ _⟩⟩

theorem lt_step {a b : Nat} (h : a < b) (k : Nat) : a < b + k := Nat.lt_add_right k h

theorem Ext.cell {W : World} (E : Ext W) (b o : Nat) (h : b < W.heap.size) : (E.val).cell? ⟨b, o, none⟩ = W.cell? ⟨b, o, none⟩ :=
  World.cell?_of_block (w := W) (E.property.block b h id)
theorem Ext.frozen {W : World} (E : Ext W) (b o : Nat) (h : b < W.heap.size) : (E.val).frozen? ⟨b, o, none⟩ = W.frozen? ⟨b, o, none⟩ :=
  World.frozen?_of_block (w := W) (E.property.block b h id)

attribute [go_sem] Ext.cell Ext.frozen

theorem wp_region_x {P : Program} {id : Nat} {Q : Exit → Act → World → Prop} {a : Act} {w : World} {l : List Oper} (hm : P.follows .mixedOrders = true) (hB : Region.lexB .any l.toArray = true)
    (h : wpQuiet P l.toArray (fun w' => ∃ E : Ext w, w' = E.val) (fun a' => ∀ w', (∃ E : Ext w, w' = E.val) → Q .normal a' w') l a) : (Code.region id l.toArray true).wp P Q a w :=
  wp_region_quiet (C := fun w' => ∃ E : Ext w, w' = E.val) hm hB ⟨⟨w.drew, (Keep.refl _ _).drew⟩, rfl⟩ (by simpa using h)

/-- A callee's contract, met in a world of the class. -/
theorem Calls.ext {P : Program} {f : FuncId} {args : Array Value} {W : World} (E : Ext W) {v : Value}
    (h : Calls P f args E.val fun e w' => e = .returned v ∧ Keep Nb E.val w') : Calls P f args E.val fun e w'' => e = .returned v ∧ ∃ E' : Ext W, w'' = E'.val :=
  h.mono fun _ w' ⟨he, hk⟩ => ⟨he, ⟨w', E.property.trans hk fun _ _ h => h⟩, rfl⟩

end Go.Proofs.YtilnccjdbdcklaaDoor
