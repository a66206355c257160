/- The finder of the program: what lies in it; try, come. -/
import Derived.Test.YtkidjbfapldmbaaMf
import Derived.Test.YtkidjbfapldmbaaHeld
import Derived.Deep.MidRow
namespace Go.Proofs.Ytkidjbfapldmbaa
set_option linter.unusedVariables false
set_option linter.unusedSimpArgs false
open Go.RowKit P8

def grpV : Option (Nat × Nat) → Value
  | none => .complex .f64 0 0
  | some (a, b) => .complex .f64 (F a) (F b)
theorem grpV_one (o : Option (Nat × Nat)) : (grpV o).oneCell' = true := by cases o <;> rfl
@[go_sem] theorem run_store_complex (P : Program) (w : World) (a : Addr) (k : FloatKind) (x y : Nat) (m : Mode) : (store a (.complex k x y) m).run P w = stored P w a (.complex k x y) m := run_store P w a _ m rfl
@[go_sem] theorem run_store_grp (P : Program) (w : World) (a : Addr) (o : Option (Nat × Nat)) (m : Mode) : (store a (grpV o) m).run P w = stored P w a (grpV o) m := run_store P w a _ m (grpV_one o)
def hasV (o : Option (Nat × Nat)) : Value := .bool o.isSome
def bestC (s : St) : Caps := match s.best with
  | none => fun _ => none
  | some (_, c) => c
/-- The cells of a finder. -/
def fRow (T : ByteArray) (e : Env) (s : St) (c : Caps) : Array Value :=
  #[.string T, .bool e.bound, .int .i64 (s.tries : Int), .bool s.over, .int .i64 (e.start : Int), .bool s.best.isSome, grpV (bestC s 0), grpV (bestC s 0), grpV (bestC s 1), grpV (bestC s 2), grpV (bestC s 3), grpV (bestC s 4), grpV (bestC s 5), grpV (bestC s 6), grpV (bestC s 7), grpV (bestC s 8), grpV (bestC s 9), hasV (bestC s 0), hasV (bestC s 1), hasV (bestC s 2), hasV (bestC s 3), hasV (bestC s 4), hasV (bestC s 5), hasV (bestC s 6), hasV (bestC s 7), hasV (bestC s 8), hasV (bestC s 9), .int .i64 0, .complex .f64 0 0, grpV (c 0), grpV (c 1), grpV (c 2), grpV (c 3), grpV (c 4), grpV (c 5), grpV (c 6), grpV (c 7), grpV (c 8), grpV (c 9), hasV (c 0), hasV (c 1), hasV (c 2), hasV (c 3), hasV (c 4), hasV (c 5), hasV (c 6), hasV (c 7), hasV (c 8), hasV (c 9), .int .i64 0]

/-! Blocks, by rows in their midst -/
theorem Blk.range {w : World} {b : Nat} {cs : Array Value} {t : TypeId} (h : Blk w b cs t) (o n : Nat) : w.rangeAt b o ((cs.toList.drop o).take n) := fun j v hv => h.cell (o + j) (by
  rw [List.getElem?_take] at hv
  split at hv
  · rw [List.getElem?_drop] at hv
    simpa using hv
  · cases hv)
theorem Blk.there {w : World} {b : Nat} {cs : Array Value} {t : TypeId} (h : Blk w b cs t) (o n : Nat) (hn : o + n ≤ cs.size) : w.there b o n := fun j hj => by
  have h1 := h.cell (o + j) (u := cs[o + j]) (Array.getElem?_eq_getElem (by omega))
  exact ⟨by rw [h1]; rfl, h.frozen _⟩
def setA : Array Value → Nat → List Value → Array Value
  | cs, _, [] => cs
  | cs, o, v :: r => setA (cs.setIfInBounds o v) (o + 1) r
theorem Blk.setCells {b : Nat} {t : TypeId} : ∀ (vs : List Value) (o : Nat) (w : World) (cs : Array Value), Blk w b cs t → Blk (w.setCells b o vs) b (setA cs o vs) t
  | [], _, _, _, h => h
  | v :: r, o, w, cs, h => by
    rw [World.setCells, setA]
    exact Blk.setCells r (o + 1) _ _ (h.set o v)
theorem Keep.setCells {X : Nat → Prop} {a : World} {g : Nat} (hp : a.heap.size ≤ g ∨ X g) : ∀ (vs : List Value) (o : Nat) (w : World), Keep X a w → Keep X a (w.setCells g o vs)
  | [], _, _, h => h
  | v :: r, o, w, h => by
    rw [World.setCells]
    exact Keep.setCells hp r (o + 1) _ (Keep.setCell h (p := ⟨g, o, none⟩) hp v)

/-- What is sure of a finder. -/
structure StOk (e : Env) (s : St) : Prop where
  tries : s.tries ≤ 3000
  best : ∀ q c, s.best = some (q, c) → q ≤ e.L.length ∧ c 0 = some (e.start, q)
abbrev FAt (w : World) (p : Nat) (T : ByteArray) (e : Env) (s : St) (c : Caps) : Prop := Blk w p (fRow T e s c) 103

set_option maxRecDepth 100000 in
theorem try_any (p : Nat) (T : ByteArray) (e : Env) (s : St) (c : Caps) (w : World) (ho : s.over = false) (ht : s.tries ≤ 3000) (hb : FAt w p T e s c) :
    Calls Try.prog 101 #[.pointer (some ⟨p, 0, none⟩)] w fun x w' => x = .returned (.bool (tryS s).2) ∧ FAt w' p T e (tryS s).1 c ∧ Keep (Ob p) w w' := by
  have c2 := hb.cell 2 (u := .int .i64 (s.tries : Int)) rfl
  have c3 := hb.cell 3 (u := .bool s.over) rfl
  have f2 := hb.frozen 2
  have f3 := hb.frozen 3
  have hl := hb.lt
  rw [ho] at c3
  rcases tryS_cases s with ⟨h1, h2⟩ | ⟨h1, h2⟩
  · rw [h2]
    have b1 := Lib.hid (hb.set 3 (.bool true))
    have k1 := Lib.hid (Keep.setOb w p 3 (.bool true))
    rw [h1] at c2
    clear h1 h2 hb
    go_enter Try.func101, Try.ntmps101
    go_wp2_with fail
    go_ret
    exact ⟨rfl, b1.out, k1.out⟩
  · rw [h2]
    have hx : wrap64 ((s.tries : Int) + 1) = (s.tries : Int) + 1 := by unfold wrap64; omega
    have m1 : ((s.tries : Int) == 3000) = false := beq_eq_false_iff_ne.2 (by omega)
    have m2 : ¬ ((s.tries : Int) = 3000) := by omega
    have b1 := Lib.hid (show FAt (w.setCell ⟨p, 2, none⟩ (.int .i64 ((s.tries : Int) + 1))) p T e { s with tries := s.tries + 1 } c from hb.set 2 (.int .i64 ((s.tries : Int) + 1)))
    have k1 := Lib.hid (Keep.setOb w p 2 (.int .i64 ((s.tries : Int) + 1)))
    clear h1 h2 hb
    go_enter Try.func101, Try.ntmps101
    go_wp2_with fail
    go_ret
    exact ⟨rfl, b1.out, k1.out⟩

end Go.Proofs.Ytkidjbfapldmbaa
