/- A region that draws its order and writes: what only reads is taken first, in every world of a class that all but the last phase's operations keep. -/
import Derived.Test.YtilnccjdbdcklaaDoorQuiet
import Derived.OrdersHeld
import Derived.Laws.Tables
import Derived.Laws.Rows
import Derived.Laws.ResultCell
import Derived.KernelRfl
namespace Go.Proofs.YtilnccjdbdcklaaDoor
set_option linter.unusedVariables false
set_option linter.unusedSimpArgs false
open Go.RowKit

section
variable {P : Program} {ops : Array Oper} {Q : Exit → Act → World → Prop} {md : Region.Mode} {S : World → Prop} {fin : List Nat}

/-- Whatever order is picked from here on; behind each operation but those of the last phase ('fin') S holds. -/
def wpF (P : Program) (md : Region.Mode) (ops : Array Oper) (Q : Exit → Act → World → Prop) (S : World → Prop) (fin : List Nat) : Nat → Array Bool → Act → World → Prop
  | 0, L, a, w => Region.ready md ops L = [] ∧ Q .normal a w
  | n + 1, L, a, w => (Region.ready md ops L = [] → Q .normal a w) ∧
      ∀ i ∈ Region.ready md ops L, wpOp P ops Q i (fun a' w' => (i ∉ fin → S w') ∧ wpF P md ops Q S fin n (L.setIfInBounds i true) a' w') a w

theorem wpAny_of_wpF : ∀ (n : Nat) (L : Array Bool) (a : Act) (w : World), wpF P md ops Q S fin n L a w → wpAny P md ops Q n L a w
  | 0, _, _, _, h => h
  | n + 1, _, _, _, h => ⟨h.1, fun i hi => wpOp_mono (fun a' w' h' => wpAny_of_wpF n _ a' w' h'.2) (h.2 i hi)⟩

/-- Each operation of the last phase waits for number i. -/
def finOk (md : Region.Mode) (ops : Array Oper) (fin : List Nat) (i : Nat) : Bool :=
  !fin.contains i && fin.all fun j => match ops[j]? with
    | some o => o.after.any fun e => Region.binds md e && e.on == i
    | none => true

theorem finOk_spec {i : Nat} (h : finOk md ops fin i = true) : i ∉ fin ∧ ∀ j ∈ fin, ∀ o, ops[j]? = some o → ∃ e ∈ o.after, Region.binds md e = true ∧ e.on = i := by
  unfold finOk at h
  simp only [Bool.and_eq_true, Bool.not_eq_true', List.all_eq_true] at h
  refine ⟨by simpa using h.1, fun j hj o ho => ?_⟩
  have h2 := h.2 j hj
  rw [ho] at h2
  obtain ⟨e, he, hb⟩ := Array.any_eq_true'.1 h2
  simp only [Bool.and_eq_true, beq_iff_eq] at hb
  exact ⟨e, he, hb.1, hb.2⟩

theorem ready_waits {i j : Nat} {L : Array Bool} {o : Oper} (hj : j ∈ Region.ready md ops L) (ho : ops[j]? = some o) (hi : i ∈ Region.ready md ops L) :
    ∀ e ∈ o.after, Region.binds md e = true → e.on ≠ i := fun e he hb heq => by
  obtain ⟨_, o', ho', hall⟩ := mem_ready.1 hj
  rw [ho] at ho'
  cases ho'
  have h1 := hall e he hb
  have h0 := (mem_ready.1 hi).1
  rw [heq] at h1
  rcases Nat.lt_or_ge i L.size with hlt | hge
  · simp [hlt] at h0 h1; rw [h0] at h1; cases h1
  · simp [Array.getElem?_eq_none hge] at h1

theorem wpF_first {i : Nat} {o : Oper} {v : Value} (hi : ops[i]? = some o) (hsel : ∀ (j : Nat) (o : Oper) cs b, ops[j]? = some o → o.op ≠ .select cs b)
    (hfin : i ∉ fin ∧ ∀ j ∈ fin, ∀ o, ops[j]? = some o → ∃ e ∈ o.after, Region.binds md e = true ∧ e.on = i)
    (hQ : ∀ c a w, Q (.panic c) (a.put o.dst v) w → Q (.panic c) a w) :
    ∀ (n : Nat) (L : Array Bool) (a : Act) (w : World),
      (∀ j oj, ops[j]? = some oj → j ≠ i → L.getD j true = false → (∀ e ∈ oj.after, Region.binds md e = true → e.on ≠ i) → o.apart ops oj = true) →
      i ∈ Region.ready md ops L → YieldsIf P ops S o v a → S w →
      wpF P md ops Q S fin n (L.setIfInBounds i true) (a.put o.dst v) w → wpF P md ops Q S fin (n + 1) L a w := by
  intro n
  induction n with
  | zero =>
    intro L a w _ hr hy hS H
    refine ⟨fun h => absurd (h ▸ hr) (by simp), fun j hj => ?_⟩
    by_cases e : j = i
    · subst e; exact hy.wpOp hi hS ⟨fun _ => hS, H⟩
    · have := ready_mono hj e
      rw [H.1] at this
      simp at this
  | succ n ih =>
    intro L a w hfree hr hy hS H
    refine ⟨fun h => absurd (h ▸ hr) (by simp), fun j hj => ?_⟩
    by_cases e : j = i
    · subst e; exact hy.wpOp hi hS ⟨fun _ => hS, H⟩
    · have h1 := H.2 j (ready_mono hj e)
      obtain ⟨hun, oj, hoj, _⟩ := mem_ready.1 hj
      have hnot := ready_waits hj hoj hr
      have hjf : j ∉ fin := fun hm => by
        obtain ⟨x, hx, hb, hxe⟩ := hfin.2 j hm oj hoj
        exact hnot x hx hb hxe
      have h2 := wpOp_putIf hoj (hfree j oj hoj e hun hnot) (fun cs b => hsel i o cs b hi) (fun cs b => hsel j oj cs b hoj) hQ hy h1
      refine wpOp_mono (fun a' w' h3 => ⟨fun _ => h3.2.1 hjf, ih (L.setIfInBounds j true) a' w' ?_ (ready_mono hr (Ne.symm e)) h3.1 (h3.2.1 hjf) ?_⟩) h2
      · intro k ok hk hki hku hno
        refine hfree k ok hk hki ?_ hno
        by_cases hjk : j = k
        · subst hjk; exact hun
        · rwa [getD_set_ne true hjk] at hku
      · rw [Array.setIfInBounds_comm _ _ e]
        exact h3.2.2

theorem wpF_take (i : Nat) {o : Oper} {v : Value} {n : Nat} {L : Array Bool} {a : Act} {w : World} (hi : ops[i]? = some o)
    (hs : Region.noSelect ops = true) (hf : Region.free md ops L i = true) (hr : (Region.ready md ops L).contains i = true) (hn : finOk md ops fin i = true)
    (hQ : ∀ c a w, Q (.panic c) (a.put o.dst v) w → Q (.panic c) a w) (hS : S w) (hw : Region.wanted o (yielded ops a.tmps) = true) (hv : ∀ w, S w → (execOp a.eval o).run P w = .ok (.value v) w)
    (h : wpF P md ops Q S fin n (L.setIfInBounds i true) (a.put o.dst v) w) : wpF P md ops Q S fin (n + 1) L a w :=
  wpF_first hi (Region.noSelect_spec hs) (finOk_spec hn) hQ n L a w (Region.free_spec hi hf) (by simpa using hr) (.inl ⟨hw, hv⟩) hS h

theorem wpF_skip (i : Nat) {o : Oper} {n : Nat} {L : Array Bool} {a : Act} {w : World} (hi : ops[i]? = some o)
    (hs : Region.noSelect ops = true) (hf : Region.free md ops L i = true) (hr : (Region.ready md ops L).contains i = true) (hn : finOk md ops fin i = true)
    (hQ : ∀ c a w, Q (.panic c) (a.put o.dst undef) w → Q (.panic c) a w) (hS : S w) (hw : Region.wanted o (yielded ops a.tmps) = false)
    (h : wpF P md ops Q S fin n (L.setIfInBounds i true) (a.put o.dst undef) w) : wpF P md ops Q S fin (n + 1) L a w :=
  wpF_first hi (Region.noSelect_spec hs) (finOk_spec hn) hQ n L a w (Region.free_spec hi hf) (by simpa using hr) (.inr ⟨hw, rfl⟩) hS h

theorem wpF_one (i : Nat) {o : Oper} {n : Nat} {L : Array Bool} {a : Act} {w : World} (hi : ops[i]? = some o) (hr : Region.ready md ops L = [i])
    (hw : Region.wanted o (yielded ops a.tmps) = true)
    (h : ∀ K : Act → World → Prop, (∀ a' w', (i ∉ fin → S w') → ((i ∉ fin → S w') → wpF P md ops Q S fin n (L.setIfInBounds i true) a' w') → K a' w') → o.wp P a w K Q) : wpF P md ops Q S fin (n + 1) L a w := by
  refine ⟨fun h0 => absurd (h0.symm.trans hr) (by simp), ?_⟩
  rw [hr]
  intro j hj
  obtain rfl : j = i := by simpa using hj
  unfold wpOp
  rw [hi]
  simp only [hw, if_true]
  exact .inl (h _ fun a' w' h1 h2 => ⟨h1, h2 h1⟩)

/-- Several may come up: each on a way of its own. -/
theorem wpF_many {n : Nat} {L : Array Bool} {a : Act} {w : World} (rs : List Nat) (hr : Region.ready md ops L = rs) (hne : rs ≠ [])
    (h : ∀ i, i ∈ rs → wpOp P ops Q i (fun a' w' => (i ∉ fin → S w') ∧ wpF P md ops Q S fin n (L.setIfInBounds i true) a' w') a w) : wpF P md ops Q S fin (n + 1) L a w :=
  ⟨fun h0 => absurd (hr.symm.trans h0) hne, by rw [hr]; exact h⟩
theorem many_cons {i : Nat} {rs : List Nat} {p : Nat → Prop} (h1 : p i) (h2 : ∀ j, j ∈ rs → p j) : ∀ j, j ∈ i :: rs → p j := fun j hj => by
  rcases List.mem_cons.1 hj with rfl | hj
  · exact h1
  · exact h2 j hj
theorem many_nil {p : Nat → Prop} : ∀ j, j ∈ ([] : List Nat) → p j := fun j hj => by simp at hj
theorem wpF_way (i : Nat) {o : Oper} {n : Nat} {L : Array Bool} {a : Act} {w : World} (hi : ops[i]? = some o)
    (hw : Region.wanted o (yielded ops a.tmps) = true)
    (h : ∀ K : Act → World → Prop, (∀ a' w', (i ∉ fin → S w') → ((i ∉ fin → S w') → wpF P md ops Q S fin n (L.setIfInBounds i true) a' w') → K a' w') → o.wp P a w K Q) :
    wpOp P ops Q i (fun a' w' => (i ∉ fin → S w') ∧ wpF P md ops Q S fin n (L.setIfInBounds i true) a' w') a w := by
  unfold wpOp
  rw [hi]
  simp only [hw, if_true]
  exact .inl (h _ fun a' w' h1 h2 => ⟨h1, h2 h1⟩)

theorem wpF_done {L : Array Bool} {a : Act} {w : World} (hr : Region.ready md ops L = []) (h : Q .normal a w) : ∀ n, wpF P md ops Q S fin n L a w
  | 0 => ⟨hr, h⟩
  | _ + 1 => ⟨fun _ => h, by rw [hr]; simp⟩

theorem wp_region_f (fin : List Nat) (S : World → Prop) {id : Nat} {l : List Oper} {a : Act} {w : World} (hm : P.follows .mixedOrders = true) (hS : S w.drew)
    (h : S w.drew → wpF P .any l.toArray Q S fin l.toArray.size (Array.replicate l.toArray.size false) a w.drew) : (Code.region id l.toArray true).wp P Q a w :=
  wp_region_any hm (wpAny_of_wpF _ _ _ _ (h hS))
end

/-- A world in which all but the blocks of X is as in W. -/
structure ExtX (X : Nat → Prop) (W : World) where
  val : World
  property : Keep X W val

instance (X : Nat → Prop) (W : World) : Nonempty (ExtX X W) := ⟨⟨W, Keep.refl _ _⟩⟩

theorem ExtX.cell {X : Nat → Prop} {W : World} (E : ExtX X W) (b o : Nat) (h : b < W.heap.size) (hx : ¬ X b) : (E.val).cell? ⟨b, o, none⟩ = W.cell? ⟨b, o, none⟩ :=
  World.cell?_of_block (w := W) (E.property.block b h hx)

attribute [go_sem] ExtX.cell

/-- The class: what is W but for X. -/
def InX (X : Nat → Prop) (W w : World) : Prop := ∃ E : ExtX X W, w = E.val
theorem InX.mk {X : Nat → Prop} {W w : World} (h : Keep X W w) : InX X W w := ⟨⟨w, h⟩, rfl⟩
theorem InX.keep {X : Nat → Prop} {W w : World} (h : InX X W w) : Keep X W w := by obtain ⟨E, rfl⟩ := h; exact E.property

theorem ownsRow_keep {X : Nat → Prop} {w w' : World} {base : Nat} {e : TypeId} {size : Nat} {v : Value} {n : Nat} {xs : List Value} (h : w.ownsRow base e size v n xs) (hk : Keep X w w') (hx : ∀ g, v.ownBlock = some g → ¬ X g) :
    w'.ownsRow base e size v n xs := by
  refine ⟨h.1, ?_⟩
  rcases h.2 with h2 | ⟨g, cap, cur, rfl, hb, hg, r⟩
  · exact .inl h2
  · exact .inr ⟨g, cap, cur, rfl, hb, hk.obj hg (hx g rfl), r⟩


theorem Keep.relit {A : World} {B : Nat} (hB : B = A.heap.size) (o1 o2 : Obj) : Keep (Ob B) (A.alloc o1) (A.alloc o2) :=
  ⟨rfl, rfl, rfl, by simp, fun k hk hx => by
    have h1 : k ≠ A.heap.size := fun e => hx (by rw [Ob, hB]; exact e)
    have h2 : (A.alloc o1).heap.size = A.heap.size + 1 := by simp
    rw [Below.heap_alloc _ _ _ (by omega), Below.heap_alloc _ _ _ (by omega)]⟩

theorem results_row_tmp {P : Program} {fn : Func} {p u : Tmp} {ty : TypeId} (h : fn.results = #[.cell p ty, .tmp u]) (tmps : Array Value) (w : World) (g : Nat) (t : TypeId) (cs : Array Value) (fr : Nat × Nat) (d : TypeDesc)
    (hp : tmps.getD p undef = .pointer (some ⟨g, 0, none⟩)) (hg : w.heap[g]? = some (.cells cs t fr))
    (hu : P.underlying ty = some d) (hd : (match d with | .struct _ | .array _ _ => true | _ => false) = true) (hi : (P.info? ty).map (·.size) = some cs.size) :
    (results fn tmps).run P w = .ok (.tuple #[.agg cs, tmps.getD u undef]) w := by
  rw [results_cell_tmp h, hp]
  simp [asAddr, run_loadVar_row w g t ty cs fr d hg hu hd hi]

theorem Keep.setRow {X : Nat → Prop} {a w : World} (h : Keep X a w) {g : Nat} (hp : a.heap.size ≤ g ∨ X g) (cs : Array Value) : Keep X a (w.setRow g cs) :=
  h.trans (Y := fun k => k = g) ⟨rfl, rfl, rfl, by simp [World.setRow], fun k _ hk => setRow_other w g k cs (fun e => hk e)⟩
    (fun b hb e => by subst e; rcases hp with hp | hp; · omega
                      · exact hp)

end Go.Proofs.YtilnccjdbdcklaaDoor
