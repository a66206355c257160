/- A region that draws its order: what is taken first, where the last phase waits for it through others. -/
import Derived.Test.YtkidjbfapldmbaaBase
namespace Go.Proofs.Ytkidjbfapldmbaa
set_option linter.unusedVariables false
set_option linter.unusedSimpArgs false
open Go.RowKit

section
variable {P : Program} {ops : Array Oper} {Q : Exit → Act → World → Prop} {md : Region.Mode} {S : World → Prop} {fin : List Nat}

def waitsOn (md : Region.Mode) (ops : Array Oper) (j i : Nat) : Bool := match ops[j]? with
  | some o => o.after.any fun e => Region.binds md e && e.on == i
  | none => false
theorem waitsOn_spec {j i : Nat} (h : waitsOn md ops j i = true) : ∃ o, ops[j]? = some o ∧ ∃ e ∈ o.after, Region.binds md e = true ∧ e.on = i := by
  unfold waitsOn at h
  cases ho : ops[j]? with
  | none => rw [ho] at h; cases h
  | some o =>
    rw [ho] at h
    obtain ⟨e, he, hb⟩ := Array.any_eq_true'.1 h
    simp only [Bool.and_eq_true, beq_iff_eq] at hb
    exact ⟨o, rfl, e, he, hb.1, hb.2⟩

/-- What waits for i, through others too. -/
def reach (md : Region.Mode) (ops : Array Oper) (i : Nat) : Nat → List Nat
  | 0 => []
  | n + 1 => if waitsOn md ops n i || (reach md ops i n).any (waitsOn md ops n ·) then n :: reach md ops i n else reach md ops i n
theorem reach_spec (i : Nat) : ∀ n, ∀ k ∈ reach md ops i n, ∃ o, ops[k]? = some o ∧ ∃ e ∈ o.after, Region.binds md e = true ∧ (e.on = i ∨ e.on ∈ reach md ops i n)
  | 0, k, hk => by simp [reach] at hk
  | n + 1, k, hk => by
    rw [reach] at hk ⊢
    split at hk
    · rename_i hw
      rw [if_pos hw]
      rcases List.mem_cons.1 hk with rfl | hk
      · simp only [Bool.or_eq_true, List.any_eq_true] at hw
        rcases hw with hw | ⟨x, hx, hw⟩
        · obtain ⟨o, ho, e, he, hb, hi⟩ := waitsOn_spec hw
          exact ⟨o, ho, e, he, hb, .inl hi⟩
        · obtain ⟨o, ho, e, he, hb, hi⟩ := waitsOn_spec hw
          exact ⟨o, ho, e, he, hb, .inr (List.mem_cons_of_mem _ (hi ▸ hx))⟩
      · obtain ⟨o, ho, e, he, hb, hi⟩ := reach_spec i n k hk
        exact ⟨o, ho, e, he, hb, hi.imp id (List.mem_cons_of_mem _)⟩
    · rename_i hw
      rw [if_neg hw]
      exact reach_spec i n k hk

theorem ready_not {i j : Nat} {K : List Nat} {L : Array Bool} (hK : ∀ k ∈ K, ∃ o, ops[k]? = some o ∧ ∃ e ∈ o.after, Region.binds md e = true ∧ (e.on = i ∨ e.on ∈ K)) (hu : ∀ k ∈ K, L.getD k true = false)
    (hj : j ∈ Region.ready md ops L) (hi : i ∈ Region.ready md ops L) : j ∉ K := fun hm => by
  obtain ⟨o, ho, e, he, hb, hx⟩ := hK j hm
  rcases hx with hx | hx
  · exact ready_waits hj ho hi e he hb hx
  · obtain ⟨_, o', ho', hall⟩ := mem_ready.1 hj
    rw [ho] at ho'
    cases ho'
    have h1 := hall e he hb
    have h0 := hu _ hx
    rcases Nat.lt_or_ge e.on L.size with hlt | hge
    · simp [hlt] at h0 h1; rw [h0] at h1; cases h1
    · simp [Array.getElem?_eq_none hge] at h0

theorem wpF_first3 {i : Nat} {o : Oper} {v : Value} (hi : ops[i]? = some o) (hsel : ∀ (j : Nat) (o : Oper) cs b, ops[j]? = some o → o.op ≠ .select cs b)
    (K : List Nat) (hK : ∀ k ∈ K, ∃ o, ops[k]? = some o ∧ ∃ e ∈ o.after, Region.binds md e = true ∧ (e.on = i ∨ e.on ∈ K)) (hfin : i ∉ fin ∧ ∀ j ∈ fin, j ∈ K)
    (hQ : ∀ c a w, Q (.panic c) (a.put o.dst v) w → Q (.panic c) a w) :
    ∀ (n : Nat) (L : Array Bool) (a : Act) (w : World), (∀ k ∈ K, L.getD k true = false) →
      (∀ j oj, ops[j]? = some oj → j ≠ i → L.getD j true = false → (∀ e ∈ oj.after, Region.binds md e = true → e.on ≠ i) → o.apart ops oj = true) →
      i ∈ Region.ready md ops L → YieldsIf P ops S o v a → S w →
      wpF P md ops Q S fin n (L.setIfInBounds i true) (a.put o.dst v) w → wpF P md ops Q S fin (n + 1) L a w := by
  intro n
  induction n with
  | zero =>
    intro L a w _ _ hr hy hS H
    refine ⟨fun h => absurd (h ▸ hr) (by simp), fun j hj => ?_⟩
    by_cases e : j = i
    · subst e; exact hy.wpOp hi hS ⟨fun _ => hS, H⟩
    · have := ready_mono hj e
      rw [H.1] at this
      simp at this
  | succ n ih =>
    intro L a w hu hfree hr hy hS H
    refine ⟨fun h => absurd (h ▸ hr) (by simp), fun j hj => ?_⟩
    by_cases e : j = i
    · subst e; exact hy.wpOp hi hS ⟨fun _ => hS, H⟩
    · have h1 := H.2 j (ready_mono hj e)
      obtain ⟨hun, oj, hoj, _⟩ := mem_ready.1 hj
      have hnot := ready_waits hj hoj hr
      have hjK := ready_not hK hu hj hr
      have hjf : j ∉ fin := fun hm => hjK (hfin.2 j hm)
      have h2 := wpOp_putIf hoj (hfree j oj hoj e hun hnot) (fun cs b => hsel i o cs b hi) (fun cs b => hsel j oj cs b hoj) hQ hy h1
      refine wpOp_mono (fun a' w' h3 => ⟨fun _ => h3.2.1 hjf, ih (L.setIfInBounds j true) a' w' ?_ ?_ (ready_mono hr (Ne.symm e)) h3.1 (h3.2.1 hjf) ?_⟩) h2
      · intro k hk
        rw [getD_set_ne true (show j ≠ k from fun hjk => by subst hjk; exact hjK hk)]
        exact hu k hk
      · intro k ok hk hki hku hno
        refine hfree k ok hk hki ?_ hno
        by_cases hjk : j = k
        · subst hjk; exact hun
        · rwa [getD_set_ne true hjk] at hku
      · rw [Array.setIfInBounds_comm _ _ e]
        exact h3.2.2

def takeOk3 (md : Region.Mode) (ops : Array Oper) (fin : List Nat) (L : Array Bool) (i : Nat) : Bool :=
  Region.noSelect ops && Region.free md ops L i && (Region.ready md ops L).contains i && !fin.contains i && fin.all (fun j => (reach md ops i ops.size).contains j) && (reach md ops i ops.size).all (fun k => !(L.getD k true))

theorem wpI_take3 {i : Nat} {o : Oper} {v : Value} {n : Nat} {L : Array Bool} {a : Act} {w : World} (hi : ops[i]? = some o) (hc : takeOk3 md ops fin L i = true)
    (hQ : ∀ c a w, Q (.panic c) (a.put o.dst v) w → Q (.panic c) a w) (hS : S w) (hy : YieldsIf P ops S o v a)
    (h : wpI P md ops Q S fin (i + 1) n (L.setIfInBounds i true) (a.put o.dst v) w) : wpI P md ops Q S fin i (n + 1) L a w := by
  unfold takeOk3 at hc
  simp only [Bool.and_eq_true, Bool.not_eq_true', List.all_eq_true] at hc
  obtain ⟨⟨⟨⟨⟨c1, c2⟩, c3⟩, c4⟩, c5⟩, c6⟩ := hc
  exact wpF_first3 hi (Region.noSelect_spec c1) (reach md ops i ops.size) (reach_spec i _) ⟨by simpa using c4, fun j hj => by simpa using c5 j hj⟩ hQ n L a w (fun k hk => by simpa using c6 k hk) (Region.free_spec hi c2) (by simpa using c3) hy hS h
theorem wpI_take3' {i : Nat} {o : Oper} {v : Value} {n : Nat} {L : Array Bool} {a : Act} {w : World} (hi : ops[i]? = some o) (hc : takeOk3 md ops fin L i = true)
    (hQ : ∀ c a w, Q (.panic c) (a.put o.dst v) w → Q (.panic c) a w) (hS : S w) (hw : Region.wanted o (yielded ops a.tmps) = true) (hv : ∀ w, S w → (execOp a.eval o).run P w = .ok (.value v) w)
    (h : wpI P md ops Q S fin (i + 1) n (L.setIfInBounds i true) (a.put o.dst v) w) : wpI P md ops Q S fin i (n + 1) L a w :=
  wpI_take3 hi hc hQ hS (.inl ⟨hw, hv⟩) h
theorem wpI_skip3' {i : Nat} {o : Oper} {n : Nat} {L : Array Bool} {a : Act} {w : World} (hi : ops[i]? = some o) (hc : takeOk3 md ops fin L i = true)
    (hQ : ∀ c a w, Q (.panic c) (a.put o.dst undef) w → Q (.panic c) a w) (hS : S w) (hw : Region.wanted o (yielded ops a.tmps) = false)
    (h : wpI P md ops Q S fin (i + 1) n (L.setIfInBounds i true) (a.put o.dst undef) w) : wpI P md ops Q S fin i (n + 1) L a w :=
  wpI_take3 hi hc hQ hS (.inr ⟨hw, rfl⟩) h
theorem wpF_row3 (i : Nat) {o : Oper} {n : Nat} {L : Array Bool} {a : Act} {w : World} (hi : ops[i]? = some o) (hc : takeOk3 md ops fin L i = true)
    (hQ : ∀ c a v w, Q (.panic c) (a.put o.dst v) w → Q (.panic c) a w) (hS : S w) (hw : Region.wanted o (yielded ops a.tmps) = true)
    (ty : TypeId) (x : Operand) (ho : o.op = .load ty x) (g : Nat) (hx : a.eval x = .pointer (some ⟨g, 0, none⟩)) (t : TypeId) (cs : Array Value) (fr : Nat × Nat) (d : TypeDesc)
    (hg : ∀ w, S w → w.heap[g]? = some (.cells cs t fr)) (hu : P.underlying ty = some d) (hd : (match d with | .struct _ | .array _ _ => true | _ => false) = true) (hz : (P.info? ty).map (·.size) = some cs.size)
    (h : wpF P md ops Q S fin n (L.setIfInBounds i true) (a.put o.dst (.agg cs)) w) : wpF P md ops Q S fin (n + 1) L a w :=
  wpI_till (i := i) (wpI_take3' hi hc (fun c a w h => hQ c a _ w h) hS hw (fun w hw' => by
    unfold execOp
    simp only [ho, hx, Instr.loadAt, Instr.sureAddr, Sem.run_bind, Sem.run_pure, Result.andThen_ok, run_loadVar_row w g t ty cs fr d (hg w hw') hu hd hz]) h)
end
theorem InX.bk {X : Nat → Prop} {W w : World} {b : Nat} {cs : Array Value} {t : TypeId} (h : InX X W w) (hb : Blk W b cs t) (hx : ¬ X b) : Blk w b cs t := hb.keep h.keep hx

end Go.Proofs.Ytkidjbfapldmbaa
