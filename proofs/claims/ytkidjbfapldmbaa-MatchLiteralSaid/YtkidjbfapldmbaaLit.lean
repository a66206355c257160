/- A row of bytes: it is found where it stands first. -/
import Derived.Test.YtkidjbfapldmbaaFndS
namespace Go.Proofs.Ytkidjbfapldmbaa
set_option linter.unusedVariables false
set_option linter.unusedSimpArgs false
open P8

def litN (c : UInt8) : Nd := .mk ⟨1, (c.toNat : Int), 0, 0, 0, 0, 0, 0, 0⟩ []
def seqN (bs : List UInt8) : Nd := .mk ⟨8, 0, 0, 0, 0, 0, 0, 0, 0⟩ (bs.map litN)
/-- The bytes stand at a place. -/
def AtP (L : List UInt8) (p : Nat) (bs : List UInt8) : Prop := (L.drop p).take bs.length = bs
theorem AtP_cons {L : List UInt8} {p : Nat} {x : UInt8} {bs : List UInt8} : AtP L p (x :: bs) ↔ L[p]? = some x ∧ AtP L (p + 1) bs := by
  unfold AtP
  cases h : L[p]? with
  | none =>
    have := List.getElem?_eq_none_iff.1 h
    rw [List.drop_eq_nil_of_le this]
    simp
  | some y =>
    obtain ⟨h1, h2⟩ := List.getElem?_eq_some_iff.1 h
    rw [List.drop_eq_getElem_cons h1, List.length_cons, List.take_succ_cons, h2]
    simp
theorem fits_lit (e : Env) (x : UInt8) (p : Nat) (c : Caps) : fitsF e (litN x).h p c = if e.L[p]? = some x then some 1 else none := by
  rw [fitsF, if_pos (show (litN x).h.k = 1 from rfl)]
  show (match e.L[p]? with | some y => if (y.toNat : Int) = (x.toNat : Int) then some 1 else none | none => none) = _
  cases h : e.L[p]? with
  | none => simp
  | some y =>
    simp only [Option.some.injEq]
    by_cases hy : y = x
    · subst hy; simp
    · rw [if_neg hy, if_neg (fun h => hy (UInt8.toNat_inj.1 (by omega)))]
theorem lit_run (e : Env) (bs : List UInt8) : ∀ (k p : Nat) (c : Caps) (s s' : St), thr k e (bs.map (fun x => .node (litN x))) p c s = some s' → s.best = none →
    s'.over = true ∨ (s'.over = s.over ∧ ((AtP e.L p bs ∧ s'.best = some (p + bs.length, put c 0 e.start (p + bs.length))) ∨ (¬ AtP e.L p bs ∧ s'.best = none))) := by
  induction bs with
  | nil =>
    intro k p c s s' h hb
    cases k with
    | zero => rw [thr.eq_def] at h; cases h
    | succ k =>
      by_cases ho : s.over = true
      · rw [thr_over _ _ _ _ _ ho] at h; cases h; exact .inl ho
      · rw [List.map_nil, thr_nil _ _ _ _ ho] at h; cases h
        refine .inr ⟨(show (comeF e p c s).over = s.over by unfold comeF; rw [hb]), .inl ⟨by simp [AtP], ?_⟩⟩
        unfold comeF
        rw [hb]
        rfl
  | cons x bs ih =>
    intro k p c s s' h hb
    cases k with
    | zero => rw [thr.eq_def] at h; cases h
    | succ k =>
      by_cases ho : s.over = true
      · rw [thr_over _ _ _ _ _ ho] at h; cases h; exact .inl ho
      · rw [List.map_cons, thr_leaf _ _ _ _ _ _ ho (by unfold leafK litN; simp [Nd.h])] at h
        unfold leafF at h
        rw [fits_lit] at h
        rcases tryS_cases s with ⟨_, e1⟩ | ⟨_, e1⟩
        · rw [e1] at h; cases h; exact .inl rfl
        · rw [e1] at h
          simp only [] at h
          by_cases hx : e.L[p]? = some x
          · rw [if_pos hx] at h
            simp only [] at h
            rcases ih k (p + 1) c _ s' h hb with h1 | ⟨h1, h2⟩
            · exact .inl h1
            · refine .inr ⟨h1, ?_⟩
              rcases h2 with ⟨h2, h3⟩ | ⟨h2, h3⟩
              · exact .inl ⟨AtP_cons.2 ⟨hx, h2⟩, by rw [h3, List.length_cons, show p + 1 + bs.length = p + (bs.length + 1) by omega]⟩
              · exact .inr ⟨fun h => h2 (AtP_cons.1 h).2, h3⟩
          · rw [if_neg hx] at h
            cases h
            exact .inr ⟨rfl, .inr ⟨fun h => hx (AtP_cons.1 h).1, hb⟩⟩
theorem lit_find (L : List UInt8) (b : Bool) (bs : List UInt8) (k : Nat) : ∀ (m a : Nat) (s x : St), findS k L b (seqN bs) m a s = some x → s.best = none → s.over = false → a + m = L.length + 1 →
    x.over = true ∨ (x.over = false ∧ ((∃ i, a ≤ i ∧ x.best = some (i + bs.length, put noC 0 i (i + bs.length)) ∧ AtP L i bs ∧ ∀ j, a ≤ j → j < i → ¬ AtP L j bs) ∨ (x.best = none ∧ ∀ j, a ≤ j → j ≤ L.length → ¬ AtP L j bs)))
  | 0, a, s, x, h, hb, ho, hm => by
    rw [findS] at h; cases h
    exact .inr ⟨ho, .inr ⟨hb, fun j h1 h2 => by omega⟩⟩
  | m + 1, a, s, x, h, hb, ho, hm => by
    rw [findS, if_neg (by rw [hb]; simp), Option.bind_eq_some_iff] at h
    obtain ⟨s1, g1, g2⟩ := h
    have r : s1.over = true ∨ (s1.over = s.over ∧ ((AtP L a bs ∧ s1.best = some (a + bs.length, put noC 0 a (a + bs.length))) ∨ (¬ AtP L a bs ∧ s1.best = none))) := by
      cases k with
      | zero => rw [thr.eq_def] at g1; cases g1
      | succ k =>
        rw [thr_8 _ _ _ _ _ _ (by rw [ho]; simp) rfl] at g1
        have e2 : (seqN bs).l.map Tk.node ++ [] = bs.map (fun x => Tk.node (litN x)) := by
          simp [seqN, Nd.l, List.map_map, Function.comp_def]
        rw [e2] at g1
        exact lit_run ⟨L, b, a⟩ bs k a noC s s1 g1 hb
    rcases r with r | ⟨r0, r⟩
    · rw [if_pos r] at g2; cases g2; exact .inl r
    · rw [ho] at r0
      rw [if_neg (by rw [r0]; simp)] at g2
      rcases r with ⟨r1, r2⟩ | ⟨r1, r2⟩
      · have hx : x = s1 := by
          cases m with
          | zero => rw [findS] at g2; cases g2; rfl
          | succ m => rw [findS, if_pos (by rw [r2]; rfl)] at g2; cases g2; rfl
        subst hx
        exact .inr ⟨r0, .inl ⟨a, Nat.le_refl _, r2, r1, fun j h1 h2 => by omega⟩⟩
      · rcases lit_find L b bs k m (a + 1) s1 x g2 r2 r0 (by omega) with h1 | ⟨h1, h2⟩
        · exact .inl h1
        · refine .inr ⟨h1, ?_⟩
          rcases h2 with ⟨i, i1, i2, i3, i4⟩ | ⟨i1, i2⟩
          · refine .inl ⟨i, by omega, i2, i3, fun j j1 j2 => ?_⟩
            by_cases hj : j = a
            · rw [hj]; exact r1
            · exact i4 j (by omega) j2
          · refine .inr ⟨i1, fun j j1 j2 => ?_⟩
            by_cases hj : j = a
            · rw [hj]; exact r1
            · exact i2 j (by omega) j2

/-! The tree is formed -/
theorem own_lit (x : UInt8) (s : Chk) : own (litN x) s = true ∧ ownS (litN x) s = s := ⟨by
    have hh : headOk (litN x) = true := decide_eq_true ⟨show (1 : Int) ≤ 1 by decide, show (1 : Int) ≤ 10 by decide, rfl, .inr rfl⟩
    unfold own
    rw [hh]
    rfl, by unfold ownS; rw [if_neg (fun h => by have := h.2; simp [litN, Nd.h] at this)]⟩
theorem allT_lit (x : UInt8) (s : Chk) : allT (litN x) s = (true, s) := by
  have h := own_lit x s
  unfold litN at h ⊢
  rw [allT, if_neg (by rw [h.1]; simp), h.2, allL]
  simp only []
  rw [if_neg (by simp)]
theorem allL_lit : ∀ (bs : List UInt8) (s : Chk), allL 8 (bs.map litN) s = (true, s)
  | [], s => by rw [List.map_nil, allL]
  | x :: bs, s => by
    rw [List.map_cons, allL, if_neg (fun h => by have := h.1; simp [litN, Nd.h] at this), allT_lit]
    exact allL_lit bs s
theorem count_lits : ∀ bs : List UInt8, countL (bs.map litN) = bs.length
  | [] => by simp [countL]
  | x :: bs => by rw [List.map_cons, countL, count_lits bs]; simp [litN, count, countL]; omega
theorem deep_lits : ∀ bs : List UInt8, deepL (bs.map litN) ≤ 1
  | [] => by simp [deepL]
  | x :: bs => by rw [List.map_cons, deepL]; have := deep_lits bs; simp [litN, deep, deepL]; omega
theorem seq_formed {bs : List UInt8} (h1 : 2 ≤ bs.length) (h2 : bs.length ≤ 100) : formedT (seqN bs) = true := by
  have c1 : count (seqN bs) ≤ 200 := by unfold seqN; rw [count, count_lits]; omega
  have d1 : deep (seqN bs) ≤ 10 := by unfold seqN; rw [deep]; have := deep_lits bs; omega
  have hh : headOk (seqN bs) = true := rfl
  have ho : own (seqN bs) ⟨0, fun _ => false⟩ = true := by
    unfold own
    rw [hh]
    show (true && decide ((bs.map litN).length ≠ 1)) = true
    rw [List.length_map]
    simp; omega
  have hs : ownS (seqN bs) ⟨0, fun _ => false⟩ = ⟨0, fun _ => false⟩ := by
    unfold ownS
    rw [if_neg (fun h => by have := h.2; simp [seqN, Nd.h] at this)]
  have ha : (allT (seqN bs) ⟨0, fun _ => false⟩).1 = true := by
    unfold seqN at ho hs ⊢
    rw [allT, if_neg (by rw [ho]; simp), hs, allL_lit]
  unfold formedT
  rw [ha, decide_eq_true c1, decide_eq_true d1]
  rfl

end Go.Proofs.Ytkidjbfapldmbaa
