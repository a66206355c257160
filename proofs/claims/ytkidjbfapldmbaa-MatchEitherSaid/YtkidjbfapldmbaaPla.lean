/- Plain trees, without groups and back references: what is found hangs on no group; in a group the same is found. -/
import Derived.Test.YtkidjbfapldmbaaWit
namespace Go.Proofs.Ytkidjbfapldmbaa
set_option linter.unusedVariables false
set_option linter.unusedSimpArgs false
open P8

mutual
def plainT : Nd → Bool
  | .mk h l => decide (h.k ≠ 6) && decide (h.k ≠ 7) && plainL l
def plainL : List Nd → Bool
  | [] => true
  | x :: r => plainT x && plainL r
end
theorem plain_head {T : Nd} (h : plainT T = true) : T.h.k ≠ 6 ∧ T.h.k ≠ 7 ∧ plainL T.l = true := by
  cases T
  rw [plainT] at h
  simp only [Bool.and_eq_true, decide_eq_true_eq] at h
  exact ⟨h.1.1, h.1.2, h.2⟩
theorem plainL_mem : ∀ {l : List Nd}, plainL l = true → ∀ x ∈ l, plainT x = true
  | [], _, x, hx => by cases hx
  | y :: r, h, x, hx => by
    rw [plainL, Bool.and_eq_true] at h
    rcases List.mem_cons.1 hx with rfl | hx
    · exact h.1
    · exact plainL_mem h.2 x hx

/-! A plain tree is formed or not whatever stood ahead of it -/
theorem own_plain {T : Nd} (h6 : T.h.k ≠ 6) (h7 : T.h.k ≠ 7) (s s' : Chk) : own T s = own T s' := by
  unfold own
  rw [if_neg h6, if_neg h7, if_neg h6, if_neg h7]
theorem ownS_plain {T : Nd} (h6 : T.h.k ≠ 6) (s : Chk) : ownS T s = s := by
  unfold ownS
  rw [if_neg (fun h => h6 h.2)]
mutual
theorem allT_plain : ∀ (T : Nd), plainT T = true → ∃ b, ∀ s, allT T s = (b, s)
  | .mk h l, hp => by
    obtain ⟨h6, h7, hl⟩ := plain_head hp
    have h6' : h.k ≠ 6 := h6
    obtain ⟨b, hb⟩ := allL_plain h.k l hl
    by_cases ho : own (.mk h l) ⟨0, fun _ => false⟩ = false
    · refine ⟨false, fun s => ?_⟩
      rw [allT, if_pos (by rw [own_plain h6 h7 s ⟨0, fun _ => false⟩]; exact ho), ownS_plain h6]
    · refine ⟨b, fun s => ?_⟩
      rw [allT, if_neg (by rw [own_plain h6 h7 s ⟨0, fun _ => false⟩]; exact ho), ownS_plain h6, hb]
      cases b
      · rfl
      · simp only []
        rw [if_neg h6']
theorem allL_plain : ∀ (k : Int) (l : List Nd), plainL l = true → ∃ b, ∀ s, allL k l s = (b, s)
  | _, [], _ => ⟨true, fun s => by rw [allL]⟩
  | k, x :: r, hp => by
    rw [plainL, Bool.and_eq_true] at hp
    obtain ⟨b1, h1⟩ := allT_plain x hp.1
    obtain ⟨b2, h2⟩ := allL_plain k r hp.2
    by_cases hc : x.h.k = k ∧ (k = 8 ∨ k = 9)
    · exact ⟨false, fun s => by rw [allL, if_pos hc]⟩
    · cases b1
      · exact ⟨false, fun s => by rw [allL, if_neg hc, h1]⟩
      · exact ⟨b2, fun s => by rw [allL, if_neg hc, h1]; exact h2 s⟩
end
def grpH : Hd := ⟨6, 0, 0, 0, 0, 0, 1, 0, 0⟩
def grpNd (N : Nd) : Nd := .mk grpH [N]
theorem grp_formed {N : Nd} (hp : plainT N = true) (hd : deep N ≤ 9) (hc : count N ≤ 199) : formedT (grpNd N) = formedT N := by
  obtain ⟨b, hb⟩ := allT_plain N hp
  have c1 : count (grpNd N) ≤ 200 := by rw [grpNd, count, countL, countL]; omega
  have d1 : deep (grpNd N) ≤ 10 := by rw [grpNd, deep, deepL, deepL]; omega
  have ho : own (grpNd N) ⟨0, fun _ => false⟩ = true := by
    unfold own
    have : headOk (grpNd N) = true := rfl
    rw [this]
    show (true && decide ((0 : Int) + 1 ≤ 9 ∧ (1 : Int) = 0 + 1)) = true
    decide
  have hs : ownS (grpNd N) ⟨0, fun _ => false⟩ = ⟨1, fun _ => false⟩ := by
    unfold ownS
    rw [if_pos ⟨rfl, rfl⟩]
    rfl
  have ha : (allT (grpNd N) ⟨0, fun _ => false⟩).1 = b := by
    unfold grpNd at ho hs ⊢
    rw [allT, if_neg (by rw [ho]; simp), hs, allL, if_neg (fun h => by have := h.2; simp [grpH] at this), hb]
    cases b
    · rfl
    · simp only []
      rw [allL]
  unfold formedT
  rw [ha, hb]
  simp only [decide_eq_true (show count N ≤ 200 by omega), decide_eq_true (show deep N ≤ 10 by omega), decide_eq_true c1, decide_eq_true d1]

/-! In a group the same ways are gone through -/
def plainTk : Tk → Prop
  | .node n => plainT n = true
  | .grp _ _ => False
  | .again n _ _ => plainT n = true
def PTs (ts : List Tk) : Prop := ∀ t ∈ ts, plainTk t
theorem PTs.tail {t : Tk} {ts : List Tk} (h : PTs (t :: ts)) : PTs ts := fun u hu => h u (List.mem_cons_of_mem _ hu)
theorem PTs.head {t : Tk} {ts : List Tk} (h : PTs (t :: ts)) : plainTk t := h t (List.mem_cons_self ..)
theorem PTs.cons {t : Tk} {ts : List Tk} (h : plainTk t) (hs : PTs ts) : PTs (t :: ts) := fun u hu => by
  rcases List.mem_cons.1 hu with rfl | hu
  · exact h
  · exact hs u hu
theorem PTs.nodes {l : List Nd} {ts : List Tk} (hl : plainL l = true) (hs : PTs ts) : PTs (l.map .node ++ ts) := fun u hu => by
  rcases List.mem_append.1 hu with hu | hu
  · obtain ⟨x, hx, rfl⟩ := List.mem_map.1 hu
    exact plainL_mem hl x hx
  · exact hs u hu
theorem fits_plain {e : Env} {h : Hd} (h7 : h.k ≠ 7) (p : Nat) (c c' : Caps) : fitsF e h p c = fitsF e h p c' := by
  unfold fitsF
  rw [if_neg h7, if_neg h7]
/-- States alike but for the groups: what is found first by the one has its group 1 whole. -/
structure Alike (e : Env) (s t : St) : Prop where
  tries : s.tries = t.tries
  over : s.over = t.over
  none : s.best = none → t.best = none
  some : ∀ q c, s.best = some (q, c) → ∃ c', t.best = some (q, c') ∧ c' 1 = some (e.start, q)
theorem Alike.try {e : Env} {s t : St} (h : Alike e s t) : Alike e (tryS s).1 (tryS t).1 ∧ (tryS s).2 = (tryS t).2 := by
  unfold tryS
  rw [h.tries]
  split
  · exact ⟨⟨rfl, rfl, h.none, h.some⟩, rfl⟩
  · exact ⟨⟨rfl, h.over, h.none, h.some⟩, rfl⟩
theorem Alike.come {e : Env} {s t : St} (h : Alike e s t) (p : Nat) (c c' : Caps) : Alike e (comeF e p c s) (comeF e p (put c' 1 e.start p) t) := by
  unfold comeF
  cases hs : s.best with
  | none =>
    rw [h.none hs]
    exact ⟨h.tries, h.over, fun h => (by cases h), fun q d hq => by cases hq; exact ⟨_, rfl, by simp [put]⟩⟩
  | some o =>
    obtain ⟨q, d⟩ := o
    obtain ⟨d', h1, h2⟩ := h.some q d hs
    rw [h1]
    simp only []
    split
    · exact h
    · exact ⟨h.tries, h.over, fun h => (by cases h), fun q d hq => by cases hq; exact ⟨_, rfl, by simp [put]⟩⟩
theorem grp_all (e : Env) (G : Nd) (hG : G.h.n.toNat = 1) : ∀ (k : Nat),
    (∀ ts p c c' s t s', thr k e ts p c s = some s' → Alike e s t → PTs ts → ∃ t', thr (k + 1) e (ts ++ [.grp G e.start]) p c' t = some t' ∧ Alike e s' t') ∧
    (∀ n m r p c c' s t s', rep k e n m r p c s = some s' → Alike e s t → plainT n = true → PTs r → ∃ t', rep (k + 1) e n m (r ++ [.grp G e.start]) p c' t = some t' ∧ Alike e s' t') ∧
    (∀ l r p c c' s t s', alts k e l r p c s = some s' → Alike e s t → plainL l = true → PTs r → ∃ t', alts (k + 1) e l (r ++ [.grp G e.start]) p c' t = some t' ∧ Alike e s' t')
  | 0 => ⟨fun _ _ _ _ _ _ _ h => by (rw [thr.eq_def] at h; cases h), fun _ _ _ _ _ _ _ _ _ h => by (rw [rep.eq_def] at h; cases h), fun _ _ _ _ _ _ _ _ h => by (rw [alts.eq_def] at h; cases h)⟩
  | k + 1 => by
    obtain ⟨h1, h2, h3⟩ := grp_all e G hG k
    refine ⟨fun ts p c c' s t s' h ha hp => ?_, fun n m r p c c' s t s' h ha hn hr => ?_, fun l r p c c' s t s' h ha hl hr => ?_⟩
    · by_cases ho : s.over = true
      · rw [thr_over _ _ _ _ _ ho] at h; cases h
        exact ⟨t, thr_over _ _ _ _ _ (ha.over ▸ ho), ha⟩
      have ho' : ¬ t.over = true := ha.over ▸ ho
      match ts, h, hp with
      | [], h, _ =>
        rw [thr_nil _ _ _ _ ho] at h; cases h
        exact ⟨_, by rw [List.nil_append, thr_grp _ _ _ _ _ _ _ ho', hG]; exact thr_nil _ _ _ _ ho', ha.come p c c'⟩
      | .grp n a :: r, h, hp => exact absurd hp.head id
      | .again n a m :: r, h, hp =>
        rw [thr_again _ _ _ _ _ _ _ _ ho] at h
        rw [List.cons_append]
        by_cases hc : p ≠ a ∨ (m : Int) ≤ n.h.mn
        · rw [if_pos hc] at h
          obtain ⟨t', g1, g2⟩ := h2 _ _ _ _ _ c' _ t _ h ha hp.head hp.tail
          exact ⟨t', by rw [thr_again _ _ _ _ _ _ _ _ ho', if_pos hc]; exact g1, g2⟩
        · rw [if_neg hc] at h; cases h
          exact ⟨t, by rw [thr_again _ _ _ _ _ _ _ _ ho', if_neg hc], ha⟩
      | .node n :: r, h, hp =>
        have hn : plainT n = true := hp.head
        obtain ⟨n6, n7, nl⟩ := plain_head hn
        rw [List.cons_append]
        rcases kind_cases n.h.k with hk | hk | hk | hk | hk
        · rw [thr_8 _ _ _ _ _ _ ho hk] at h
          obtain ⟨t', g1, g2⟩ := h1 _ _ _ c' _ t _ h ha (PTs.nodes nl hp.tail)
          exact ⟨t', by rw [thr_8 _ _ _ _ _ _ ho' hk, ← List.append_assoc]; exact g1, g2⟩
        · rw [thr_9 _ _ _ _ _ _ ho hk] at h
          obtain ⟨t', g1, g2⟩ := h3 _ _ _ _ c' _ t _ h ha nl hp.tail
          exact ⟨t', by rw [thr_9 _ _ _ _ _ _ ho' hk]; exact g1, g2⟩
        · exact absurd hk n6
        · rw [thr_10 _ _ _ _ _ _ ho hk] at h
          obtain ⟨t', g1, g2⟩ := h2 _ _ _ _ _ c' _ t _ h ha hn hp.tail
          exact ⟨t', by rw [thr_10 _ _ _ _ _ _ ho' hk]; exact g1, g2⟩
        · rw [thr_leaf _ _ _ _ _ _ ho hk] at h
          obtain ⟨a1, a2⟩ := ha.try
          unfold leafF at h
          rw [thr_leaf _ _ _ _ _ _ ho' hk]
          unfold leafF
          rw [fits_plain n7 p c' c]
          split at h
          · rename_i s1 e1
            rw [e1] at a1 a2
            cases h
            refine ⟨(tryS t).1, ?_, a1⟩
            split
            · rename_i t1 e2; rw [e2]
            · rename_i t1 e2; rw [e2] at a2; cases a2
          · rename_i s1 e1
            rw [e1] at a1 a2
            simp only [] at a1
            split at h
            · cases h
              refine ⟨(tryS t).1, ?_, a1⟩
              split
              · rename_i t1 e2; rw [e2] at a2; cases a2
              · rename_i t1 e2; rw [e2]
            · obtain ⟨t', g1, g2⟩ := h1 _ _ _ c' _ (tryS t).1 _ h a1 hp.tail
              refine ⟨t', ?_, g2⟩
              split
              · rename_i t1 e2; rw [e2] at a2; cases a2
              · rename_i t1 e2; rw [e2] at g1; exact g1
    · by_cases ho : s.over = true
      · rw [rep_over _ _ _ _ _ _ _ ho] at h; cases h
        exact ⟨t, rep_over _ _ _ _ _ _ _ (ha.over ▸ ho), ha⟩
      have ho' : ¬ t.over = true := ha.over ▸ ho
      rw [rep_go _ _ _ _ _ _ _ ho] at h
      rw [rep_go _ _ _ _ _ _ _ ho']
      obtain ⟨a1, a2⟩ := ha.try
      obtain ⟨n6, n7, nl⟩ := plain_head hn
      split at h
      · rename_i s1 e1
        rw [e1] at a1 a2
        cases h
        refine ⟨(tryS t).1, ?_, a1⟩
        split
        · rename_i t1 e2; rw [e2]
        · rename_i t1 e2; rw [e2] at a2; cases a2
      · rename_i s1 e1
        rw [e1] at a1 a2
        simp only [] at a1
        unfold repF at h
        cases hx : n.l with
        | nil => rw [hx] at h; cases h
        | cons x l =>
          rw [hx] at h
          simp only [] at h
          rw [Option.bind_eq_some_iff] at h
          obtain ⟨s2, g1, g2⟩ := h
          have px : plainT x = true := plainL_mem nl x (by rw [hx]; simp)
          obtain ⟨t2, b1, b2⟩ : ∃ t2, (if n.h.mx < 0 ∨ (m : Int) < n.h.mx then thr (k + 1) e (.node x :: .again n p (m + 1) :: (r ++ [.grp G e.start])) p c' (tryS t).1 else some (tryS t).1) = some t2 ∧ Alike e s2 t2 := by
            split at g1
            · rename_i hc
              rw [if_pos hc]
              exact h1 _ _ _ c' _ (tryS t).1 _ g1 a1 (PTs.cons (show plainTk (.node x) from px) (PTs.cons (show plainTk (.again n p (m + 1)) from hn) hr))
            · rename_i hc
              rw [if_neg hc]
              cases g1
              exact ⟨_, rfl, a1⟩
          obtain ⟨t3, b3, b4⟩ : ∃ t3, (if n.h.mn ≤ m then thr (k + 1) e (r ++ [.grp G e.start]) p c' t2 else some t2) = some t3 ∧ Alike e s' t3 := by
            split at g2
            · rename_i hc
              rw [if_pos hc]
              exact h1 _ _ _ c' _ t2 _ g2 b2 hr
            · rename_i hc
              rw [if_neg hc]
              cases g2
              exact ⟨_, rfl, b2⟩
          refine ⟨t3, ?_, b4⟩
          split
          · rename_i t1 e2; rw [e2] at a2; cases a2
          · rename_i t1 e2
            rw [e2] at b1
            unfold repF
            rw [hx]
            simp only []
            rw [Option.bind_eq_some_iff]
            exact ⟨t2, b1, b3⟩
    · match l, h, hl with
      | [], h, _ => rw [alts_nil] at h; cases h; exact ⟨t, alts_nil _ _ _ _ _ _, ha⟩
      | x :: l', h, hl =>
        by_cases ho : s.over = true
        · rw [alts_over _ _ _ _ _ _ _ ho] at h; cases h
          exact ⟨t, alts_over _ _ _ _ _ _ _ (ha.over ▸ ho), ha⟩
        have ho' : ¬ t.over = true := ha.over ▸ ho
        rw [alts_go _ _ _ _ _ _ _ ho] at h
        rw [alts_go _ _ _ _ _ _ _ ho']
        rw [plainL, Bool.and_eq_true] at hl
        obtain ⟨a1, a2⟩ := ha.try
        split at h
        · rename_i s1 e1
          rw [e1] at a1 a2
          cases h
          refine ⟨(tryS t).1, ?_, a1⟩
          split
          · rename_i t1 e2; rw [e2]
          · rename_i t1 e2; rw [e2] at a2; cases a2
        · rename_i s1 e1
          rw [e1] at a1 a2
          simp only [] at a1
          rw [Option.bind_eq_some_iff] at h
          obtain ⟨s2, g1, g2⟩ := h
          obtain ⟨t2, b1, b2⟩ := h1 _ _ _ c' _ (tryS t).1 _ g1 a1 (PTs.cons (show plainTk (.node x) from hl.1) hr)
          obtain ⟨t3, b3, b4⟩ := h3 _ _ _ _ c' _ t2 _ g2 b2 hl.2 hr
          refine ⟨t3, ?_, b4⟩
          split
          · rename_i t1 e2; rw [e2] at a2; cases a2
          · rename_i t1 e2
            rw [e2] at b1
            rw [Option.bind_eq_some_iff]
            exact ⟨t2, b1, b3⟩

/-- What is found in a group, from a place on. -/
structure Same2 (x y : St) : Prop where
  tries : x.tries = y.tries
  over : x.over = y.over
  none : x.best = none → y.best = none
  some : ∀ q c, x.best = some (q, c) → ∃ c' st, y.best = some (q, c') ∧ c 0 = some (st, q) ∧ c' 0 = some (st, q) ∧ c' 1 = some (st, q)
theorem grp_find (L : List UInt8) (b : Bool) (N : Nd) (hN : okT N) (hG : okT (grpNd N)) (hp : plainT N = true) (k : Nat) : ∀ (m a : Nat) (s t x : St), findS k L b N m a s = some x → s.best = none → t.best = none → s.tries = t.tries → s.over = t.over → s.tries ≤ 3000 → a + m ≤ L.length + 1 →
    ∃ y, findS (k + 2) L b (grpNd N) m a t = some y ∧ Same2 x y
  | 0, a, s, t, x, h, h1, h2, h3, h4, _, _ => by
    rw [findS] at h; cases h
    exact ⟨t, by rw [findS], h3, h4, fun _ => h2, fun q c hq => by rw [h1] at hq; cases hq⟩
  | m + 1, a, s, t, x, h, h1, h2, h3, h4, ht, hm => by
    rw [findS, if_neg (by rw [h1]; simp), Option.bind_eq_some_iff] at h
    obtain ⟨s1, g1, g2⟩ := h
    have hs : StOk ⟨L, b, a⟩ s := ⟨ht, fun q c hq => by rw [h1] at hq; cases hq⟩
    have hs2 : StOk ⟨L, b, a⟩ t := ⟨h3 ▸ ht, fun q c hq => by rw [h2] at hq; cases hq⟩
    have i1 := (inv_all ⟨L, b, a⟩ k).1 _ _ _ _ _ g1 hs (one_ok hN _ _) (by simp only []; omega) (noC_ok _)
    obtain ⟨t1, g3, g4⟩ := (grp_all ⟨L, b, a⟩ (grpNd N) rfl k).1 _ _ _ noC _ t _ g1 ⟨h3, h4, fun _ => h2, fun q c hq => by rw [h1] at hq; cases hq⟩ (PTs.cons (show plainTk (.node N) from hp) (fun _ h => by cases h))
    have g5 : thr (k + 2) ⟨L, b, a⟩ [.node (grpNd N)] a noC t = some t1 := by
      by_cases ho : t.over = true
      · rw [thr_over _ _ _ _ _ ho] at g3 ⊢; exact g3
      · rw [thr_6 _ _ _ _ _ _ N ho rfl rfl]; exact g3
    have i2 := (inv_all ⟨L, b, a⟩ (k + 2)).1 _ _ _ _ _ g5 hs2 (one_ok hG _ _) (by simp only []; omega) (noC_ok _)
    have fin : Same2 s1 t1 := ⟨g4.tries, g4.over, g4.none, fun q c hq => by
      obtain ⟨c', r1, r2⟩ := g4.some q c hq
      exact ⟨c', a, r1, (i1.1.best q c hq).2, (i2.1.best q c' r1).2, r2⟩⟩
    rw [findS, if_neg (by rw [h2]; simp)]
    by_cases ho : s1.over = true
    · rw [if_pos ho] at g2; cases g2
      exact ⟨t1, by rw [Option.bind_eq_some_iff]; exact ⟨t1, g5, by rw [if_pos (g4.over ▸ ho)]⟩, fin⟩
    · rw [if_neg ho] at g2
      have ho' : ¬ t1.over = true := g4.over ▸ ho
      cases hb : s1.best with
      | none =>
        obtain ⟨y, r1, r2⟩ := grp_find L b N hN hG hp k m (a + 1) s1 t1 x g2 hb (g4.none hb) g4.tries g4.over i1.1.tries (by omega)
        exact ⟨y, by rw [Option.bind_eq_some_iff]; exact ⟨t1, g5, by rw [if_neg ho']; exact r1⟩, r2⟩
      | some o =>
        have hx : x = s1 := by
          cases m with
          | zero => rw [findS] at g2; cases g2; rfl
          | succ m => rw [findS, if_pos (by rw [hb]; rfl)] at g2; cases g2; rfl
        subst hx
        refine ⟨t1, ?_, fin⟩
        rw [Option.bind_eq_some_iff]
        refine ⟨t1, g5, ?_⟩
        rw [if_neg ho']
        obtain ⟨q, c⟩ := o
        obtain ⟨c', st, r1, _⟩ := fin.some q c hb
        cases m with
        | zero => rw [findS]
        | succ m => rw [findS, if_pos (by rw [r1]; rfl)]

end Go.Proofs.Ytkidjbfapldmbaa
