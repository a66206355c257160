/- One pattern or the other: what begins first, and of those that begin there the longest. -/
import Derived.Test.YtkidjbfapldmbaaPla
namespace Go.Proofs.Ytkidjbfapldmbaa
set_option linter.unusedVariables false
set_option linter.unusedSimpArgs false
open P8

def mergeQ : Option Nat → Option Nat → Option Nat
  | none, r => r
  | some q, none => some q
  | some q, some q' => some (max q q')
def bestQ (s : St) : Option Nat := s.best.map (·.1)
/-- With what was found ahead: the greater of both. -/
structure Merged (B : Option Nat) (s t : St) : Prop where
  tries : s.tries = t.tries
  over : s.over = t.over
  best : bestQ s = mergeQ B (bestQ t)
theorem Merged.try {B : Option Nat} {s t : St} (h : Merged B s t) : Merged B (tryS s).1 (tryS t).1 ∧ (tryS s).2 = (tryS t).2 := by
  unfold tryS
  rw [h.tries]
  split
  · exact ⟨⟨rfl, rfl, h.best⟩, rfl⟩
  · exact ⟨⟨rfl, h.over, h.best⟩, rfl⟩
theorem comeQ (e : Env) (p : Nat) (c : Caps) (s : St) : bestQ (comeF e p c s) = mergeQ (bestQ s) (some p) := by
  obtain ⟨tr, ov, be⟩ := s
  cases be with
  | none => rfl
  | some o =>
    obtain ⟨q, d⟩ := o
    simp only [comeF]
    by_cases h : p ≤ q
    · rw [if_pos h]
      show some q = some (max q p)
      rw [Nat.max_eq_left h]
    · rw [if_neg h]
      show some p = some (max q p)
      rw [Nat.max_eq_right (by omega)]
theorem mergeQ_assoc (a b : Option Nat) (p : Nat) : mergeQ (mergeQ a b) (some p) = mergeQ a (mergeQ b (some p)) := by
  cases a <;> cases b <;> simp [mergeQ, Nat.max_assoc]
theorem Merged.come {B : Option Nat} {s t : St} (h : Merged B s t) (e : Env) (p : Nat) (c c' : Caps) : Merged B (comeF e p c s) (comeF e p c' t) :=
  ⟨by rw [come_tries, come_tries]; exact h.tries, by rw [(come_over e p c s).1, (come_over e p c' t).1]; exact h.over, by rw [comeQ, comeQ, h.best, mergeQ_assoc]⟩
theorem merged_all (e : Env) (B : Option Nat) : ∀ (k : Nat),
    (∀ ts p c s t s', thr k e ts p c s = some s' → Merged B s t → PTs ts → ∃ t', thr k e ts p c t = some t' ∧ Merged B s' t') ∧
    (∀ n m r p c s t s', rep k e n m r p c s = some s' → Merged B s t → plainT n = true → PTs r → ∃ t', rep k e n m r p c t = some t' ∧ Merged B s' t') ∧
    (∀ l r p c s t s', alts k e l r p c s = some s' → Merged B s t → plainL l = true → PTs r → ∃ t', alts k e l r p c t = some t' ∧ Merged B s' t')
  | 0 => ⟨fun _ _ _ _ _ _ h => by (rw [thr.eq_def] at h; cases h), fun _ _ _ _ _ _ _ _ h => by (rw [rep.eq_def] at h; cases h), fun _ _ _ _ _ _ _ h => by (rw [alts.eq_def] at h; cases h)⟩
  | k + 1 => by
    obtain ⟨h1, h2, h3⟩ := merged_all e B k
    refine ⟨fun ts p c s t s' h ha hp => ?_, fun n m r p c s t s' h ha hn hr => ?_, fun l r p c s t s' h ha hl hr => ?_⟩
    · by_cases ho : s.over = true
      · rw [thr_over _ _ _ _ _ ho] at h; cases h
        exact ⟨t, thr_over _ _ _ _ _ (ha.over ▸ ho), ha⟩
      have ho' : ¬ t.over = true := ha.over ▸ ho
      match ts, h, hp with
      | [], h, _ =>
        rw [thr_nil _ _ _ _ ho] at h; cases h
        exact ⟨_, thr_nil _ _ _ _ ho', ha.come e p c c⟩
      | .grp n a :: r, h, hp => exact absurd hp.head id
      | .again n a m :: r, h, hp =>
        rw [thr_again _ _ _ _ _ _ _ _ ho] at h
        by_cases hc : p ≠ a ∨ (m : Int) ≤ n.h.mn
        · rw [if_pos hc] at h
          obtain ⟨t', g1, g2⟩ := h2 _ _ _ _ _ _ t _ h ha hp.head hp.tail
          exact ⟨t', by rw [thr_again _ _ _ _ _ _ _ _ ho', if_pos hc]; exact g1, g2⟩
        · rw [if_neg hc] at h; cases h
          exact ⟨t, by rw [thr_again _ _ _ _ _ _ _ _ ho', if_neg hc], ha⟩
      | .node n :: r, h, hp =>
        have hn : plainT n = true := hp.head
        obtain ⟨n6, n7, nl⟩ := plain_head hn
        rcases kind_cases n.h.k with hk | hk | hk | hk | hk
        · rw [thr_8 _ _ _ _ _ _ ho hk] at h
          obtain ⟨t', g1, g2⟩ := h1 _ _ _ _ t _ h ha (PTs.nodes nl hp.tail)
          exact ⟨t', by rw [thr_8 _ _ _ _ _ _ ho' hk]; exact g1, g2⟩
        · rw [thr_9 _ _ _ _ _ _ ho hk] at h
          obtain ⟨t', g1, g2⟩ := h3 _ _ _ _ _ t _ h ha nl hp.tail
          exact ⟨t', by rw [thr_9 _ _ _ _ _ _ ho' hk]; exact g1, g2⟩
        · exact absurd hk n6
        · rw [thr_10 _ _ _ _ _ _ ho hk] at h
          obtain ⟨t', g1, g2⟩ := h2 _ _ _ _ _ _ t _ h ha hn hp.tail
          exact ⟨t', by rw [thr_10 _ _ _ _ _ _ ho' hk]; exact g1, g2⟩
        · rw [thr_leaf _ _ _ _ _ _ ho hk] at h
          obtain ⟨a1, a2⟩ := ha.try
          unfold leafF at h
          rw [thr_leaf _ _ _ _ _ _ ho' hk]
          unfold leafF
          split at h
          · rename_i s1 e1
            rw [e1] at a1 a2
            cases h
            refine ⟨(tryS t).1, ?_, a1⟩
            split
            · rename_i t1 e2; rw [e2]
            · rename_i t1 e2; rw [e2] at a2; cases a2
          · rename_i s1 e1
            rw [e1] at a1 a2
            simp only [] at a1
            split at h
            · cases h
              refine ⟨(tryS t).1, ?_, a1⟩
              split
              · rename_i t1 e2; rw [e2] at a2; cases a2
              · rename_i t1 e2; rw [e2]
            · obtain ⟨t', g1, g2⟩ := h1 _ _ _ _ (tryS t).1 _ h a1 hp.tail
              refine ⟨t', ?_, g2⟩
              split
              · rename_i t1 e2; rw [e2] at a2; cases a2
              · rename_i t1 e2; rw [e2] at g1; exact g1
    · by_cases ho : s.over = true
      · rw [rep_over _ _ _ _ _ _ _ ho] at h; cases h
        exact ⟨t, rep_over _ _ _ _ _ _ _ (ha.over ▸ ho), ha⟩
      have ho' : ¬ t.over = true := ha.over ▸ ho
      rw [rep_go _ _ _ _ _ _ _ ho] at h
      rw [rep_go _ _ _ _ _ _ _ ho']
      obtain ⟨a1, a2⟩ := ha.try
      obtain ⟨n6, n7, nl⟩ := plain_head hn
      split at h
      · rename_i s1 e1
        rw [e1] at a1 a2
        cases h
        refine ⟨(tryS t).1, ?_, a1⟩
        split
        · rename_i t1 e2; rw [e2]
        · rename_i t1 e2; rw [e2] at a2; cases a2
      · rename_i s1 e1
        rw [e1] at a1 a2
        simp only [] at a1
        unfold repF at h
        cases hx : n.l with
        | nil => rw [hx] at h; cases h
        | cons x l =>
          rw [hx] at h
          simp only [] at h
          rw [Option.bind_eq_some_iff] at h
          obtain ⟨s2, g1, g2⟩ := h
          have px : plainT x = true := plainL_mem nl x (by rw [hx]; simp)
          obtain ⟨t2, b1, b2⟩ : ∃ t2, (if n.h.mx < 0 ∨ (m : Int) < n.h.mx then thr k e (.node x :: .again n p (m + 1) :: r) p c (tryS t).1 else some (tryS t).1) = some t2 ∧ Merged B s2 t2 := by
            split at g1
            · rename_i hc
              rw [if_pos hc]
              exact h1 _ _ _ _ (tryS t).1 _ g1 a1 (PTs.cons (show plainTk (.node x) from px) (PTs.cons (show plainTk (.again n p (m + 1)) from hn) hr))
            · rename_i hc
              rw [if_neg hc]
              cases g1
              exact ⟨_, rfl, a1⟩
          obtain ⟨t3, b3, b4⟩ : ∃ t3, (if n.h.mn ≤ m then thr k e r p c t2 else some t2) = some t3 ∧ Merged B s' t3 := by
            split at g2
            · rename_i hc
              rw [if_pos hc]
              exact h1 _ _ _ _ t2 _ g2 b2 hr
            · rename_i hc
              rw [if_neg hc]
              cases g2
              exact ⟨_, rfl, b2⟩
          refine ⟨t3, ?_, b4⟩
          split
          · rename_i t1 e2; rw [e2] at a2; cases a2
          · rename_i t1 e2
            rw [e2] at b1
            unfold repF
            rw [hx]
            simp only []
            rw [Option.bind_eq_some_iff]
            exact ⟨t2, b1, b3⟩
    · match l, h, hl with
      | [], h, _ => rw [alts_nil] at h; cases h; exact ⟨t, alts_nil _ _ _ _ _ _, ha⟩
      | x :: l', h, hl =>
        by_cases ho : s.over = true
        · rw [alts_over _ _ _ _ _ _ _ ho] at h; cases h
          exact ⟨t, alts_over _ _ _ _ _ _ _ (ha.over ▸ ho), ha⟩
        have ho' : ¬ t.over = true := ha.over ▸ ho
        rw [alts_go _ _ _ _ _ _ _ ho] at h
        rw [alts_go _ _ _ _ _ _ _ ho']
        rw [plainL, Bool.and_eq_true] at hl
        obtain ⟨a1, a2⟩ := ha.try
        split at h
        · rename_i s1 e1
          rw [e1] at a1 a2
          cases h
          refine ⟨(tryS t).1, ?_, a1⟩
          split
          · rename_i t1 e2; rw [e2]
          · rename_i t1 e2; rw [e2] at a2; cases a2
        · rename_i s1 e1
          rw [e1] at a1 a2
          simp only [] at a1
          rw [Option.bind_eq_some_iff] at h
          obtain ⟨s2, g1, g2⟩ := h
          obtain ⟨t2, b1, b2⟩ := h1 _ _ _ _ (tryS t).1 _ g1 a1 (PTs.cons (show plainTk (.node x) from hl.1) hr)
          obtain ⟨t3, b3, b4⟩ := h3 _ _ _ _ _ t2 _ g2 b2 hl.2 hr
          refine ⟨t3, ?_, b4⟩
          split
          · rename_i t1 e2; rw [e2] at a2; cases a2
          · rename_i t1 e2
            rw [e2] at b1
            rw [Option.bind_eq_some_iff]
            exact ⟨t2, b1, b3⟩

/-! What is found at one place, with no try before it -/
def Fresh (L : List UInt8) (b : Bool) (n : Nd) (p : Nat) (R : Option Nat) : Prop := ∃ k s', thr k ⟨L, b, p⟩ [.node n] p noC ⟨0, false, none⟩ = some s' ∧ s'.over = false ∧ bestQ s' = R
theorem Fresh.one {L : List UInt8} {b : Bool} {n : Nd} {p : Nat} {R R' : Option Nat} (h : Fresh L b n p R) (h' : Fresh L b n p R') : R = R' := by
  obtain ⟨k, s, h1, _, h3⟩ := h
  obtain ⟨k', s', h1', _, h3'⟩ := h'
  have e1 := thr_more (Nat.le_max_left k k') h1
  have e2 := thr_more (Nat.le_max_right k k') h1'
  rw [e1] at e2
  cases e2
  rw [← h3, ← h3']
/-- A run that is not over, less the tries ahead of it. -/
theorem fresh_of {L : List UInt8} {b : Bool} {n : Nd} {p k : Nat} {s s' : St} (h : thr k ⟨L, b, p⟩ [.node n] p noC s = some s') (hv : s'.over = false) (hs : s.tries ≤ 3000) (hb : s.best = none) : Fresh L b n p (bestQ s') ∧ s'.tries ≤ 3000 ∧ s.over = false := by
  have ho : s.over = false := by
    cases h9 : s.over with
    | false => rfl
    | true => have := (stays ⟨L, b, p⟩ k).1 _ _ _ _ _ h h9; rw [this, h9] at hv; cases hv
  have sf := (shift_all ⟨L, b, p⟩ s.tries k).1 _ _ _ _ _ h hv (Nat.le_refl _) hs
  refine ⟨⟨k, sh s.tries s', ?_, hv, rfl⟩, sf.2.2, ho⟩
  have := sf.1
  rw [show sh s.tries s = ⟨0, false, none⟩ by unfold sh; rw [ho, hb, Nat.sub_self]] at this
  exact this
def altNd (x y : Nd) : Nd := .mk ⟨9, 0, 0, 0, 0, 0, 0, 0, 0⟩ [x, y]
theorem fresh_alt {L : List UInt8} {b : Bool} {x y : Nd} {p : Nat} {R : Option Nat} (hx : plainT x = true) (hy : plainT y = true) (hxo : okT x) (hyo : okT y) (h : Fresh L b (altNd x y) p R) : ∃ Rx Ry, Fresh L b x p Rx ∧ Fresh L b y p Ry ∧ R = mergeQ Rx Ry := by
  obtain ⟨k, s', h1, h2, h3⟩ := h
  match k, h1 with
  | 0, h1 => rw [thr.eq_def] at h1; cases h1
  | 1, h1 => rw [thr_9 _ _ _ _ _ _ (by simp) rfl, alts.eq_def] at h1; cases h1
  | k + 2, h1 =>
    rw [thr_9 _ _ _ _ _ _ (by simp) rfl] at h1
    rw [show (altNd x y).l = [x, y] from rfl, alts_go _ _ _ _ _ _ _ (by simp)] at h1
    rw [show tryS ⟨0, false, none⟩ = (⟨1, false, none⟩, true) from rfl] at h1
    simp only [] at h1
    rw [Option.bind_eq_some_iff] at h1
    obtain ⟨s2, g1, g2⟩ := h1
    cases k with
    | zero => rw [thr.eq_def] at g1; cases g1
    | succ k =>
      have o2 : s2.over = false := by
        cases h9 : s2.over with
        | false => rfl
        | true => rw [alts_over _ _ _ _ _ _ _ h9] at g2; cases g2; rw [h9] at h2; cases h2
      obtain ⟨f1, t2, _⟩ := fresh_of g1 o2 (by simp) rfl
      rw [alts_go _ _ _ _ _ _ _ (by rw [o2]; simp)] at g2
      rcases tryS_cases s2 with ⟨_, e1⟩ | ⟨hne, e1⟩
      · rw [e1] at g2; cases g2; cases h2
      · rw [e1] at g2
        simp only [] at g2
        rw [Option.bind_eq_some_iff] at g2
        obtain ⟨s4, g3, g4⟩ := g2
        have h4 : s4 = s' := by
          cases k with
          | zero => rw [thr.eq_def] at g3; cases g3
          | succ k => rw [alts_nil] at g4; exact Option.some.inj g4
        subst h4
        obtain ⟨t4, b1, b2⟩ := (merged_all ⟨L, b, p⟩ (bestQ s2) k).1 _ _ _ _ ⟨s2.tries + 1, s2.over, none⟩ _ g3 ⟨rfl, rfl, by unfold bestQ; cases s2.best <;> rfl⟩ (PTs.cons (show plainTk (.node y) from hy) (fun _ h => by cases h))
        obtain ⟨f2, _, _⟩ := fresh_of b1 (by rw [← b2.over]; exact h2) (by simp only []; omega) rfl
        exact ⟨_, _, f1, f2, by rw [← h3, b2.best]⟩
theorem find_fresh (L : List UInt8) (b : Bool) (n : Nd) (hn : okT n) (k : Nat) : ∀ (m a : Nat) (s x : St), findS k L b n m a s = some x → s.best = none → s.tries ≤ 3000 → a + m = L.length + 1 → x.over = false →
    (∃ st q c, x.best = some (q, c) ∧ c 0 = some (st, q) ∧ a ≤ st ∧ st ≤ L.length ∧ q ≤ L.length ∧ Fresh L b n st (some q) ∧ ∀ i, a ≤ i → i < st → Fresh L b n i none) ∨ (x.best = none ∧ ∀ i, a ≤ i → i ≤ L.length → Fresh L b n i none)
  | 0, a, s, x, h, hb, _, hm, _ => by
    rw [findS] at h; cases h
    exact .inr ⟨hb, fun i h1 h2 => by omega⟩
  | m + 1, a, s, x, h, hb, ht, hm, hv => by
    rw [findS, if_neg (by rw [hb]; simp), Option.bind_eq_some_iff] at h
    obtain ⟨s1, g1, g2⟩ := h
    have hs : StOk ⟨L, b, a⟩ s := ⟨ht, fun q c hq => by rw [hb] at hq; cases hq⟩
    have i1 := (inv_all ⟨L, b, a⟩ k).1 _ _ _ _ _ g1 hs (one_ok hn _ _) (by simp only []; omega) (noC_ok _)
    have so : s1.over = false := by
      cases h9 : s1.over with
      | false => rfl
      | true => rw [if_pos h9] at g2; cases g2; rw [h9] at hv; cases hv
    rw [if_neg (by rw [so]; simp)] at g2
    obtain ⟨f1, t1, _⟩ := fresh_of g1 so ht hb
    cases hb1 : s1.best with
    | none =>
      have f0 : Fresh L b n a none := by rw [bestQ, hb1] at f1; exact f1
      rcases find_fresh L b n hn k m (a + 1) s1 x g2 hb1 t1 (by omega) hv with ⟨st, q, c, r1, r2, r3, r4, r5, r6, r7⟩ | ⟨r1, r2⟩
      · refine .inl ⟨st, q, c, r1, r2, by omega, r4, r5, r6, fun i h1 h2 => ?_⟩
        by_cases hi : i = a
        · rw [hi]; exact f0
        · exact r7 i (by omega) h2
      · refine .inr ⟨r1, fun i h1 h2 => ?_⟩
        by_cases hi : i = a
        · rw [hi]; exact f0
        · exact r2 i (by omega) h2
    | some o =>
      obtain ⟨q, c⟩ := o
      have hx : x = s1 := by
        cases m with
        | zero => rw [findS] at g2; cases g2; rfl
        | succ m => rw [findS, if_pos (by rw [hb1]; rfl)] at g2; cases g2; rfl
      subst hx
      have f0 : Fresh L b n a (some q) := by rw [bestQ, hb1] at f1; exact f1
      have hbo := i1.1.best q c hb1
      exact .inl ⟨a, q, c, hb1, hbo.2, Nat.le_refl _, by omega, hbo.1, f0, fun i h1 h2 => by omega⟩

end Go.Proofs.Ytkidjbfapldmbaa
