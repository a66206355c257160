/- With fewer tries before: the same is found, with as many tries fewer. -/
import Derived.Test.YtkidjbfapldmbaaFndS
namespace Go.Proofs.Ytkidjbfapldmbaa
set_option linter.unusedVariables false
set_option linter.unusedSimpArgs false
open P8

def sh (d : Nat) (s : St) : St := ⟨s.tries - d, s.over, s.best⟩
theorem sh_over (d : Nat) (s : St) : (sh d s).over = s.over := rfl
theorem sh_come (d : Nat) (e : Env) (p : Nat) (c : Caps) (s : St) : comeF e p c (sh d s) = sh d (comeF e p c s) := by
  obtain ⟨t, o, b⟩ := s
  cases b with
  | none => rfl
  | some x =>
    obtain ⟨q, c'⟩ := x
    simp only [comeF, sh]
    split
    · rfl
    · rfl
theorem stays (e : Env) : ∀ (k : Nat), (∀ ts p c s s', thr k e ts p c s = some s' → s.over = true → s' = s) ∧ (∀ l r p c s s', alts k e l r p c s = some s' → s.over = true → s' = s)
  | 0 => ⟨fun _ _ _ _ _ h => by (rw [thr.eq_def] at h; cases h), fun _ _ _ _ _ _ h => by (rw [alts.eq_def] at h; cases h)⟩
  | k + 1 => ⟨fun ts p c s s' h ho => by rw [thr_over _ _ _ _ _ ho] at h; cases h; rfl, fun l r p c s s' h ho => by
      cases l with
      | nil => rw [alts_nil] at h; cases h; rfl
      | cons x l => rw [alts_over _ _ _ _ _ _ _ ho] at h; cases h; rfl⟩
theorem come_over (e : Env) (p : Nat) (c : Caps) (s : St) : (comeF e p c s).over = s.over ∧ (comeF e p c s).tries = s.tries := by
  unfold comeF
  split
  · split
    · exact ⟨rfl, rfl⟩
    · exact ⟨rfl, rfl⟩
  · exact ⟨rfl, rfl⟩
theorem sh_try {d : Nat} {s : St} (hd : d ≤ s.tries) (h3 : s.tries ≤ 3000) (hne : s.tries ≠ 3000) : tryS (sh d s) = (sh d { s with tries := s.tries + 1 }, true) := by
  unfold tryS sh
  simp only []
  rw [if_neg (by omega)]
  simp only [Prod.mk.injEq, and_true, St.mk.injEq]
  omega
theorem shift_all (e : Env) (d : Nat) : ∀ (k : Nat),
    (∀ ts p c s s', thr k e ts p c s = some s' → s'.over = false → d ≤ s.tries → s.tries ≤ 3000 → thr k e ts p c (sh d s) = some (sh d s') ∧ s.tries ≤ s'.tries ∧ s'.tries ≤ 3000) ∧
    (∀ n t r p c s s', rep k e n t r p c s = some s' → s'.over = false → d ≤ s.tries → s.tries ≤ 3000 → rep k e n t r p c (sh d s) = some (sh d s') ∧ s.tries ≤ s'.tries ∧ s'.tries ≤ 3000) ∧
    (∀ l r p c s s', alts k e l r p c s = some s' → s'.over = false → d ≤ s.tries → s.tries ≤ 3000 → alts k e l r p c (sh d s) = some (sh d s') ∧ s.tries ≤ s'.tries ∧ s'.tries ≤ 3000)
  | 0 => ⟨fun _ _ _ _ _ h => by (rw [thr.eq_def] at h; cases h), fun _ _ _ _ _ _ _ h => by (rw [rep.eq_def] at h; cases h), fun _ _ _ _ _ _ h => by (rw [alts.eq_def] at h; cases h)⟩
  | k + 1 => by
    obtain ⟨h1, h2, h3⟩ := shift_all e d k
    refine ⟨fun ts p c s s' h hv hd ht => ?_, fun n t r p c s s' h hv hd ht => ?_, fun l r p c s s' h hv hd ht => ?_⟩
    · have ho : ¬ s.over = true := fun ho => by
        have := (stays e (k + 1)).1 _ _ _ _ _ h ho
        rw [this, ho] at hv; cases hv
      have ho' : ¬ (sh d s).over = true := ho
      match ts, h with
      | [], h =>
        rw [thr_nil _ _ _ _ ho] at h; cases h
        rw [thr_nil _ _ _ _ ho', sh_come]
        have := (come_over e p c s).2
        exact ⟨rfl, by omega, by omega⟩
      | .grp n a :: r, h =>
        rw [thr_grp _ _ _ _ _ _ _ ho] at h
        rw [thr_grp _ _ _ _ _ _ _ ho']
        exact h1 _ _ _ _ _ h hv hd ht
      | .again n a t :: r, h =>
        rw [thr_again _ _ _ _ _ _ _ _ ho] at h
        rw [thr_again _ _ _ _ _ _ _ _ ho']
        split at h
        · rename_i hc; rw [if_pos hc]; exact h2 _ _ _ _ _ _ _ h hv hd ht
        · rename_i hc; rw [if_neg hc]; cases h; exact ⟨rfl, Nat.le_refl _, ht⟩
      | .node n :: r, h =>
        rcases kind_cases n.h.k with hk | hk | hk | hk | hk
        · rw [thr_8 _ _ _ _ _ _ ho hk] at h
          rw [thr_8 _ _ _ _ _ _ ho' hk]
          exact h1 _ _ _ _ _ h hv hd ht
        · rw [thr_9 _ _ _ _ _ _ ho hk] at h
          rw [thr_9 _ _ _ _ _ _ ho' hk]
          exact h3 _ _ _ _ _ _ h hv hd ht
        · cases hl : n.l with
          | nil => rw [thr, if_neg ho, if_neg (by omega), if_neg (by omega), if_pos hk, hl] at h; cases h
          | cons y l =>
            rw [thr, if_neg ho, if_neg (by omega), if_neg (by omega), if_pos hk, hl] at h
            rw [thr, if_neg ho', if_neg (by omega), if_neg (by omega), if_pos hk, hl]
            exact h1 _ _ _ _ _ h hv hd ht
        · rw [thr_10 _ _ _ _ _ _ ho hk] at h
          rw [thr_10 _ _ _ _ _ _ ho' hk]
          exact h2 _ _ _ _ _ _ _ h hv hd ht
        · rw [thr_leaf _ _ _ _ _ _ ho hk] at h
          rw [thr_leaf _ _ _ _ _ _ ho' hk]
          unfold leafF at h ⊢
          rcases tryS_cases s with ⟨_, e1⟩ | ⟨hne, e1⟩
          · rw [e1] at h; cases h; cases hv
          · rw [e1] at h
            rw [sh_try hd ht hne]
            simp only [] at h ⊢
            split at h
            · cases h; exact ⟨rfl, by simp only []; omega, by simp only []; omega⟩
            · obtain ⟨r1, r2, r3⟩ := h1 _ _ _ _ _ h hv (by simp only []; omega) (by simp only []; omega)
              exact ⟨r1, by simp only [] at r2; omega, r3⟩
    · have ho : ¬ s.over = true := fun ho => by
        rw [rep_over _ _ _ _ _ _ _ ho] at h; cases h; rw [ho] at hv; cases hv
      have ho' : ¬ (sh d s).over = true := ho
      rw [rep_go _ _ _ _ _ _ _ ho] at h
      rw [rep_go _ _ _ _ _ _ _ ho']
      rcases tryS_cases s with ⟨_, e1⟩ | ⟨hne, e1⟩
      · rw [e1] at h; cases h; cases hv
      · rw [e1] at h
        rw [sh_try hd ht hne]
        simp only [] at h ⊢
        unfold repF at h ⊢
        cases hl : n.l with
        | nil => rw [hl] at h; cases h
        | cons x l =>
          rw [hl] at h
          simp only [] at h ⊢
          rw [Option.bind_eq_some_iff] at h ⊢
          obtain ⟨s2, g1, g2⟩ := h
          have v2 : s2.over = false := by
            by_cases hc : n.h.mn ≤ t
            · rw [if_pos hc] at g2
              cases h9 : s2.over with
              | false => rfl
              | true => have := (stays e k).1 _ _ _ _ _ g2 h9; rw [this, h9] at hv; cases hv
            · rw [if_neg hc] at g2; cases g2; exact hv
          have i1 : (if n.h.mx < 0 ∨ (t : Int) < n.h.mx then thr k e (.node x :: .again n p (t + 1) :: r) p c (sh d { s with tries := s.tries + 1 }) else some (sh d { s with tries := s.tries + 1 })) = some (sh d s2) ∧ s.tries + 1 ≤ s2.tries ∧ s2.tries ≤ 3000 := by
            by_cases hc : n.h.mx < 0 ∨ (t : Int) < n.h.mx
            · rw [if_pos hc] at g1 ⊢
              exact h1 _ _ _ _ _ g1 v2 (by simp only []; omega) (by simp only []; omega)
            · rw [if_neg hc] at g1 ⊢; cases g1; exact ⟨rfl, Nat.le_refl _, by simp only []; omega⟩
          have i2 : (if n.h.mn ≤ t then thr k e r p c (sh d s2) else some (sh d s2)) = some (sh d s') ∧ s2.tries ≤ s'.tries ∧ s'.tries ≤ 3000 := by
            by_cases hc : n.h.mn ≤ t
            · rw [if_pos hc] at g2 ⊢
              exact h1 _ _ _ _ _ g2 hv (by omega) i1.2.2
            · rw [if_neg hc] at g2 ⊢; cases g2; exact ⟨rfl, Nat.le_refl _, i1.2.2⟩
          exact ⟨⟨_, i1.1, i2.1⟩, by omega, i2.2.2⟩
    · match l, h with
      | [], h => rw [alts_nil] at h ⊢; cases h; exact ⟨rfl, Nat.le_refl _, ht⟩
      | x :: l', h =>
        have ho : ¬ s.over = true := fun ho => by
          rw [alts_over _ _ _ _ _ _ _ ho] at h; cases h; rw [ho] at hv; cases hv
        have ho' : ¬ (sh d s).over = true := ho
        rw [alts_go _ _ _ _ _ _ _ ho] at h
        rw [alts_go _ _ _ _ _ _ _ ho']
        rcases tryS_cases s with ⟨_, e1⟩ | ⟨hne, e1⟩
        · rw [e1] at h; cases h; cases hv
        · rw [e1] at h
          rw [sh_try hd ht hne]
          simp only [] at h ⊢
          rw [Option.bind_eq_some_iff] at h ⊢
          obtain ⟨s2, g1, g2⟩ := h
          have v2 : s2.over = false := by
            cases h9 : s2.over with
            | false => rfl
            | true => have := (stays e k).2 _ _ _ _ _ _ g2 h9; rw [this, h9] at hv; cases hv
          obtain ⟨r1, r2, r3⟩ := h1 _ _ _ _ _ g1 v2 (by simp only []; omega) (by simp only []; omega)
          simp only [] at r2
          obtain ⟨u1, u2, u3⟩ := h3 _ _ _ _ _ _ g2 hv (by omega) r3
          exact ⟨⟨_, r1, u1⟩, by omega, u3⟩

end Go.Proofs.Ytkidjbfapldmbaa
