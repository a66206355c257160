import Derived.Test.YtkidjbfapldmbaaZFndS
set_option linter.unusedVariables false
set_option linter.unusedSimpArgs false
namespace Go.Proofs.Ytkidjbfapldmbaa
open P8
def LB (e : Env) (M : Int) (s : St) : Prop := ∀ q c, s.best = some (q, c) → (e.start : Int) + M ≤ q
theorem LB.try {e : Env} {M : Int} {s : St} (h : LB e M s) : LB e M (tryS s).1 := by
 unfold tryS
 split
 ·exact h
 ·exact h
theorem LB.come {e : Env} {M : Int} {s : St} {p : Nat} (h : LB e M s) (c : Caps) (hp : (e.start : Int) + M ≤ p) : LB e M (comeF e p c s) := by
 unfold comeF
 split
 ·split
  ·exact h
  ·intro q c hq; cases hq; exact hp
 ·intro q c hq; cases hq; exact hp
end Go.Proofs.Ytkidjbfapldmbaa
namespace Go.Proofs.Ytkidjbfapldmbaa
open P8
def sh (d : Nat) (s : St) : St := ⟨s.tries - d, s.over, s.best⟩
theorem sh_over (d : Nat) (s : St) : (sh d s).over = s.over := rfl
theorem sh_come (d : Nat) (e : Env) (p : Nat) (c : Caps) (s : St) : comeF e p c (sh d s) = sh d (comeF e p c s) := by
 obtain ⟨t, o, b⟩ := s
 cases b with
 | none => rfl
 | some x =>
  obtain ⟨q, c'⟩ := x
  simp only [comeF, sh]
  split
  ·rfl
  ·rfl
theorem stays (e : Env) : ∀ (k : Nat), (∀ ts p c s s', thr k e ts p c s = some s' → s.over = true → s' = s) ∧ (∀ l r p c s s', alts k e l r p c s = some s' → s.over = true → s' = s)
 | 0 => ⟨fun _ _ _ _ _ h => by (rw [thr.eq_def] at h; cases h), fun _ _ _ _ _ _ h => by (rw [alts.eq_def] at h; cases h)⟩
 | k + 1 => ⟨fun ts p c s s' h ho => by rw [thr_over _ _ _ _ _ ho] at h; cases h; rfl, fun l r p c s s' h ho => by
   cases l with
   | nil => rw [alts_nil] at h; cases h; rfl
   | cons x l => rw [alts_over _ _ _ _ _ _ _ ho] at h; cases h; rfl⟩
theorem come_over (e : Env) (p : Nat) (c : Caps) (s : St) : (comeF e p c s).over = s.over ∧ (comeF e p c s).tries = s.tries := by
 unfold comeF
 split
 ·split
  ·exact ⟨rfl, rfl⟩
  ·exact ⟨rfl, rfl⟩
 ·exact ⟨rfl, rfl⟩
theorem sh_try {d : Nat} {s : St} (hd : d ≤ s.tries) (h3 : s.tries ≤ 3000) (hne : s.tries ≠ 3000) : tryS (sh d s) = (sh d { s with tries := s.tries + 1 }, true) := by
 unfold tryS sh
 simp only []
 rw [if_neg (by omega)]
 simp only [Prod.mk.injEq, and_true, St.mk.injEq]
 omega
theorem shift_all (e : Env) (d : Nat) : ∀ (k : Nat),
  (∀ ts p c s s', thr k e ts p c s = some s' → s'.over = false → d ≤ s.tries → s.tries ≤ 3000 → thr k e ts p c (sh d s) = some (sh d s') ∧ s.tries ≤ s'.tries ∧ s'.tries ≤ 3000) ∧
  (∀ n t r p c s s', rep k e n t r p c s = some s' → s'.over = false → d ≤ s.tries → s.tries ≤ 3000 → rep k e n t r p c (sh d s) = some (sh d s') ∧ s.tries ≤ s'.tries ∧ s'.tries ≤ 3000) ∧
  (∀ l r p c s s', alts k e l r p c s = some s' → s'.over = false → d ≤ s.tries → s.tries ≤ 3000 → alts k e l r p c (sh d s) = some (sh d s') ∧ s.tries ≤ s'.tries ∧ s'.tries ≤ 3000)
 | 0 => ⟨fun _ _ _ _ _ h => by (rw [thr.eq_def] at h; cases h), fun _ _ _ _ _ _ _ h => by (rw [rep.eq_def] at h; cases h), fun _ _ _ _ _ _ h => by (rw [alts.eq_def] at h; cases h)⟩
 | k + 1 => by
  obtain ⟨h1, h2, h3⟩ := shift_all e d k
  refine ⟨fun ts p c s s' h hv hd ht => ?_, fun n t r p c s s' h hv hd ht => ?_, fun l r p c s s' h hv hd ht => ?_⟩
  ·have ho : ¬ s.over = true := fun ho => by
    have := (stays e (k + 1)).1 _ _ _ _ _ h ho
    rw [this, ho] at hv; cases hv
   have ho' : ¬ (sh d s).over = true := ho
   match ts, h with
   | [], h =>
    rw [thr_nil _ _ _ _ ho] at h; cases h
    rw [thr_nil _ _ _ _ ho', sh_come]
    have := (come_over e p c s).2
    exact ⟨rfl, by omega, by omega⟩
   | .grp n a :: r, h =>
    rw [thr_grp _ _ _ _ _ _ _ ho] at h
    rw [thr_grp _ _ _ _ _ _ _ ho']
    exact h1 _ _ _ _ _ h hv hd ht
   | .again n a t :: r, h =>
    rw [thr_again _ _ _ _ _ _ _ _ ho] at h
    rw [thr_again _ _ _ _ _ _ _ _ ho']
    split at h
    ·rename_i hc; rw [if_pos hc]; exact h2 _ _ _ _ _ _ _ h hv hd ht
    ·rename_i hc; rw [if_neg hc]; cases h; exact ⟨rfl, Nat.le_refl _, ht⟩
   | .node n :: r, h =>
    rcases kind_cases n.h.k with hk | hk | hk | hk | hk
    ·rw [thr_8 _ _ _ _ _ _ ho hk] at h
     rw [thr_8 _ _ _ _ _ _ ho' hk]
     exact h1 _ _ _ _ _ h hv hd ht
    ·rw [thr_9 _ _ _ _ _ _ ho hk] at h
     rw [thr_9 _ _ _ _ _ _ ho' hk]
     exact h3 _ _ _ _ _ _ h hv hd ht
    ·cases hl : n.l with
     | nil => rw [thr, if_neg ho, if_neg (by omega), if_neg (by omega), if_pos hk, hl] at h; cases h
     | cons y l =>
      rw [thr, if_neg ho, if_neg (by omega), if_neg (by omega), if_pos hk, hl] at h
      rw [thr, if_neg ho', if_neg (by omega), if_neg (by omega), if_pos hk, hl]
      exact h1 _ _ _ _ _ h hv hd ht
    ·rw [thr_10 _ _ _ _ _ _ ho hk] at h
     rw [thr_10 _ _ _ _ _ _ ho' hk]
     exact h2 _ _ _ _ _ _ _ h hv hd ht
    ·rw [thr_leaf _ _ _ _ _ _ ho hk] at h
     rw [thr_leaf _ _ _ _ _ _ ho' hk]
     unfold leafF at h ⊢
     rcases tryS_cases s with ⟨_, e1⟩ | ⟨hne, e1⟩
     ·rw [e1] at h; cases h; cases hv
     ·rw [e1] at h
      rw [sh_try hd ht hne]
      simp only [] at h ⊢
      split at h
      ·cases h; exact ⟨rfl, by simp only []; omega, by simp only []; omega⟩
      ·obtain ⟨r1, r2, r3⟩ := h1 _ _ _ _ _ h hv (by simp only []; omega) (by simp only []; omega)
       exact ⟨r1, by simp only [] at r2; omega, r3⟩
  ·have ho : ¬ s.over = true := fun ho => by
    rw [rep_over _ _ _ _ _ _ _ ho] at h; cases h; rw [ho] at hv; cases hv
   have ho' : ¬ (sh d s).over = true := ho
   rw [rep_go _ _ _ _ _ _ _ ho] at h
   rw [rep_go _ _ _ _ _ _ _ ho']
   rcases tryS_cases s with ⟨_, e1⟩ | ⟨hne, e1⟩
   ·rw [e1] at h; cases h; cases hv
   ·rw [e1] at h
    rw [sh_try hd ht hne]
    simp only [] at h ⊢
    unfold repF at h ⊢
    cases hl : n.l with
    | nil => rw [hl] at h; cases h
    | cons x l =>
     rw [hl] at h
     simp only [] at h ⊢
     rw [Option.bind_eq_some_iff] at h ⊢
     obtain ⟨s2, g1, g2⟩ := h
     have v2 : s2.over = false := by
      by_cases hc : n.h.mn ≤ t
      ·rw [if_pos hc] at g2
       cases h9 : s2.over with
       | false => rfl
       | true => have := (stays e k).1 _ _ _ _ _ g2 h9; rw [this, h9] at hv; cases hv
      ·rw [if_neg hc] at g2; cases g2; exact hv
     have i1 : (if n.h.mx < 0 ∨ (t : Int) < n.h.mx then thr k e (.node x :: .again n p (t + 1) :: r) p c (sh d { s with tries := s.tries + 1 }) else some (sh d { s with tries := s.tries + 1 })) = some (sh d s2) ∧ s.tries + 1 ≤ s2.tries ∧ s2.tries ≤ 3000 := by
      by_cases hc : n.h.mx < 0 ∨ (t : Int) < n.h.mx
      ·rw [if_pos hc] at g1 ⊢
       exact h1 _ _ _ _ _ g1 v2 (by simp only []; omega) (by simp only []; omega)
      ·rw [if_neg hc] at g1 ⊢; cases g1; exact ⟨rfl, Nat.le_refl _, by simp only []; omega⟩
     have i2 : (if n.h.mn ≤ t then thr k e r p c (sh d s2) else some (sh d s2)) = some (sh d s') ∧ s2.tries ≤ s'.tries ∧ s'.tries ≤ 3000 := by
      by_cases hc : n.h.mn ≤ t
      ·rw [if_pos hc] at g2 ⊢
       exact h1 _ _ _ _ _ g2 hv (by omega) i1.2.2
      ·rw [if_neg hc] at g2 ⊢; cases g2; exact ⟨rfl, Nat.le_refl _, i1.2.2⟩
     exact ⟨⟨_, i1.1, i2.1⟩, by omega, i2.2.2⟩
  ·match l, h with
   | [], h => rw [alts_nil] at h ⊢; cases h; exact ⟨rfl, Nat.le_refl _, ht⟩
   | x :: l', h =>
    have ho : ¬ s.over = true := fun ho => by
     rw [alts_over _ _ _ _ _ _ _ ho] at h; cases h; rw [ho] at hv; cases hv
    have ho' : ¬ (sh d s).over = true := ho
    rw [alts_go _ _ _ _ _ _ _ ho] at h
    rw [alts_go _ _ _ _ _ _ _ ho']
    rcases tryS_cases s with ⟨_, e1⟩ | ⟨hne, e1⟩
    ·rw [e1] at h; cases h; cases hv
    ·rw [e1] at h
     rw [sh_try hd ht hne]
     simp only [] at h ⊢
     rw [Option.bind_eq_some_iff] at h ⊢
     obtain ⟨s2, g1, g2⟩ := h
     have v2 : s2.over = false := by
      cases h9 : s2.over with
      | false => rfl
      | true => have := (stays e k).2 _ _ _ _ _ _ g2 h9; rw [this, h9] at hv; cases hv
     obtain ⟨r1, r2, r3⟩ := h1 _ _ _ _ _ g1 v2 (by simp only []; omega) (by simp only []; omega)
     simp only [] at r2
     obtain ⟨u1, u2, u3⟩ := h3 _ _ _ _ _ _ g2 hv (by omega) r3
     exact ⟨⟨_, r1, u1⟩, by omega, u3⟩
end Go.Proofs.Ytkidjbfapldmbaa
namespace Go.Proofs.Ytkidjbfapldmbaa
open P8
def BC (n : Nat) (s : St) : Prop := ∀ q c, s.best = some (q, c) → CapsOk n c
theorem BC.try {n : Nat} {s : St} (h : BC n s) : BC n (tryS s).1 := by
 unfold tryS
 split
 ·exact h
 ·exact h
theorem BC.come {e : Env} {s : St} {p : Nat} (h : BC e.L.length s) {c : Caps} (hc : CapsOk e.L.length c) (h1 : e.start ≤ p) (h2 : p ≤ e.L.length) : BC e.L.length (comeF e p c s) := by
 unfold comeF
 split
 ·split
  ·exact h
  ·intro q c hq; cases hq; exact hc.put h1 h2
 ·intro q c hq; cases hq; exact hc.put h1 h2
theorem caps_all (e : Env) : ∀ (k : Nat),
  (∀ ts q c s s', thr k e ts q c s = some s' → StOk e s → BC e.L.length s → e.start ≤ q → TksOk q s.tries ts → q ≤ e.L.length → CapsOk e.L.length c → BC e.L.length s') ∧
  (∀ n t r q c s s', rep k e n t r q c s = some s' → StOk e s → BC e.L.length s → e.start ≤ q → okT n → n.h.k = 10 → t ≤ s.tries → TksOk q s.tries r → q ≤ e.L.length → CapsOk e.L.length c → BC e.L.length s') ∧
  (∀ l r q c s s', alts k e l r q c s = some s' → StOk e s → BC e.L.length s → e.start ≤ q → okL l → TksOk q s.tries r → q ≤ e.L.length → CapsOk e.L.length c → BC e.L.length s')
 | 0 => ⟨fun _ _ _ _ _ h => by (rw [thr.eq_def] at h; cases h), fun _ _ _ _ _ _ _ h => by (rw [rep.eq_def] at h; cases h), fun _ _ _ _ _ _ h => by (rw [alts.eq_def] at h; cases h)⟩
 | k + 1 => by
  obtain ⟨h1, h2, h3⟩ := caps_all e k
  have hi := inv_all e k
  refine ⟨fun ts q c s s' h hs hb hst ht hq hc => ?_, fun n t r q c s s' h hs hb hst hn hk hts hr hq hc => ?_, fun l r q c s s' h hs hb hst hl hr hq hc => ?_⟩
  ·by_cases ho : s.over = true
   ·rw [thr_over _ _ _ _ _ ho] at h; cases h; exact hb
   match ts, h, ht with
   | [], h, _ => rw [thr_nil _ _ _ _ ho] at h; cases h; exact hb.come hc hst hq
   | .grp n a :: r, h, ht =>
    rw [thr_grp _ _ _ _ _ _ _ ho] at h
    exact h1 _ _ _ _ _ h hs hb hst ht.tail hq (hc.put ht.head.2.2 hq)
   | .again n a t :: r, h, ht =>
    rw [thr_again _ _ _ _ _ _ _ _ ho] at h
    split at h
    ·exact h2 _ _ _ _ _ _ _ h hs hb hst ht.head.1 ht.head.2.1 ht.head.2.2 ht.tail hq hc
    ·cases h; exact hb
   | .node n :: r, h, ht =>
    have hn : okT n := ht.head
    rcases kind_cases n.h.k with hk | hk | hk | hk | hk
    ·rw [thr_8 _ _ _ _ _ _ ho hk] at h
     exact h1 _ _ _ _ _ h hs hb hst (ht.tail.nodes (okT_kids hn)) hq hc
    ·rw [thr_9 _ _ _ _ _ _ ho hk] at h
     exact h3 _ _ _ _ _ _ h hs hb hst (okT_kids hn) ht.tail hq hc
    ·obtain ⟨x, hx, hox⟩ := kid_of hn (.inl hk)
     rw [thr_6 _ _ _ _ _ _ x ho hk hx] at h
     exact h1 _ _ _ _ _ h hs hb hst (TksOk.cons (show TkOk q s.tries (.node x) from hox) (TksOk.cons (show TkOk q s.tries (.grp n q) from ⟨hn, hk, Nat.le_refl _⟩) ht.tail)) hq hc
    ·rw [thr_10 _ _ _ _ _ _ ho hk] at h
     exact h2 _ _ _ _ _ _ _ h hs hb hst hn hk (Nat.zero_le _) ht.tail hq hc
    ·rw [thr_leaf _ _ _ _ _ _ ho hk] at h
     unfold leafF at h
     have hx := tryS_ok hs
     have hy := hb.try
     split at h
     ·rename_i s1 e1; rw [e1] at hy; cases h; exact hy
     ·rename_i s1 e1
      rw [e1] at hx hy
      simp only [] at hx hy
      split at h
      ·cases h; exact hy
      ·rename_i j hj
       have hle := fitsF_le hj hq hc
       exact h1 _ _ _ _ _ h hx.1 hy (by omega) (ht.tail.mono (Nat.le_add_right _ _) hx.2) hle hc
  ·by_cases ho : s.over = true
   ·rw [rep_over _ _ _ _ _ _ _ ho] at h; cases h; exact hb
   rw [rep_go _ _ _ _ _ _ _ ho] at h
   have hx := tryS_ok hs
   have hy := hb.try
   rcases tryS_cases s with ⟨_, e1⟩ | ⟨hne, e1⟩
   ·rw [e1] at h hy; cases h; exact hy
   ·rw [e1] at h hx hy
    simp only [] at h hx hy
    obtain ⟨x, hxl, hox⟩ := kid_of hn (.inr hk)
    simp only [repF, hxl] at h
    rw [Option.bind_eq_some_iff] at h
    obtain ⟨s2, g1, g2⟩ := h
    have hr1 : TksOk q (s.tries + 1) r := hr.mono (Nat.le_refl _) (by omega)
    have ht1 : TksOk q (s.tries + 1) (.node x :: .again n q (t + 1) :: r) := TksOk.cons (show TkOk q (s.tries + 1) (.node x) from hox) (TksOk.cons (show TkOk q (s.tries + 1) (.again n q (t + 1)) from ⟨hn, hk, by omega⟩) hr1)
    have i1 : (StOk e s2 ∧ s.tries + 1 ≤ s2.tries) ∧ BC e.L.length s2 := by
     split at g1
     ·exact ⟨hi.1 _ _ _ _ _ g1 hx.1 ht1 hq hc, h1 _ _ _ _ _ g1 hx.1 hy hst ht1 hq hc⟩
     ·cases g1; exact ⟨⟨hx.1, Nat.le_refl _⟩, hy⟩
    split at g2
    ·exact h1 _ _ _ _ _ g2 i1.1.1 i1.2 hst (hr.mono (Nat.le_refl _) (by omega)) hq hc
    ·cases g2; exact i1.2
  ·match l, h, hl with
   | [], h, _ => rw [alts_nil] at h; cases h; exact hb
   | x :: l', h, hl =>
    by_cases ho : s.over = true
    ·rw [alts_over _ _ _ _ _ _ _ ho] at h; cases h; exact hb
    rw [alts_go _ _ _ _ _ _ _ ho] at h
    rw [okL] at hl
    have hx := tryS_ok hs
    have hy := hb.try
    split at h
    ·rename_i s1 e1; rw [e1] at hy; cases h; exact hy
    ·rename_i s1 e1
     rw [e1] at hx hy
     simp only [] at hx hy
     rw [Option.bind_eq_some_iff] at h
     obtain ⟨s2, g1, g2⟩ := h
     have hr1 : TksOk q s1.tries r := hr.mono (Nat.le_refl _) hx.2
     have ht1 : TksOk q s1.tries (.node x :: r) := TksOk.cons (show TkOk q s1.tries (.node x) from hl.1) hr1
     have i1 := hi.1 _ _ _ _ _ g1 hx.1 ht1 hq hc
     exact h3 _ _ _ _ _ _ g2 i1.1 (h1 _ _ _ _ _ g1 hx.1 hy hst ht1 hq hc) hst hl.2 (hr1.mono (Nat.le_refl _) i1.2) hq hc
theorem find_again (L : List UInt8) (b : Bool) (n : Nd) (hn : okT n) (k : Nat) : ∀ (m a : Nat) (s x : St), findS k L b n m a s = some x → s.best = none → s.tries ≤ 3000 → a + m = L.length + 1 → x.over = false →
  ∀ q c, x.best = some (q, c) → CapsOk L.length c ∧ ∃ st : Nat, c 0 = some (st, q) ∧ a ≤ st ∧ st ≤ L.length ∧ ∃ x', findS k L b n (L.length + 1 - st) st ⟨0, false, none⟩ = some x' ∧ x'.over = false ∧ x'.best = some (q, c)
 | 0, a, s, x, h, hb, _, _, _ => by rw [findS] at h; cases h; intro q c hq; rw [hb] at hq; cases hq
 | m + 1, a, s, x, h, hb, ht, hm, hv => by
  rw [findS, if_neg (by rw [hb]; simp), Option.bind_eq_some_iff] at h
  obtain ⟨s1, g1, g2⟩ := h
  have hs : StOk ⟨L, b, a⟩ s := ⟨ht, fun q c hq => by rw [hb] at hq; cases hq⟩
  have i1 := (inv_all ⟨L, b, a⟩ k).1 _ _ _ _ _ g1 hs (one_ok hn _ _) (by simp only []; omega) (noC_ok _)
  have i2 := (caps_all ⟨L, b, a⟩ k).1 _ _ _ _ _ g1 hs (fun q c hq => by rw [hb] at hq; cases hq) (Nat.le_refl _) (one_ok hn _ _) (by simp only []; omega) (noC_ok _)
  have so : s1.over = false := by
   cases h9 : s1.over with
   | false => rfl
   | true => rw [if_pos h9] at g2; cases g2; rw [h9] at hv; cases hv
  rw [if_neg (by rw [so]; simp)] at g2
  cases hb1 : s1.best with
  | none =>
   intro q c hq
   obtain ⟨r0, st, r1, r2, r3, r4⟩ := find_again L b n hn k m (a + 1) s1 x g2 hb1 i1.1.tries (by omega) hv q c hq
   exact ⟨r0, st, r1, by omega, r3, r4⟩
  | some o =>
   have hx : x = s1 := by
    cases m with
    | zero => rw [findS] at g2; cases g2; rfl
    | succ m => rw [findS, if_pos (by rw [hb1]; rfl)] at g2; cases g2; rfl
   subst hx
   intro q c hq
   have s0 : s.over = false := by
    cases h9 : s.over with
    | false => rfl
    | true => have := (stays ⟨L, b, a⟩ k).1 _ _ _ _ _ g1 h9; rw [this, h9] at hv; cases hv
   have sf := ((shift_all ⟨L, b, a⟩ s.tries k).1 _ _ _ _ _ g1 hv (Nat.le_refl _) ht).1
   rw [show sh s.tries s = ⟨0, false, none⟩ by unfold sh; rw [s0, hb, Nat.sub_self]] at sf
   refine ⟨i2 q c hq, a, (i1.1.best q c hq).2, Nat.le_refl _, by omega, sh s.tries x, ?_, hv, hq⟩
   rw [show L.length + 1 - a = m + 1 by omega, findS, if_neg (by simp), Option.bind_eq_some_iff]
   refine ⟨_, sf, ?_⟩
   rw [if_neg (by rw [sh_over, hv]; simp)]
   cases m with
   | zero => rw [findS]
   | succ m => rw [findS, if_pos (by show x.best.isSome = true; rw [hb1]; rfl)]
end Go.Proofs.Ytkidjbfapldmbaa
