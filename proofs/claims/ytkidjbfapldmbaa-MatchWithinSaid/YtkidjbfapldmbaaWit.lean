/- What is found lies in the text; from its own beginning on the same is found. -/
import Derived.Test.YtkidjbfapldmbaaLst
import Derived.Test.YtkidjbfapldmbaaShf
namespace Go.Proofs.Ytkidjbfapldmbaa
set_option linter.unusedVariables false
set_option linter.unusedSimpArgs false
open P8

def BC (n : Nat) (s : St) : Prop := ∀ q c, s.best = some (q, c) → CapsOk n c
theorem BC.try {n : Nat} {s : St} (h : BC n s) : BC n (tryS s).1 := by
  unfold tryS
  split
  · exact h
  · exact h
theorem BC.come {e : Env} {s : St} {p : Nat} (h : BC e.L.length s) {c : Caps} (hc : CapsOk e.L.length c) (h1 : e.start ≤ p) (h2 : p ≤ e.L.length) : BC e.L.length (comeF e p c s) := by
  unfold comeF
  split
  · split
    · exact h
    · intro q c hq; cases hq; exact hc.put h1 h2
  · intro q c hq; cases hq; exact hc.put h1 h2
theorem caps_all (e : Env) : ∀ (k : Nat),
    (∀ ts q c s s', thr k e ts q c s = some s' → StOk e s → BC e.L.length s → e.start ≤ q → TksOk q s.tries ts → q ≤ e.L.length → CapsOk e.L.length c → BC e.L.length s') ∧
    (∀ n t r q c s s', rep k e n t r q c s = some s' → StOk e s → BC e.L.length s → e.start ≤ q → okT n → n.h.k = 10 → t ≤ s.tries → TksOk q s.tries r → q ≤ e.L.length → CapsOk e.L.length c → BC e.L.length s') ∧
    (∀ l r q c s s', alts k e l r q c s = some s' → StOk e s → BC e.L.length s → e.start ≤ q → okL l → TksOk q s.tries r → q ≤ e.L.length → CapsOk e.L.length c → BC e.L.length s')
  | 0 => ⟨fun _ _ _ _ _ h => by (rw [thr.eq_def] at h; cases h), fun _ _ _ _ _ _ _ h => by (rw [rep.eq_def] at h; cases h), fun _ _ _ _ _ _ h => by (rw [alts.eq_def] at h; cases h)⟩
  | k + 1 => by
    obtain ⟨h1, h2, h3⟩ := caps_all e k
    have hi := inv_all e k
    refine ⟨fun ts q c s s' h hs hb hst ht hq hc => ?_, fun n t r q c s s' h hs hb hst hn hk hts hr hq hc => ?_, fun l r q c s s' h hs hb hst hl hr hq hc => ?_⟩
    · by_cases ho : s.over = true
      · rw [thr_over _ _ _ _ _ ho] at h; cases h; exact hb
      match ts, h, ht with
      | [], h, _ => rw [thr_nil _ _ _ _ ho] at h; cases h; exact hb.come hc hst hq
      | .grp n a :: r, h, ht =>
        rw [thr_grp _ _ _ _ _ _ _ ho] at h
        exact h1 _ _ _ _ _ h hs hb hst ht.tail hq (hc.put ht.head.2.2 hq)
      | .again n a t :: r, h, ht =>
        rw [thr_again _ _ _ _ _ _ _ _ ho] at h
        split at h
        · exact h2 _ _ _ _ _ _ _ h hs hb hst ht.head.1 ht.head.2.1 ht.head.2.2 ht.tail hq hc
        · cases h; exact hb
      | .node n :: r, h, ht =>
        have hn : okT n := ht.head
        rcases kind_cases n.h.k with hk | hk | hk | hk | hk
        · rw [thr_8 _ _ _ _ _ _ ho hk] at h
          exact h1 _ _ _ _ _ h hs hb hst (ht.tail.nodes (okT_kids hn)) hq hc
        · rw [thr_9 _ _ _ _ _ _ ho hk] at h
          exact h3 _ _ _ _ _ _ h hs hb hst (okT_kids hn) ht.tail hq hc
        · obtain ⟨x, hx, hox⟩ := kid_of hn (.inl hk)
          rw [thr_6 _ _ _ _ _ _ x ho hk hx] at h
          exact h1 _ _ _ _ _ h hs hb hst (TksOk.cons (show TkOk q s.tries (.node x) from hox) (TksOk.cons (show TkOk q s.tries (.grp n q) from ⟨hn, hk, Nat.le_refl _⟩) ht.tail)) hq hc
        · rw [thr_10 _ _ _ _ _ _ ho hk] at h
          exact h2 _ _ _ _ _ _ _ h hs hb hst hn hk (Nat.zero_le _) ht.tail hq hc
        · rw [thr_leaf _ _ _ _ _ _ ho hk] at h
          unfold leafF at h
          have hx := tryS_ok hs
          have hy := hb.try
          split at h
          · rename_i s1 e1; rw [e1] at hy; cases h; exact hy
          · rename_i s1 e1
            rw [e1] at hx hy
            simp only [] at hx hy
            split at h
            · cases h; exact hy
            · rename_i j hj
              have hle := fitsF_le hj hq hc
              exact h1 _ _ _ _ _ h hx.1 hy (by omega) (ht.tail.mono (Nat.le_add_right _ _) hx.2) hle hc
    · by_cases ho : s.over = true
      · rw [rep_over _ _ _ _ _ _ _ ho] at h; cases h; exact hb
      rw [rep_go _ _ _ _ _ _ _ ho] at h
      have hx := tryS_ok hs
      have hy := hb.try
      rcases tryS_cases s with ⟨_, e1⟩ | ⟨hne, e1⟩
      · rw [e1] at h hy; cases h; exact hy
      · rw [e1] at h hx hy
        simp only [] at h hx hy
        obtain ⟨x, hxl, hox⟩ := kid_of hn (.inr hk)
        simp only [repF, hxl] at h
        rw [Option.bind_eq_some_iff] at h
        obtain ⟨s2, g1, g2⟩ := h
        have hr1 : TksOk q (s.tries + 1) r := hr.mono (Nat.le_refl _) (by omega)
        have ht1 : TksOk q (s.tries + 1) (.node x :: .again n q (t + 1) :: r) := TksOk.cons (show TkOk q (s.tries + 1) (.node x) from hox) (TksOk.cons (show TkOk q (s.tries + 1) (.again n q (t + 1)) from ⟨hn, hk, by omega⟩) hr1)
        have i1 : (StOk e s2 ∧ s.tries + 1 ≤ s2.tries) ∧ BC e.L.length s2 := by
          split at g1
          · exact ⟨hi.1 _ _ _ _ _ g1 hx.1 ht1 hq hc, h1 _ _ _ _ _ g1 hx.1 hy hst ht1 hq hc⟩
          · cases g1; exact ⟨⟨hx.1, Nat.le_refl _⟩, hy⟩
        split at g2
        · exact h1 _ _ _ _ _ g2 i1.1.1 i1.2 hst (hr.mono (Nat.le_refl _) (by omega)) hq hc
        · cases g2; exact i1.2
    · match l, h, hl with
      | [], h, _ => rw [alts_nil] at h; cases h; exact hb
      | x :: l', h, hl =>
        by_cases ho : s.over = true
        · rw [alts_over _ _ _ _ _ _ _ ho] at h; cases h; exact hb
        rw [alts_go _ _ _ _ _ _ _ ho] at h
        rw [okL] at hl
        have hx := tryS_ok hs
        have hy := hb.try
        split at h
        · rename_i s1 e1; rw [e1] at hy; cases h; exact hy
        · rename_i s1 e1
          rw [e1] at hx hy
          simp only [] at hx hy
          rw [Option.bind_eq_some_iff] at h
          obtain ⟨s2, g1, g2⟩ := h
          have hr1 : TksOk q s1.tries r := hr.mono (Nat.le_refl _) hx.2
          have ht1 : TksOk q s1.tries (.node x :: r) := TksOk.cons (show TkOk q s1.tries (.node x) from hl.1) hr1
          have i1 := hi.1 _ _ _ _ _ g1 hx.1 ht1 hq hc
          exact h3 _ _ _ _ _ _ g2 i1.1 (h1 _ _ _ _ _ g1 hx.1 hy hst ht1 hq hc) hst hl.2 (hr1.mono (Nat.le_refl _) i1.2) hq hc
/-- What is found lies in the text, and is found again from its own beginning on. -/
theorem find_again (L : List UInt8) (b : Bool) (n : Nd) (hn : okT n) (k : Nat) : ∀ (m a : Nat) (s x : St), findS k L b n m a s = some x → s.best = none → s.tries ≤ 3000 → a + m = L.length + 1 → x.over = false →
    ∀ q c, x.best = some (q, c) → CapsOk L.length c ∧ ∃ st : Nat, c 0 = some (st, q) ∧ a ≤ st ∧ st ≤ L.length ∧ ∃ x', findS k L b n (L.length + 1 - st) st ⟨0, false, none⟩ = some x' ∧ x'.over = false ∧ x'.best = some (q, c)
  | 0, a, s, x, h, hb, _, _, _ => by rw [findS] at h; cases h; intro q c hq; rw [hb] at hq; cases hq
  | m + 1, a, s, x, h, hb, ht, hm, hv => by
    rw [findS, if_neg (by rw [hb]; simp), Option.bind_eq_some_iff] at h
    obtain ⟨s1, g1, g2⟩ := h
    have hs : StOk ⟨L, b, a⟩ s := ⟨ht, fun q c hq => by rw [hb] at hq; cases hq⟩
    have i1 := (inv_all ⟨L, b, a⟩ k).1 _ _ _ _ _ g1 hs (one_ok hn _ _) (by simp only []; omega) (noC_ok _)
    have i2 := (caps_all ⟨L, b, a⟩ k).1 _ _ _ _ _ g1 hs (fun q c hq => by rw [hb] at hq; cases hq) (Nat.le_refl _) (one_ok hn _ _) (by simp only []; omega) (noC_ok _)
    have so : s1.over = false := by
      cases h9 : s1.over with
      | false => rfl
      | true => rw [if_pos h9] at g2; cases g2; rw [h9] at hv; cases hv
    rw [if_neg (by rw [so]; simp)] at g2
    cases hb1 : s1.best with
    | none =>
      intro q c hq
      obtain ⟨r0, st, r1, r2, r3, r4⟩ := find_again L b n hn k m (a + 1) s1 x g2 hb1 i1.1.tries (by omega) hv q c hq
      exact ⟨r0, st, r1, by omega, r3, r4⟩
    | some o =>
      have hx : x = s1 := by
        cases m with
        | zero => rw [findS] at g2; cases g2; rfl
        | succ m => rw [findS, if_pos (by rw [hb1]; rfl)] at g2; cases g2; rfl
      subst hx
      intro q c hq
      have s0 : s.over = false := by
        cases h9 : s.over with
        | false => rfl
        | true => have := (stays ⟨L, b, a⟩ k).1 _ _ _ _ _ g1 h9; rw [this, h9] at hv; cases hv
      have sf := ((shift_all ⟨L, b, a⟩ s.tries k).1 _ _ _ _ _ g1 hv (Nat.le_refl _) ht).1
      rw [show sh s.tries s = ⟨0, false, none⟩ by unfold sh; rw [s0, hb, Nat.sub_self]] at sf
      refine ⟨i2 q c hq, a, (i1.1.best q c hq).2, Nat.le_refl _, by omega, sh s.tries x, ?_, hv, hq⟩
      rw [show L.length + 1 - a = m + 1 by omega, findS, if_neg (by simp), Option.bind_eq_some_iff]
      refine ⟨_, sf, ?_⟩
      rw [if_neg (by rw [sh_over, hv]; simp)]
      cases m with
      | zero => rw [findS]
      | succ m => rw [findS, if_pos (by show x.best.isSome = true; rw [hb1]; rfl)]

end Go.Proofs.Ytkidjbfapldmbaa
