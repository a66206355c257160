/- What is found has at least as many bytes as the fewest that the tree can find. -/
import Derived.Test.YtkidjbfapldmbaaFndS
namespace Go.Proofs.Ytkidjbfapldmbaa
set_option linter.unusedVariables false
set_option linter.unusedSimpArgs false
open P8

def moreW (n : Nd) (t : Nat) : Int := if (t : Int) < n.h.mn then (n.h.mn - t) * leastF n.l else 0
def lowW : Tk → Int
  | .node n => least n
  | .grp _ _ => 0
  | .again n _ t => moreW n t
def lows : List Tk → Int
  | [] => 0
  | t :: r => lowW t + lows r
def LB (e : Env) (M : Int) (s : St) : Prop := ∀ q c, s.best = some (q, c) → (e.start : Int) + M ≤ q
theorem often_le {k n : Int} (h0 : 0 ≤ k) : often k n ≤ if 0 < n then n * k else 0 := by
  unfold often
  by_cases h : k = 0 ∨ n < 1
  · rw [if_pos h]
    split
    · exact Int.mul_nonneg (by omega) h0
    · omega
  · rw [if_neg h, if_pos (show 0 < n by omega)]
    split
    · rename_i h1
      have hk : 0 < k := by omega
      have h2 : mostLeast / k < n := h1
      have h3 := (Int.ediv_lt_iff_lt_mul hk).1 h2
      omega
    · rw [Int.mul_comm]; omega
theorem leastS_le : ∀ (l : List Nd) (k : Int) (r : List Tk), leastS l k + lows r ≤ k + lows (l.map .node ++ r)
  | [], k, r => by rw [leastS]; simp
  | x :: l, k, r => by
    rw [leastS]
    have h1 := leastS_le l (min mostLeast (k + least x)) r
    simp only [List.map_cons, List.cons_append, lows, lowW]
    omega
theorem leastA_le : ∀ (l : List Nd) (k : Int), leastA l k ≤ k ∧ ∀ x ∈ l, leastA l k ≤ least x
  | [], k => by rw [leastA]; exact ⟨Int.le_refl _, fun _ h => by cases h⟩
  | y :: l, k => by
    rw [leastA]
    have h1 := leastA_le l (min k (least y))
    refine ⟨by omega, fun x hx => ?_⟩
    rcases List.mem_cons.1 hx with rfl | hx
    · omega
    · exact h1.2 x hx
theorem more_pos (n : Nd) (t : Nat) : 0 ≤ moreW n t := by
  unfold moreW
  split
  · exact Int.mul_nonneg (by omega) (leastF_range _).1
  · omega
theorem more_step (n : Nd) (t : Nat) : moreW n t ≤ leastF n.l + moreW n (t + 1) := by
  have h0 := (leastF_range n.l).1
  unfold moreW
  by_cases h : (t : Int) < n.h.mn
  · rw [if_pos h]
    by_cases h1 : ((t + 1 : Nat) : Int) < n.h.mn
    · rw [if_pos h1]
      have : (n.h.mn - t) * leastF n.l = leastF n.l + (n.h.mn - ((t + 1 : Nat) : Int)) * leastF n.l := by
        rw [show n.h.mn - (t : Int) = 1 + (n.h.mn - ((t + 1 : Nat) : Int)) by omega, Int.add_mul, Int.one_mul]
      omega
    · rw [if_neg h1, show n.h.mn - (t : Int) = 1 by omega]
      omega
  · rw [if_neg h]
    split
    · omega
    · omega
theorem least_8 {n : Nd} (hk : n.h.k = 8) : least n = leastS n.l 0 := by
  cases n with | mk h l => rw [least]; simp only [Nd.h] at hk; rw [if_neg (by omega), if_neg (by omega), if_pos hk]; rfl
theorem least_9 {n : Nd} (hk : n.h.k = 9) : ∀ x ∈ n.l, least n ≤ least x := by
  cases n with | mk h l =>
  simp only [Nd.h] at hk
  intro x hx
  rw [least, if_neg (by omega), if_neg (by omega), if_neg (by omega), if_pos hk]
  split
  · exact (least_range x).1
  · exact (leastA_le l _).2 x hx
theorem least_6 {n : Nd} (hk : n.h.k = 6) : least n = leastF n.l := by
  cases n with | mk h l => rw [least]; simp only [Nd.h] at hk; rw [if_neg (by omega), if_pos (by omega), if_neg (by omega)]; rfl
theorem least_10 {n : Nd} (hk : n.h.k = 10) : least n ≤ moreW n 0 := by
  cases n with | mk h l =>
  simp only [Nd.h] at hk
  rw [least, if_neg (by omega), if_pos (by omega), if_pos hk]
  have := often_le (k := leastF l) (n := h.mn) (leastF_range l).1
  unfold moreW
  simp only [Nd.h, Nd.l]
  simpa using this
theorem least_leaf {n : Nd} (hk : leafK n.h.k) : least n = if n.h.k = 1 ∨ n.h.k = 2 ∨ n.h.k = 3 then 1 else 0 := by
  cases n with | mk h l =>
  unfold leafK at hk
  simp only [Nd.h] at hk
  show least (.mk h l) = if h.k = 1 ∨ h.k = 2 ∨ h.k = 3 then (1 : Int) else 0
  rw [least]
  split
  · rfl
  · rw [if_neg (by omega), if_neg (by omega), if_neg (by omega)]
theorem fits_least {e : Env} {n : Nd} {p j : Nat} {c : Caps} (hk : leafK n.h.k) (h : fitsF e n.h p c = some j) : least n ≤ j := by
  rw [least_leaf hk]
  by_cases h1 : n.h.k = 1 ∨ n.h.k = 2 ∨ n.h.k = 3
  · rw [if_pos h1]
    unfold fitsF at h
    rcases h1 with h1 | h1 | h1
    · rw [if_pos h1] at h
      split at h
      · split at h
        · cases h; decide
        · cases h
      · cases h
    · rw [if_neg (by omega), if_pos h1] at h
      split at h
      · cases h; decide
      · cases h
    · rw [if_neg (by omega), if_neg (by omega), if_pos h1] at h
      split at h
      · split at h
        · cases h; decide
        · cases h
      · cases h
  · rw [if_neg h1]; omega
theorem LB.try {e : Env} {M : Int} {s : St} (h : LB e M s) : LB e M (tryS s).1 := by
  unfold tryS
  split
  · exact h
  · exact h
theorem LB.come {e : Env} {M : Int} {s : St} {p : Nat} (h : LB e M s) (c : Caps) (hp : (e.start : Int) + M ≤ p) : LB e M (comeF e p c s) := by
  unfold comeF
  split
  · split
    · exact h
    · intro q c hq; cases hq; exact hp
  · intro q c hq; cases hq; exact hp
theorem low_all (e : Env) (M : Int) : ∀ (k : Nat),
    (∀ ts p c s s', thr k e ts p c s = some s' → LB e M s → (∀ t ∈ ts, okTk t) → (e.start : Int) + M ≤ p + lows ts → LB e M s') ∧
    (∀ n t r p c s s', rep k e n t r p c s = some s' → LB e M s → okT n → n.h.k = 10 → (∀ t ∈ r, okTk t) → (e.start : Int) + M ≤ p + moreW n t + lows r → LB e M s') ∧
    (∀ l r p c s s', alts k e l r p c s = some s' → LB e M s → okL l → (∀ t ∈ r, okTk t) → (∀ x ∈ l, (e.start : Int) + M ≤ p + least x + lows r) → LB e M s')
  | 0 => ⟨fun _ _ _ _ _ h => by (rw [thr.eq_def] at h; cases h), fun _ _ _ _ _ _ _ h => by (rw [rep.eq_def] at h; cases h), fun _ _ _ _ _ _ h => by (rw [alts.eq_def] at h; cases h)⟩
  | k + 1 => by
    obtain ⟨h1, h2, h3⟩ := low_all e M k
    refine ⟨fun ts p c s s' h hs ht hp => ?_, fun n t r p c s s' h hs hn hk hr hp => ?_, fun l r p c s s' h hs hl hr hp => ?_⟩
    · by_cases ho : s.over = true
      · rw [thr_over _ _ _ _ _ ho] at h; cases h; exact hs
      match ts, h, ht, hp with
      | [], h, _, hp => rw [thr_nil _ _ _ _ ho] at h; cases h; exact hs.come c (by simpa [lows] using hp)
      | .grp n a :: r, h, ht, hp =>
        rw [thr_grp _ _ _ _ _ _ _ ho] at h
        exact h1 _ _ _ _ _ h hs (fun u hu => ht u (List.mem_cons_of_mem _ hu)) (by simpa [lows, lowW] using hp)
      | .again n a t :: r, h, ht, hp =>
        rw [thr_again _ _ _ _ _ _ _ _ ho] at h
        have ht0 : okT n ∧ n.h.k = 10 := ht _ (List.mem_cons_self ..)
        simp only [lows, lowW] at hp
        split at h
        · exact h2 _ _ _ _ _ _ _ h hs ht0.1 ht0.2 (fun u hu => ht u (List.mem_cons_of_mem _ hu)) (by omega)
        · cases h; exact hs
      | .node n :: r, h, ht, hp =>
        have hn : okT n := ht _ (List.mem_cons_self ..)
        have hr : ∀ t ∈ r, okTk t := fun u hu => ht u (List.mem_cons_of_mem _ hu)
        simp only [lows, lowW] at hp
        rcases kind_cases n.h.k with hk | hk | hk | hk | hk
        · rw [thr_8 _ _ _ _ _ _ ho hk] at h
          refine h1 _ _ _ _ _ h hs (fun u hu => ?_) ?_
          · rcases List.mem_append.1 hu with hu | hu
            · obtain ⟨x, hx, rfl⟩ := List.mem_map.1 hu
              exact okL_mem (okT_kids hn) x hx
            · exact hr u hu
          · have := leastS_le n.l 0 r
            rw [least_8 hk] at hp
            omega
        · rw [thr_9 _ _ _ _ _ _ ho hk] at h
          exact h3 _ _ _ _ _ _ h hs (okT_kids hn) hr (fun x hx => by have := least_9 hk x hx; omega)
        · obtain ⟨x, hx, hox⟩ := kid_of hn (.inl hk)
          rw [thr_6 _ _ _ _ _ _ x ho hk hx] at h
          have e1 := least_6 hk
          rw [hx, leastF] at e1
          refine h1 _ _ _ _ _ h hs (ok_cons (show okTk (.node x) from hox) (ok_cons (show okTk (.grp n p) from ⟨hn, hk⟩) hr)) ?_
          simp only [lows, lowW]
          omega
        · rw [thr_10 _ _ _ _ _ _ ho hk] at h
          exact h2 _ _ _ _ _ _ _ h hs hn hk hr (by have := least_10 hk; omega)
        · rw [thr_leaf _ _ _ _ _ _ ho hk] at h
          unfold leafF at h
          have hx := hs.try
          split at h
          · rename_i s1 e1; rw [e1] at hx; cases h; exact hx
          · rename_i s1 e1
            rw [e1] at hx
            split at h
            · cases h; exact hx
            · rename_i j hj
              have := fits_least hk hj
              exact h1 _ _ _ _ _ h hx hr (by omega)
    · by_cases ho : s.over = true
      · rw [rep_over _ _ _ _ _ _ _ ho] at h; cases h; exact hs
      rw [rep_go _ _ _ _ _ _ _ ho] at h
      have hx := hs.try
      rcases tryS_cases s with ⟨_, e1⟩ | ⟨hne, e1⟩
      · rw [e1] at h hx; cases h; exact hx
      · rw [e1] at h hx
        simp only [] at h hx
        obtain ⟨x, hxl, hox⟩ := kid_of hn (.inr hk)
        simp only [repF, hxl] at h
        rw [Option.bind_eq_some_iff] at h
        obtain ⟨s2, g1, g2⟩ := h
        have ms := more_step n t
        rw [hxl, leastF] at ms
        have i1 : LB e M s2 := by
          split at g1
          · refine h1 _ _ _ _ _ g1 hx (ok_cons (show okTk (.node x) from hox) (ok_cons (show okTk (.again n p (t + 1)) from ⟨hn, hk⟩) hr)) ?_
            simp only [lows, lowW]
            omega
          · cases g1; exact hx
        split at g2
        · rename_i hmn
          have e0 : moreW n t = 0 := by unfold moreW; rw [if_neg (by omega)]
          exact h1 _ _ _ _ _ g2 i1 hr (by omega)
        · cases g2; exact i1
    · match l, h, hl, hp with
      | [], h, _, _ => rw [alts_nil] at h; cases h; exact hs
      | x :: l', h, hl, hp =>
        by_cases ho : s.over = true
        · rw [alts_over _ _ _ _ _ _ _ ho] at h; cases h; exact hs
        rw [alts_go _ _ _ _ _ _ _ ho] at h
        rw [okL] at hl
        have hx := hs.try
        split at h
        · rename_i s1 e1; rw [e1] at hx; cases h; exact hx
        · rename_i s1 e1
          rw [e1] at hx
          rw [Option.bind_eq_some_iff] at h
          obtain ⟨s2, g1, g2⟩ := h
          have i1 := h1 _ _ _ _ _ g1 hx (ok_cons (show okTk (.node x) from hl.1) hr) (by have := hp x (List.mem_cons_self ..); simp only [lows, lowW]; omega)
          exact h3 _ _ _ _ _ _ g2 i1 hl.2 hr (fun y hy => hp y (List.mem_cons_of_mem _ hy))
/-- What is found. -/
theorem find_low (L : List UInt8) (b : Bool) (n : Nd) (hn : okT n) (k : Nat) : ∀ (m a : Nat) (s x : St), findS k L b n m a s = some x → s.best = none → s.tries ≤ 3000 → a + m ≤ L.length + 1 →
    ∀ q c, x.best = some (q, c) → ∃ st : Nat, c 0 = some (st, q) ∧ (st : Int) + least n ≤ q ∧ q ≤ L.length ∧ a ≤ st
  | 0, a, s, x, h, hb, _, _ => by rw [findS] at h; cases h; intro q c hq; rw [hb] at hq; cases hq
  | m + 1, a, s, x, h, hb, ht, hm => by
    rw [findS, if_neg (by rw [hb]; simp), Option.bind_eq_some_iff] at h
    obtain ⟨s1, g1, g2⟩ := h
    have hs : StOk ⟨L, b, a⟩ s := ⟨ht, fun q c hq => by rw [hb] at hq; cases hq⟩
    have i1 := (inv_all ⟨L, b, a⟩ k).1 _ _ _ _ _ g1 hs (one_ok hn _ _) (by simp only []; omega) (noC_ok _)
    have i2 := (low_all ⟨L, b, a⟩ (least n) k).1 _ _ _ _ _ g1 (fun q c hq => by rw [hb] at hq; cases hq) (fun t ht => by
      rcases List.mem_cons.1 ht with rfl | ht
      · exact hn
      · cases ht) (by simp only [lows, lowW]; omega)
    have res : ∀ q c, s1.best = some (q, c) → ∃ st : Nat, c 0 = some (st, q) ∧ (st : Int) + least n ≤ q ∧ q ≤ L.length ∧ a ≤ st := fun q c hq =>
      ⟨a, (i1.1.best q c hq).2, i2 q c hq, (i1.1.best q c hq).1, Nat.le_refl _⟩
    split at g2
    · cases g2; exact res
    · cases hb1 : s1.best with
      | none =>
        intro q c hq
        obtain ⟨st, r1, r2, r3, r4⟩ := find_low L b n hn k m (a + 1) s1 x g2 hb1 i1.1.tries (by omega) q c hq
        exact ⟨st, r1, r2, r3, by omega⟩
      | some o =>
        cases m with
        | zero => rw [findS] at g2; cases g2; exact res
        | succ m => rw [findS, if_pos (by rw [hb1]; rfl)] at g2; cases g2; exact res

end Go.Proofs.Ytkidjbfapldmbaa
