import Derived.Test.YtkidjbfapldmbaaZFormed
import Derived.Laws.FloatArith
import Derived.Laws.Externs
set_option linter.unusedVariables false
set_option linter.unusedSimpArgs false
namespace Go.Proofs.Ytkidjbfapldmbaa
open P8
def okH (h : Hd) (n : Nat) : Prop := 1 ≤ h.k ∧ h.k ≤ 10 ∧ (h.k = 6 → n = 1 ∧ 1 ≤ h.n ∧ h.n ≤ 9) ∧ (h.k = 7 → 1 ≤ h.n ∧ h.n ≤ 9) ∧ (h.k = 10 → n = 1 ∧ 0 ≤ h.mn ∧ h.mn ≤ 255 ∧ -1 ≤ h.mx ∧ h.mx ≤ 255) ∧ (h.k ≠ 6 → h.k ≠ 8 → h.k ≠ 9 → h.k ≠ 10 → n = 0)
mutual
def okT : Nd → Prop
 | .mk h l => okH h l.length ∧ okL l
def okL : List Nd → Prop
 | [] => True
 | x :: r => okT x ∧ okL r
end
theorem okT_head {T : Nd} (h : okT T) : okH T.h T.l.length := by cases T; rw [okT] at h; exact h.1
theorem okT_kids {T : Nd} (h : okT T) : okL T.l := by cases T; rw [okT] at h; exact h.2
theorem okL_mem : ∀ {l : List Nd}, okL l → ∀ x ∈ l, okT x
 | [], _, x, hx => by cases hx
 | y :: r, h, x, hx => by
  rw [okL] at h
  rcases List.mem_cons.1 hx with rfl | hx
  ·exact h.1
  ·exact okL_mem h.2 x hx
theorem own_okH {T : Nd} {s : Chk} (hg : 0 ≤ s.g) (h : own T s = true) : okH T.h T.l.length := by
 unfold own at h
 rw [Bool.and_eq_true] at h
 obtain ⟨h1, h2⟩ := h
 unfold headOk at h1
 have h1 := of_decide_eq_true h1
 obtain ⟨a1, a2, _, a4⟩ := h1
 refine ⟨a1, a2, fun k => ?_, fun k => ?_, fun k => ?_, fun b1 b2 b3 b4 => ?_⟩
 ·rw [if_pos k] at h2
  have h2 := of_decide_eq_true h2
  rw [k] at a4
  simp only [kidsOf, if_true] at a4
  omega
 ·rw [if_neg (by omega), if_pos k, Bool.and_eq_true] at h2
  have h2 := of_decide_eq_true h2.1
  omega
 ·rw [if_neg (by omega), if_neg (by omega), if_neg (by omega), if_neg (by omega), if_pos k, Bool.and_eq_true] at h2
  have h2 := h2.1
  unfold boundsOk at h2
  have h2 := of_decide_eq_true h2
  rw [k] at a4
  simp [kidsOf] at a4
  omega
 ·rw [kidsOf, if_neg b1, if_neg b2, if_neg b3, if_neg b4] at a4
  omega
mutual
theorem allT_okT : ∀ (T : Nd) (s : Chk), 0 ≤ s.g → (allT T s).1 = true → okT T
 | .mk h l, s, hg, ha => by
  rw [allT] at ha
  split at ha
  ·cases ha
  ·rename_i ho
   have ho : own (.mk h l) s = true := by simpa using ho
   rw [okT]
   refine ⟨own_okH hg ho, ?_⟩
   have hg2 := (ownS_g (.mk h l) s).1
   split at ha
   ·cases ha
   ·rename_i s' e
    exact allL_okL h.k l (ownS (.mk h l) s) (by omega) (by rw [e])
theorem allL_okL : ∀ (k : Int) (l : List Nd) (s : Chk), 0 ≤ s.g → (allL k l s).1 = true → okL l
 | k, [], s, _, _ => by rw [okL]; trivial
 | k, x :: r, s, hg, ha => by
  rw [allL] at ha
  split at ha
  ·cases ha
  ·split at ha
   ·cases ha
   ·rename_i s' e
    rw [okL]
    have h1 := (allT_g x s).1
    rw [e] at h1
    exact ⟨allT_okT x s hg (by rw [e]), allL_okL k r s' (by simp only [] at h1; omega) ha⟩
end
theorem formed_ok {T : Nd} (h : formedT T = true) : okT T := by
 unfold formedT at h
 rw [Bool.and_eq_true, Bool.and_eq_true] at h
 exact allT_okT T _ (Int.le_refl _) h.2.2
abbrev Caps := Nat → Option (Nat × Nat)
inductive Tk where
 | node (n : Nd)
 | grp (n : Nd) (a : Nat)
 | again (n : Nd) (a t : Nat)
structure St where
 tries : Nat
 over : Bool
 best : Option (Nat × Caps)
structure Env where
 L : List UInt8
 bound : Bool
 start : Nat
def wordH (h : Hd) (q : Nat) : Int := if q = 0 then h.s0 else if q = 1 then h.s1 else if q = 2 then h.s2 else h.s3
def hasH (h : Hd) (c : Nat) : Bool := bits .and .u64 (wordH h (c / 64) / 2 ^ (c % 64)) 1 == 1
def fitsF (e : Env) (h : Hd) (p : Nat) (c : Caps) : Option Nat :=
 if h.k = 1 then (match e.L[p]? with | some x => if (x.toNat : Int) = h.c then some 1 else none | none => none)
 else if h.k = 2 then (if p < e.L.length then some 1 else none)
 else if h.k = 3 then (match e.L[p]? with | some x => if hasH h x.toNat = true then some 1 else none | none => none)
 else if h.k = 4 then (if p = 0 ∧ e.bound = false then some 0 else none)
 else if h.k = 5 then (if p < e.L.length then none else some 0)
 else if h.k = 7 then (match c h.n.toNat with
  | none => none
  | some (a, b) => if (e.L.drop p).take (b - a) = (e.L.drop a).take (b - a) then some (b - a) else none)
 else none
def tryS (s : St) : St × Bool := if s.tries = 3000 then ({ s with over := true }, false) else ({ s with tries := s.tries + 1 }, true)
def put (c : Caps) (i a b : Nat) : Caps := fun j => if j = i then some (a, b) else c j
def comeF (e : Env) (p : Nat) (c : Caps) (s : St) : St := match s.best with
 | some (q, _) => if p ≤ q then s else { s with best := some (p, put c 0 e.start p) }
 | none => { s with best := some (p, put c 0 e.start p) }
mutual
def thr : Nat → Env → List Tk → Nat → Caps → St → Option St
 | 0, _, _, _, _, _ => none
 | k + 1, e, ts, p, c, s => if s.over = true then some s else match ts with
  | [] => some (comeF e p c s)
  | .grp n a :: r => thr k e r p (put c n.h.n.toNat a p) s
  | .again n a t :: r => if p ≠ a ∨ (t : Int) ≤ n.h.mn then rep k e n t r p c s else some s
  | .node n :: r =>
   if n.h.k = 8 then thr k e (n.l.map .node ++ r) p c s
   else if n.h.k = 9 then alts k e n.l r p c s
   else if n.h.k = 6 then (match n.l with
    | [] => none
    | x :: _ => thr k e (.node x :: .grp n p :: r) p c s)
   else if n.h.k = 10 then rep k e n 0 r p c s
   else match tryS s with
    | (s1, false) => some s1
    | (s1, true) => match fitsF e n.h p c with
     | none => some s1
     | some j => thr k e r (p + j) c s1
def rep : Nat → Env → Nd → Nat → List Tk → Nat → Caps → St → Option St
 | 0, _, _, _, _, _, _, _ => none
 | k + 1, e, n, t, r, p, c, s => if s.over = true then some s else match tryS s with
  | (s1, false) => some s1
  | (s1, true) => match n.l with
   | [] => none
   | x :: _ => (if n.h.mx < 0 ∨ (t : Int) < n.h.mx then thr k e (.node x :: .again n p (t + 1) :: r) p c s1 else some s1).bind fun s2 =>
    if n.h.mn ≤ t then thr k e r p c s2 else some s2
def alts : Nat → Env → List Nd → List Tk → Nat → Caps → St → Option St
 | 0, _, _, _, _, _, _ => none
 | k + 1, e, l, r, p, c, s => match l with
  | [] => some s
  | x :: l' => if s.over = true then some s else match tryS s with
   | (s1, false) => some s1
   | (s1, true) => (thr k e (.node x :: r) p c s1).bind fun s2 => alts k e l' r p c s2
end
theorem thr_over (k e ts p c) {s : St} (h : s.over = true) : thr (k + 1) e ts p c s = some s := by cases ts with
 | nil => rw [thr, if_pos h]
 | cons t r => cases t <;> rw [thr, if_pos h]
theorem thr_nil (k e p c) {s : St} (h : ¬ s.over = true) : thr (k + 1) e [] p c s = some (comeF e p c s) := by rw [thr, if_neg h]
theorem thr_grp (k e n a r p c) {s : St} (h : ¬ s.over = true) : thr (k + 1) e (.grp n a :: r) p c s = thr k e r p (put c n.h.n.toNat a p) s := by rw [thr, if_neg h]
theorem thr_again (k e n a t r p c) {s : St} (h : ¬ s.over = true) : thr (k + 1) e (.again n a t :: r) p c s = if p ≠ a ∨ (t : Int) ≤ n.h.mn then rep k e n t r p c s else some s := by rw [thr, if_neg h]
theorem thr_8 (k e n r p c) {s : St} (h : ¬ s.over = true) (hk : n.h.k = 8) : thr (k + 1) e (.node n :: r) p c s = thr k e (n.l.map .node ++ r) p c s := by rw [thr, if_neg h, if_pos hk]
theorem thr_9 (k e n r p c) {s : St} (h : ¬ s.over = true) (hk : n.h.k = 9) : thr (k + 1) e (.node n :: r) p c s = alts k e n.l r p c s := by rw [thr, if_neg h, if_neg (by omega), if_pos hk]
theorem thr_6 (k e n r p c x) {s : St} (h : ¬ s.over = true) (hk : n.h.k = 6) (hx : n.l = [x]) : thr (k + 1) e (.node n :: r) p c s = thr k e (.node x :: .grp n p :: r) p c s := by rw [thr, if_neg h, if_neg (by omega), if_neg (by omega), if_pos hk, hx]
theorem thr_10 (k e n r p c) {s : St} (h : ¬ s.over = true) (hk : n.h.k = 10) : thr (k + 1) e (.node n :: r) p c s = rep k e n 0 r p c s := by rw [thr, if_neg h, if_neg (by omega), if_neg (by omega), if_neg (by omega), if_pos hk]
def leafF (k : Nat) (e : Env) (n : Nd) (r : List Tk) (p : Nat) (c : Caps) (s : St) : Option St := match tryS s with
 | (s1, false) => some s1
 | (s1, true) => match fitsF e n.h p c with
  | none => some s1
  | some j => thr k e r (p + j) c s1
def leafK (k : Int) : Prop := k ≠ 8 ∧ k ≠ 9 ∧ k ≠ 6 ∧ k ≠ 10
theorem thr_leaf (k e n r p c) {s : St} (h : ¬ s.over = true) (hk : leafK n.h.k) : thr (k + 1) e (.node n :: r) p c s = leafF k e n r p c s := by
 rw [thr, if_neg h, if_neg hk.1, if_neg hk.2.1, if_neg hk.2.2.1, if_neg hk.2.2.2]; rfl
def repF (k : Nat) (e : Env) (n : Nd) (t : Nat) (r : List Tk) (p : Nat) (c : Caps) (s1 : St) : Option St := match n.l with
 | [] => none
 | x :: _ => (if n.h.mx < 0 ∨ (t : Int) < n.h.mx then thr k e (.node x :: .again n p (t + 1) :: r) p c s1 else some s1).bind fun s2 =>
  if n.h.mn ≤ t then thr k e r p c s2 else some s2
theorem rep_over (k e n t r p c) {s : St} (h : s.over = true) : rep (k + 1) e n t r p c s = some s := by rw [rep.eq_def]; simp only [h, if_true]
theorem rep_go (k e n t r p c) {s : St} (h : ¬ s.over = true) : rep (k + 1) e n t r p c s = match tryS s with
 | (s1, false) => some s1
 | (s1, true) => repF k e n t r p c s1 := by rw [rep.eq_def]; simp only [if_neg h]; rfl
theorem alts_nil (k e r p c s) : alts (k + 1) e [] r p c s = some s := by rw [alts]
theorem alts_over (k e x l r p c) {s : St} (h : s.over = true) : alts (k + 1) e (x :: l) r p c s = some s := by rw [alts, if_pos h]
theorem alts_go (k e x l r p c) {s : St} (h : ¬ s.over = true) : alts (k + 1) e (x :: l) r p c s = match tryS s with
 | (s1, false) => some s1
 | (s1, true) => (thr k e (.node x :: r) p c s1).bind fun s2 => alts k e l r p c s2 := by rw [alts, if_neg h]
theorem kind_cases (k : Int) : k = 8 ∨ k = 9 ∨ k = 6 ∨ k = 10 ∨ leafK k := by unfold leafK; omega
theorem more : ∀ (k : Nat), (∀ e ts p c s x, thr k e ts p c s = some x → thr (k + 1) e ts p c s = some x) ∧ (∀ e n t r p c s x, rep k e n t r p c s = some x → rep (k + 1) e n t r p c s = some x) ∧ (∀ e l r p c s x, alts k e l r p c s = some x → alts (k + 1) e l r p c s = some x)
 | 0 => ⟨fun _ ts _ _ _ _ h => by (rw [thr.eq_def] at h; cases h), fun _ _ _ _ _ _ _ _ h => by (rw [rep.eq_def] at h; cases h), fun _ _ _ _ _ _ _ h => by (rw [alts.eq_def] at h; cases h)⟩
 | k + 1 => by
  obtain ⟨h1, h2, h3⟩ := more k
  refine ⟨fun e ts p c s x h => ?_, fun e n t r p c s x h => ?_, fun e l r p c s x h => ?_⟩
  ·by_cases ho : s.over = true
   ·rw [thr_over _ _ _ _ _ ho] at h ⊢; exact h
   match ts, h with
   | [], h => rw [thr_nil _ _ _ _ ho] at h ⊢; exact h
   | .grp n a :: r, h => rw [thr_grp _ _ _ _ _ _ _ ho] at h ⊢; exact h1 _ _ _ _ _ _ h
   | .again n a t :: r, h =>
    rw [thr_again _ _ _ _ _ _ _ _ ho] at h ⊢
    by_cases hc : p ≠ a ∨ (t : Int) ≤ n.h.mn
    ·rw [if_pos hc] at h ⊢; exact h2 _ _ _ _ _ _ _ _ h
    ·rw [if_neg hc] at h ⊢; exact h
   | .node n :: r, h =>
    rcases kind_cases n.h.k with hk | hk | hk | hk | hk
    ·rw [thr_8 _ _ _ _ _ _ ho hk] at h ⊢; exact h1 _ _ _ _ _ _ h
    ·rw [thr_9 _ _ _ _ _ _ ho hk] at h ⊢; exact h3 _ _ _ _ _ _ _ h
    ·rw [thr, if_neg ho, if_neg (by omega), if_neg (by omega), if_pos hk] at h ⊢
     cases hl : n.l with
     | nil => rw [hl] at h; cases h
     | cons y l => rw [hl] at h; exact h1 _ _ _ _ _ _ h
    ·rw [thr_10 _ _ _ _ _ _ ho hk] at h ⊢; exact h2 _ _ _ _ _ _ _ _ h
    ·rw [thr_leaf _ _ _ _ _ _ ho hk] at h ⊢
     unfold leafF at h ⊢
     split at h
     ·exact h
     ·split at h
      ·exact h
      ·exact h1 _ _ _ _ _ _ h
  ·by_cases ho : s.over = true
   ·rw [rep_over _ _ _ _ _ _ _ ho] at h ⊢; exact h
   rw [rep_go _ _ _ _ _ _ _ ho] at h ⊢
   split at h
   ·exact h
   ·unfold repF at h ⊢
    split at h
    ·cases h
    ·rw [Option.bind_eq_some_iff] at h ⊢
     obtain ⟨s2, g1, g2⟩ := h
     refine ⟨s2, ?_, ?_⟩
     ·split at g1
      ·rename_i hc; rw [if_pos hc]; exact h1 _ _ _ _ _ _ g1
      ·rename_i hc; rw [if_neg hc]; exact g1
     ·split at g2
      ·rename_i hc; rw [if_pos hc]; exact h1 _ _ _ _ _ _ g2
      ·rename_i hc; rw [if_neg hc]; exact g2
  ·match l, h with
   | [], h => rw [alts_nil] at h ⊢; exact h
   | y :: l', h =>
    by_cases ho : s.over = true
    ·rw [alts_over _ _ _ _ _ _ _ ho] at h ⊢; exact h
    rw [alts_go _ _ _ _ _ _ _ ho] at h ⊢
    split at h
    ·exact h
    ·rw [Option.bind_eq_some_iff] at h ⊢
     obtain ⟨s2, g1, g2⟩ := h
     exact ⟨s2, h1 _ _ _ _ _ _ g1, h3 _ _ _ _ _ _ _ g2⟩
theorem thr_more {k j : Nat} {e ts p c s x} (hk : k ≤ j) (h : thr k e ts p c s = some x) : thr j e ts p c s = some x := by
 induction hk with
 | refl => exact h
 | step _ ih => exact (more _).1 _ _ _ _ _ _ ih
theorem alts_more {k j : Nat} {e l r p c s x} (hk : k ≤ j) (h : alts k e l r p c s = some x) : alts j e l r p c s = some x := by
 induction hk with
 | refl => exact h
 | step _ ih => exact (more _).2.2 _ _ _ _ _ _ _ ih
def okTk : Tk → Prop
 | .node n => okT n
 | .grp n _ => okT n ∧ n.h.k = 6
 | .again n _ _ => okT n ∧ n.h.k = 10
def wt : Tk → Nat
 | .node n => 2 * count n
 | _ => 1
def wts (ts : List Tk) : Nat := (ts.map wt).sum
theorem wts_nodes (l : List Nd) (r : List Tk) : wts (l.map .node ++ r) = 2 * countL l + wts r := by
 induction l with
 | nil => simp [wts, countL]
 | cons x l ih =>
  simp only [List.map_cons, List.cons_append, countL, wts, List.sum_cons, wt] at ih ⊢
  omega
theorem tryS_cases (s : St) : (s.tries = 3000 ∧ tryS s = ({ s with over := true }, false)) ∨ (s.tries ≠ 3000 ∧ tryS s = ({ s with tries := s.tries + 1 }, true)) := by
 unfold tryS
 by_cases h : s.tries = 3000
 ·exact .inl ⟨h, by rw [if_pos h]⟩
 ·exact .inr ⟨h, by rw [if_neg h]⟩
def Ends (x : Nat → Option St) (s : St) : Prop := ∃ k s', x k = some s' ∧ s.tries ≤ s'.tries ∧ s'.tries ≤ 3000
def ThrOk (e : Env) (N : Nat) : Prop := ∀ (W : Nat) (ts : List Tk) (p : Nat) (c : Caps) (s : St), (∀ t ∈ ts, okTk t) → s.tries ≤ 3000 → 3000 - s.tries ≤ N → wts ts ≤ W → Ends (fun k => thr k e ts p c s) s
def RepOk (e : Env) (N : Nat) : Prop := ∀ (n : Nd) (t : Nat) (r : List Tk) (p : Nat) (c : Caps) (s : St), okT n → n.h.k = 10 → (∀ t ∈ r, okTk t) → s.tries ≤ 3000 → 3000 - s.tries ≤ N → Ends (fun k => rep k e n t r p c s) s
def AltOk (e : Env) (N : Nat) : Prop := ∀ (l : List Nd) (r : List Tk) (p : Nat) (c : Caps) (s : St), okL l → (∀ t ∈ r, okTk t) → s.tries ≤ 3000 → 3000 - s.tries ≤ N → Ends (fun k => alts k e l r p c s) s
theorem ok_cons {t : Tk} {r : List Tk} (h : okTk t) (hr : ∀ t ∈ r, okTk t) : ∀ u ∈ t :: r, okTk u := fun u hu => by
 rcases List.mem_cons.1 hu with rfl | hu
 ·exact h
 ·exact hr u hu
theorem kid_of {n : Nd} (h : okT n) (hk : n.h.k = 6 ∨ n.h.k = 10) : ∃ x, n.l = [x] ∧ okT x := by
 have h1 := okT_head h
 have hl : n.l.length = 1 := by
  rcases hk with hk | hk
  ·exact (h1.2.2.1 hk).1
  ·exact (h1.2.2.2.2.1 hk).1
 obtain ⟨x, hx⟩ := List.length_eq_one_iff.1 hl
 exact ⟨x, hx, okL_mem (okT_kids h) x (by rw [hx]; simp)⟩
theorem rep_ok (e : Env) (N : Nat) (ih : N ≠ 0 → ThrOk e (N - 1)) : RepOk e N := by
 intro n t r p c s hn hk hr h1 h2
 by_cases ho : s.over = true
 ·exact ⟨1, s, rep_over _ _ _ _ _ _ _ ho, Nat.le_refl _, h1⟩
 rcases tryS_cases s with ⟨_, ht⟩ | ⟨hne, ht⟩
 ·exact ⟨1, { s with over := true }, by show rep (0 + 1) _ _ _ _ _ _ _ = _; rw [rep_go _ _ _ _ _ _ _ ho, ht], Nat.le_refl _, h1⟩
 ·obtain ⟨x, hx, hox⟩ := kid_of hn (.inr hk)
  have hT := ih (by omega)
  have hA : okTk (.again n p (t + 1)) := ⟨hn, hk⟩
  obtain ⟨k1, s2, e2, l2, m2⟩ : Ends (fun k => if n.h.mx < 0 ∨ (t : Int) < n.h.mx then thr k e (.node x :: .again n p (t + 1) :: r) p c { s with tries := s.tries + 1 } else some { s with tries := s.tries + 1 }) { s with tries := s.tries + 1 } := by
   by_cases hc : n.h.mx < 0 ∨ (t : Int) < n.h.mx
   ·simp only [if_pos hc]
    exact hT _ _ p c _ (ok_cons (show okTk (.node x) from hox) (ok_cons hA hr)) (by simp only []; omega) (by simp only []; omega) (Nat.le_refl _)
   ·simp only [if_neg hc]
    exact ⟨0, _, rfl, Nat.le_refl _, by simp only []; omega⟩
  simp only [] at l2
  obtain ⟨k2, s3, e3, l3, m3⟩ : Ends (fun k => if n.h.mn ≤ t then thr k e r p c s2 else some s2) s2 := by
   by_cases hc : n.h.mn ≤ t
   ·simp only [if_pos hc]
    exact hT _ _ p c _ hr m2 (by omega) (Nat.le_refl _)
   ·simp only [if_neg hc]
    exact ⟨0, _, rfl, Nat.le_refl _, m2⟩
  refine ⟨max k1 k2 + 1, s3, ?_, by omega, m3⟩
  dsimp only at e2 e3
  show rep (max k1 k2 + 1) _ _ _ _ _ _ _ = _
  rw [rep_go _ _ _ _ _ _ _ ho, ht]
  simp only [repF, hx]
  rw [Option.bind_eq_some_iff]
  refine ⟨s2, ?_, ?_⟩
  ·by_cases hc : n.h.mx < 0 ∨ (t : Int) < n.h.mx
   ·rw [if_pos hc] at e2 ⊢; exact thr_more (Nat.le_max_left _ _) e2
   ·rw [if_neg hc] at e2 ⊢; exact e2
  ·by_cases hc : n.h.mn ≤ t
   ·rw [if_pos hc] at e3 ⊢; exact thr_more (Nat.le_max_right _ _) e3
   ·rw [if_neg hc] at e3 ⊢; exact e3
theorem alt_ok (e : Env) (N : Nat) (ih : N ≠ 0 → ThrOk e (N - 1)) (ia : N ≠ 0 → AltOk e (N - 1)) : AltOk e N := by
 intro l r p c s hl hr h1 h2
 cases l with
 | nil => exact ⟨1, s, alts_nil _ _ _ _ _ _, Nat.le_refl _, h1⟩
 | cons x l =>
  by_cases ho : s.over = true
  ·exact ⟨1, s, alts_over _ _ _ _ _ _ _ ho, Nat.le_refl _, h1⟩
  rcases tryS_cases s with ⟨_, ht⟩ | ⟨hne, ht⟩
  ·exact ⟨1, { s with over := true }, by show alts (0 + 1) _ _ _ _ _ _ = _; rw [alts_go _ _ _ _ _ _ _ ho, ht], Nat.le_refl _, h1⟩
  ·rw [okL] at hl
   obtain ⟨k1, s2, e2, l2, m2⟩ := ih (by omega) _ (.node x :: r) p c { s with tries := s.tries + 1 } (ok_cons (show okTk (.node x) from hl.1) hr) (by simp only []; omega) (by simp only []; omega) (Nat.le_refl _)
   simp only [] at l2
   obtain ⟨k2, s3, e3, l3, m3⟩ := ia (by omega) l r p c s2 hl.2 hr m2 (by omega)
   refine ⟨max k1 k2 + 1, s3, ?_, by omega, m3⟩
   show alts (max k1 k2 + 1) _ _ _ _ _ _ = _
   rw [alts_go _ _ _ _ _ _ _ ho, ht]
   show (thr (max k1 k2) _ _ _ _ _).bind _ = _
   rw [Option.bind_eq_some_iff]
   exact ⟨s2, thr_more (Nat.le_max_left _ _) e2, alts_more (Nat.le_max_right _ _) e3⟩
theorem thr_ok (e : Env) (N : Nat) (ih : N ≠ 0 → ThrOk e (N - 1)) (ir : RepOk e N) (ia : AltOk e N) : ThrOk e N := by
 intro W
 induction W with
 | zero =>
  intro ts p c s hts h1 h2 h3
  by_cases ho : s.over = true
  ·exact ⟨1, s, thr_over _ _ _ _ _ ho, Nat.le_refl _, h1⟩
  cases ts with
  | nil => exact ⟨1, comeF e p c s, thr_nil _ _ _ _ ho, by unfold comeF; split; split; exact Nat.le_refl _; exact Nat.le_refl _; exact Nat.le_refl _, by unfold comeF; split; split; exact h1; exact h1; exact h1⟩
  | cons t r =>
   have : 1 ≤ wt t := by cases t with
    | node n => have := count_pos n; simp only [wt]; omega
    | grp => exact Nat.le_refl _
    | again => exact Nat.le_refl _
   simp only [wts, List.map_cons, List.sum_cons] at h3
   omega
 | succ W iw =>
  intro ts p c s hts h1 h2 h3
  by_cases ho : s.over = true
  ·exact ⟨1, s, thr_over _ _ _ _ _ ho, Nat.le_refl _, h1⟩
  cases ts with
  | nil => exact ⟨1, comeF e p c s, thr_nil _ _ _ _ ho, by unfold comeF; split; split; exact Nat.le_refl _; exact Nat.le_refl _; exact Nat.le_refl _, by unfold comeF; split; split; exact h1; exact h1; exact h1⟩
  | cons t r =>
   have hr : ∀ t ∈ r, okTk t := fun u hu => hts u (List.mem_cons_of_mem _ hu)
   have ht0 := hts t (List.mem_cons_self ..)
   cases t with
   | grp n a =>
    obtain ⟨k1, s2, e2, l2, m2⟩ := iw r p (put c n.h.n.toNat a p) s hr h1 h2 (by simp only [wts, List.map_cons, List.sum_cons, wt] at h3 ⊢; omega)
    exact ⟨k1 + 1, s2, (thr_grp _ _ _ _ _ _ _ ho).trans e2, l2, m2⟩
   | again n a t =>
    by_cases hc : p ≠ a ∨ (t : Int) ≤ n.h.mn
    ·obtain ⟨k1, s2, e2, l2, m2⟩ := ir n t r p c s ht0.1 ht0.2 hr h1 h2
     exact ⟨k1 + 1, s2, by show thr (k1 + 1) _ _ _ _ _ = _; rw [thr_again _ _ _ _ _ _ _ _ ho, if_pos hc]; exact e2, l2, m2⟩
    ·exact ⟨1, s, by show thr (0 + 1) _ _ _ _ _ = _; rw [thr_again _ _ _ _ _ _ _ _ ho, if_neg hc], Nat.le_refl _, h1⟩
   | node n =>
    have hn : okT n := ht0
    have hcn : count n = 1 + countL n.l := by cases n; rw [count]; rfl
    simp only [wts, List.map_cons, List.sum_cons, wt] at h3
    by_cases k8 : n.h.k = 8
    ·obtain ⟨k1, s2, e2, l2, m2⟩ := iw (n.l.map .node ++ r) p c s (fun u hu => by
      rcases List.mem_append.1 hu with hu | hu
      ·obtain ⟨x, hx, rfl⟩ := List.mem_map.1 hu
       exact okL_mem (okT_kids hn) x hx
      ·exact hr u hu) h1 h2 (by rw [wts_nodes]; simp only [wts]; omega)
     exact ⟨k1 + 1, s2, (thr_8 _ _ _ _ _ _ ho k8).trans e2, l2, m2⟩
    by_cases k9 : n.h.k = 9
    ·obtain ⟨k1, s2, e2, l2, m2⟩ := ia n.l r p c s (okT_kids hn) hr h1 h2
     exact ⟨k1 + 1, s2, (thr_9 _ _ _ _ _ _ ho k9).trans e2, l2, m2⟩
    by_cases k6 : n.h.k = 6
    ·obtain ⟨x, hx, hox⟩ := kid_of hn (.inl k6)
     have hcl : countL n.l = count x := by rw [hx]; simp [countL]
     obtain ⟨k1, s2, e2, l2, m2⟩ := iw (.node x :: .grp n p :: r) p c s (ok_cons (show okTk (.node x) from hox) (ok_cons (show okTk (.grp n p) from ⟨hn, k6⟩) hr)) h1 h2 (by simp only [wts, List.map_cons, List.sum_cons, wt]; omega)
     exact ⟨k1 + 1, s2, (thr_6 _ _ _ _ _ _ x ho k6 hx).trans e2, l2, m2⟩
    by_cases k10 : n.h.k = 10
    ·obtain ⟨k1, s2, e2, l2, m2⟩ := ir n 0 r p c s hn k10 hr h1 h2
     exact ⟨k1 + 1, s2, (thr_10 _ _ _ _ _ _ ho k10).trans e2, l2, m2⟩
    ·have hlead := fun k => thr_leaf k e n r p c ho ⟨k8, k9, k6, k10⟩
     rcases tryS_cases s with ⟨_, ht⟩ | ⟨hne, ht⟩
     ·exact ⟨1, { s with over := true }, by show thr (0 + 1) _ _ _ _ _ = _; rw [hlead, leafF, ht], Nat.le_refl _, h1⟩
     ·cases hf : fitsF e n.h p c with
      | none => exact ⟨1, { s with tries := s.tries + 1 }, by show thr (0 + 1) _ _ _ _ _ = _; rw [hlead, leafF, ht]; simp only [hf], by simp only []; omega, by simp only []; omega⟩
      | some j =>
       obtain ⟨k1, s2, e2, l2, m2⟩ := ih (by omega) _ r (p + j) c { s with tries := s.tries + 1 } hr (by simp only []; omega) (by simp only []; omega) (Nat.le_refl _)
       exact ⟨k1 + 1, s2, by show thr (k1 + 1) _ _ _ _ _ = _; rw [hlead, leafF, ht]; simp only [hf]; exact e2, by simp only [] at l2; omega, m2⟩
theorem ends_all (e : Env) : ∀ N, ThrOk e N ∧ AltOk e N
 | 0 => by
  have hr := rep_ok e 0 (fun h => absurd rfl h)
  have ha := alt_ok e 0 (fun h => absurd rfl h) (fun h => absurd rfl h)
  exact ⟨thr_ok e 0 (fun h => absurd rfl h) hr ha, ha⟩
 | N + 1 => by
  obtain ⟨i1, i2⟩ := ends_all e N
  have hr := rep_ok e (N + 1) (fun _ => i1)
  have ha := alt_ok e (N + 1) (fun _ => i1) (fun _ => i2)
  exact ⟨thr_ok e (N + 1) (fun _ => i1) hr ha, ha⟩
theorem thr_ends (e : Env) (ts : List Tk) (p : Nat) (c : Caps) (s : St) (h : ∀ t ∈ ts, okTk t) (hs : s.tries ≤ 3000) : ∃ k s', thr k e ts p c s = some s' ∧ s.tries ≤ s'.tries ∧ s'.tries ≤ 3000 :=
 (ends_all e 3000).1 _ ts p c s h hs (by omega) (Nat.le_refl _)
open Go.RowKit P8
theorem q4 {c : Nat} (h : c < 256) : c / 64 = 0 ∨ c / 64 = 1 ∨ c / 64 = 2 ∨ c / 64 = 3 := by omega
set_option maxRecDepth 100000 in
set_option maxHeartbeats 1000000 in
theorem has_t (h : Hd) (c : Nat) (hc : c < 256) (w : World) :
  Calls Try.prog 113 #[.agg #[.int .u64 h.s0, .int .u64 h.s1, .int .u64 h.s2, .int .u64 h.s3], .int .u8 c] w fun e w' => e = .returned (.bool (hasH h c)) ∧ Keep Nb w w' := by
 generalize hR : hasH h c = R
 have HR := Lib.hid hR
 clear hR
 rcases q4 hc with hq | hq | hq | hq
 ·go_enter Try.func113, Try.ntmps113
  go_wp2_with fail
  go_ret
  exact ⟨by rw [← HR.out]; simp only [hasH, wordH, hq]; rfl, kp⟩
 ·go_enter Try.func113, Try.ntmps113
  go_wp2_with fail
  go_ret
  exact ⟨by rw [← HR.out]; simp only [hasH, wordH, hq]; rfl, kp⟩
 ·go_enter Try.func113, Try.ntmps113
  go_wp2_with fail
  go_ret
  exact ⟨by rw [← HR.out]; simp only [hasH, wordH, hq]; rfl, kp⟩
 ·go_enter Try.func113, Try.ntmps113
  go_wp2_with fail
  go_ret
  exact ⟨by rw [← HR.out]; simp only [hasH, wordH, hq]; rfl, kp⟩
set_option maxRecDepth 100000 in
set_option maxHeartbeats 1000000 in
theorem has_r (h : Hd) (c : Nat) (hc : c < 256) (w : World) :
  Calls Try.prog 104 #[.agg #[.int .u64 h.s0, .int .u64 h.s1, .int .u64 h.s2, .int .u64 h.s3], .int .u8 c] w fun e w' => e = .returned (.bool (hasH h c)) ∧ Keep Nb w w' := by
 generalize hR : hasH h c = R
 have HR := Lib.hid hR
 clear hR
 rcases q4 hc with hq | hq | hq | hq
 ·go_enter Try.func104, Try.ntmps104
  go_wp2_with fail
  go_ret
  exact ⟨by rw [← HR.out]; simp only [hasH, wordH, hq]; rfl, kp⟩
 ·go_enter Try.func104, Try.ntmps104
  go_wp2_with fail
  go_ret
  exact ⟨by rw [← HR.out]; simp only [hasH, wordH, hq]; rfl, kp⟩
 ·go_enter Try.func104, Try.ntmps104
  go_wp2_with fail
  go_ret
  exact ⟨by rw [← HR.out]; simp only [hasH, wordH, hq]; rfl, kp⟩
 ·go_enter Try.func104, Try.ntmps104
  go_wp2_with fail
  go_ret
  exact ⟨by rw [← HR.out]; simp only [hasH, wordH, hq]; rfl, kp⟩
end Go.Proofs.Ytkidjbfapldmbaa
namespace Go.Proofs.Ytkidjbfapldmbaa
open P8
def F (n : Nat) : Nat := FloatKind.f64.nearest (n : Int)
def kOf (n : Nat) : Nat := if n = 0 then 1074 else 52 - n.log2
set_option maxRecDepth 100000 in
theorem F_read : ∀ n < 701, FloatKind.f64.decode (F n) = .number false (n <<< kOf n) (-(kOf n : Int)) := by decide +kernel
theorem F_order {a b : Nat} (ha : a < 701) (hb : b < 701) : FloatKind.f64.format.order (F a) (F b) = some (compare (a : Int) (b : Int)) := by
 have h1 : FloatKind.f64.format.read (F a) = _ := F_read a ha
 have h2 : FloatKind.f64.format.read (F b) = _ := F_read b hb
 rw [Ieee.Format.order, h1, h2, Ieee.Datum.order]
 congr 1
 have e : ∀ (n k m : Nat), k ≤ m → Ieee.signed false (n <<< k) (-(k : Int) - min (-(k : Int)) (-(m : Int))).toNat = ((n * 2 ^ m : Nat) : Int) := by
  intro n k m h
  rw [show (-(k : Int) - min (-(k : Int)) (-(m : Int))).toNat = m - k by omega, Ieee.signed]
  simp only [Bool.false_eq_true, if_false]
  rw [Nat.shiftLeft_eq, Nat.shiftLeft_eq, Nat.mul_assoc, ← Nat.pow_add, show k + (m - k) = m by omega]
 have e2 : ∀ (n k m : Nat), k ≤ m → Ieee.signed false (n <<< k) (-(k : Int) - min (-(m : Int)) (-(k : Int))).toNat = ((n * 2 ^ m : Nat) : Int) := by
  intro n k m h; rw [Int.min_comm]; exact e n k m h
 have c : ∀ m : Nat, compare ((a * 2 ^ m : Nat) : Int) ((b * 2 ^ m : Nat) : Int) = compare (a : Int) (b : Int) := by
  intro m
  have hp : 0 < 2 ^ m := Nat.two_pow_pos m
  rcases Nat.lt_trichotomy a b with h | h | h
  ·have h3 := Nat.mul_lt_mul_of_pos_right h hp
   rw [Int.compare_eq_lt.2 (by omega), Int.compare_eq_lt.2 (by omega)]
  ·subst h; rw [Int.compare_eq_eq.2 rfl, Int.compare_eq_eq.2 rfl]
  ·have h3 := Nat.mul_lt_mul_of_pos_right h hp
   rw [Int.compare_eq_gt.2 (by omega), Int.compare_eq_gt.2 (by omega)]
 rcases Nat.le_total (kOf a) (kOf b) with h | h
 ·rw [e a _ _ h]
  have := e2 b (kOf b) (kOf b) (Nat.le_refl _)
  rw [show min (-(kOf a : Int)) (-(kOf b : Int)) = min (-(kOf b : Int)) (-(kOf b : Int)) by omega, this]
  exact c _
 ·rw [e2 b _ _ h]
  have := e a (kOf a) (kOf a) (Nat.le_refl _)
  rw [show min (-(kOf a : Int)) (-(kOf b : Int)) = min (-(kOf a : Int)) (-(kOf a : Int)) by omega, this]
  exact c _
open Go.RowKit P8
theorem F_of (n : Nat) : floatOfInt FloatKind.f64 (n : Int) = F n := rfl
theorem F_zero : F 0 = 0 := by decide +kernel
set_option maxRecDepth 100000 in
theorem F_int : ∀ n < 701, floatToIntVal .f64 (F n) .i64 = some (n : Int) := by decide +kernel
set_option maxRecDepth 100000 in
theorem F_trunc : ∀ n < 701, FloatKind.f64.encode ((FloatKind.f64.decode (F n)).integral .zero) = F n := by decide +kernel
theorem F_eq {a b : Nat} (ha : a < 701) (hb : b < 701) : (FloatKind.f64.format.order (F a) (F b) == some .eq) = decide (a = b) := by
 rw [F_order ha hb, Bool.eq_iff_iff, beq_iff_eq, Option.some.injEq, Int.compare_eq_eq]
 simp; omega
theorem F_lt {a b : Nat} (ha : a < 701) (hb : b < 701) : (FloatKind.f64.format.order (F a) (F b) == some .lt) = decide (a < b) := by
 rw [F_order ha hb, Bool.eq_iff_iff, beq_iff_eq, Option.some.injEq, Int.compare_eq_lt]
 simp
theorem F_gt {a b : Nat} (ha : a < 701) (hb : b < 701) : (FloatKind.f64.format.order (F a) (F b) == some .gt) = decide (b < a) := by
 rw [F_order ha hb, Bool.eq_iff_iff, beq_iff_eq, Option.some.injEq, Int.compare_eq_gt]
 simp
theorem F_back {a : Nat} (ha : a < 701) (w : World) : (convert 61 3 (.float .f64 (F a))).run Try.prog w = .ok (.int .i64 (a : Int)) w :=
 run_convert_float_int w _ _ _ _ _ _ (by kernel_rfl) Try.underlying3 (F_int a ha)
theorem span_any (a b : Nat) (w : World) :
  Calls Try.prog 100 #[.int .i64 (a : Int), .int .i64 (b : Int)] w fun e w' => e = .returned (.complex .f64 (F a) (F b)) ∧ w = w' := by
 have h1 := F_of a
 have h2 := F_of b
 go_enter Try.func100, Try.ntmps100
 go_wp2_with fail
 go_ret
 exact ⟨rfl, rfl⟩
section
attribute [local irreducible] FloatKind.decode FloatKind.encode
theorem trunc_run (a : Nat) (ha : a < 701) (w : World) : (Extern.MathFloor.toIntegral "math.archTrunc" .zero #[.float .f64 (F a)]).run Try.prog w = .ok (.float .f64 (F a)) w := by
 have h2 := F_trunc a ha
 have h1 := F_read a ha
 generalize F a = x at h1 h2 ⊢
 rw [h1] at h2
 unfold Extern.MathFloor.toIntegral
 conv => lhs; arg 2; whnf
 rw [h1]
 show Sem.run _ (pure (Value.float .f64 (FloatKind.f64.encode (Ieee.Datum.integral .zero (.number false (a <<< kOf a) (-(kOf a : Int))))))) w = _
 rw [h2]
 rfl
end
set_option maxRecDepth 100000 in
theorem trunc_any (a : Nat) (ha : a < 701) (w : World) :
  Calls Try.prog 93 #[.float .f64 (F a)] w fun e w' => e = .returned (.float .f64 (F a)) ∧ w = w' := by
 go_enter Try.func93, Try.ntmps93
 go_wp2_with fail
 rw [run_callFunc_extern Try.func109 (by kernel_rfl) (by kernel_rfl) (by kernel_rfl) (e := Extern.MathFloor.toIntegral "math.archTrunc" .zero) (by kernel_rfl)]
 rw [trunc_run a ha]
 simp only [Result.andThen]
 rw [Oper.upon_value]
 go_wp2_with fail
 go_ret
 exact ⟨rfl, rfl⟩
theorem place_any (T : ByteArray) (a : Nat) (ha : a ≤ T.size) (hT : T.size ≤ 600) (w : World) :
  Calls Try.prog 71 #[.string T, .float .f64 (F a)] w fun e w' => e = .returned (.int .i64 (a : Int)) ∧ w = w' := by
 have h1 := F_of T.size
 have o1 := F_gt (a := a) (b := 0) (by omega) (by omega)
 have o2 := F_eq (a := a) (b := 0) (by omega) (by omega)
 have o3 := F_lt (a := a) (b := T.size) (by omega) (by omega)
 have o4 := F_eq (a := a) (b := T.size) (by omega) (by omega)
 have o5 := F_eq (a := a) (b := a) (by omega) (by omega)
 rw [F_zero] at o1 o2
 have p1 : (decide (0 < a) || decide (a = 0)) = true := by simp; omega
 have p2 : (decide (a < T.size) || decide (a = T.size)) = true := by simp; omega
 have q1 : ((FloatKind.f64.format.order (F a) 0 == some .gt) || (FloatKind.f64.format.order (F a) 0 == some .eq)) = true := by rw [o1, o2]; exact p1
 have q2 : ((FloatKind.f64.format.order (F a) (F T.size) == some .lt) || (FloatKind.f64.format.order (F a) (F T.size) == some .eq)) = true := by rw [o3, o4]; exact p2
 have q3 : (FloatKind.f64.format.order (F a) (F a) != some .eq) = false := by rw [bne, o5]; simp
 have hb := fun wx => F_back (a := a) (by omega) wx
 clear o1 o2 o3 o4 o5 p1 p2
 go_enter Try.func71, Try.ntmps71
 go_wp2_with fail
 refine (trunc_any a (by omega) _).mono ?_
 rintro e w2 ⟨rfl, rfl⟩
 go_wp2_with fail
 go_ret
 exact ⟨rfl, rfl⟩
theorem text_any (T : ByteArray) (a b : Nat) (hab : a ≤ b) (hb : b ≤ T.size) (hT : T.size ≤ 600) (w : World) :
  Calls Try.prog 45 #[.string T, .complex .f64 (F a) (F b)] w fun e w' => e = .returned (.string (T.extract a b)) ∧ w = w' := by
 have g1 : decide ((a : Int) < 0) = false := by simp
 have g2 : decide ((b : Int) < (a : Int)) = false := by simp; omega
 have g3 : decide (b < a) = false := by simp; omega
 have g4 : (0 : Int) ≤ (a : Int) := by omega
 have g5 : (a : Int) ≤ (b : Int) := by omega
 have g6 : (b : Int) ≤ (T.size : Int) := by omega
 have HP := Lib.hid (fun a ha wx => place_any T a ha hT wx)
 have HA := Lib.hid hab
 have HB := Lib.hid hb
 clear hab hb
 go_enter Try.func45, Try.ntmps45
 go_wp2_with fail
 refine (HP.out a (Nat.le_trans HA.out HB.out) _).mono ?_
 rintro e w2 ⟨rfl, rfl⟩
 go_wp2_with fail
 refine (HP.out b HB.out _).mono ?_
 rintro e w2 ⟨rfl, rfl⟩
 go_wp2_with fail
 go_ret
 exact ⟨rfl, rfl⟩
end Go.Proofs.Ytkidjbfapldmbaa
