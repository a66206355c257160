/- What Put does, as plain lists: where it stands, its steps, and what its runs have in common. No Go in sight. -/
import Derived.Test.YtkidjbfapldmbaaFna
namespace Go.Proofs.Ytkidjbfapldmbaa
set_option linter.unusedVariables false
set_option linter.unusedSimpArgs false
open Go.RowKit P8

def seg (L : List UInt8) (i j : Nat) : List UInt8 := (L.drop i).take (j - i)
theorem take_seg {L : List UInt8} {i j : Nat} (h : i ≤ j) : L.take i ++ seg L i j = L.take j := by
  have e : L.take j = L.take (i + (j - i)) := by rw [show i + (j - i) = j by omega]
  rw [e, List.take_add]; rfl
theorem seg_len (L : List UInt8) (i j : Nat) : (seg L i j).length ≤ j - i := by unfold seg; simp; omega

/-- Where Put stands. -/
structure PS where
  (out : List UInt8) (pos : Nat) (last : Int) (tries cnt pt : Nat)

def stepP (L : List UInt8) (fl : Caps → List UInt8) (nth : Nat) (p : PS) (s : St) (a b : Nat) : PS :=
  if a = b ∧ (a : Int) = p.last then ⟨p.out ++ seg L p.pos a ++ seg L a (a + 1), a + 1, -1, p.tries + s.tries, p.cnt, p.pt⟩
  else if a = b then ⟨p.out ++ seg L p.pos a ++ (if nth ≤ p.cnt + 1 then fl (bestC s) else seg L a b) ++ seg L a (a + 1), a + 1, -1, p.tries + s.tries, p.cnt + 1, if nth ≤ p.cnt + 1 then p.pt + 1 else p.pt⟩
  else ⟨p.out ++ seg L p.pos a ++ (if nth ≤ p.cnt + 1 then fl (bestC s) else seg L a b), b, b, p.tries + s.tries, p.cnt + 1, if nth ≤ p.cnt + 1 then p.pt + 1 else p.pt⟩

/-- What Put does from there on; none: too many tries. -/
def putS (F : Nat → St) (L : List UInt8) (fl : Caps → List UInt8) (nth : Nat) (all : Bool) : Nat → PS → Option PS
  | 0, p => some p
  | k + 1, p => if p.pos ≤ L.length ∧ (all = true ∨ p.cnt < nth) then
      (if (F p.pos).over = true ∨ 3000 < p.tries + (F p.pos).tries then none
       else match bestC (F p.pos) 0 with
         | none => some p
         | some (a, b) => putS F L fl nth all k (stepP L fl nth p (F p.pos) a b))
    else some p
def begP : PS := ⟨[], 0, -1, 0, 0, 0⟩

def SpanOk (n : Nat) (F : Nat → St) : Prop := ∀ p, p ≤ n → (F p).over = false → ∀ a b, bestC (F p) 0 = some (a, b) → p ≤ a ∧ a ≤ b ∧ b ≤ n

section
variable {F : Nat → St} {L : List UInt8} {fl fl' : Caps → List UInt8} {nth nth' : Nat} {all : Bool}
theorem putS_stop {k : Nat} {p : PS} (h : ¬ (p.pos ≤ L.length ∧ (all = true ∨ p.cnt < nth))) : putS F L fl nth all k p = some p := by
  cases k with
  | zero => rfl
  | succ k => rw [putS, if_neg h]
theorem putS_bad {k : Nat} {p : PS} (h : p.pos ≤ L.length ∧ (all = true ∨ p.cnt < nth)) (hb : (F p.pos).over = true ∨ 3000 < p.tries + (F p.pos).tries) : putS F L fl nth all (k + 1) p = none := by
  rw [putS, if_pos h, if_pos hb]
theorem putS_none {k : Nat} {p : PS} (h : p.pos ≤ L.length ∧ (all = true ∨ p.cnt < nth)) (hb : ¬ ((F p.pos).over = true ∨ 3000 < p.tries + (F p.pos).tries)) (hn : bestC (F p.pos) 0 = none) : putS F L fl nth all (k + 1) p = some p := by
  rw [putS, if_pos h, if_neg hb, hn]
theorem putS_some {k : Nat} {p : PS} (h : p.pos ≤ L.length ∧ (all = true ∨ p.cnt < nth)) (hb : ¬ ((F p.pos).over = true ∨ 3000 < p.tries + (F p.pos).tries)) {a b : Nat} (hn : bestC (F p.pos) 0 = some (a, b)) :
    putS F L fl nth all (k + 1) p = putS F L fl nth all k (stepP L fl nth p (F p.pos) a b) := by
  rw [putS, if_pos h, if_neg hb, hn]

/-- One step of a run that comes to its end, in each of its four ways. -/
theorem putS_cases {k : Nat} {p q : PS} (hF : SpanOk L.length F) (h : putS F L fl nth all (k + 1) p = some q) :
    (¬ (p.pos ≤ L.length ∧ (all = true ∨ p.cnt < nth)) ∧ q = p) ∨
    ((p.pos ≤ L.length ∧ (all = true ∨ p.cnt < nth)) ∧ ¬ ((F p.pos).over = true ∨ 3000 < p.tries + (F p.pos).tries) ∧
      ((bestC (F p.pos) 0 = none ∧ q = p) ∨ ∃ a b, bestC (F p.pos) 0 = some (a, b) ∧ p.pos ≤ a ∧ a ≤ b ∧ b ≤ L.length ∧ putS F L fl nth all k (stepP L fl nth p (F p.pos) a b) = some q)) := by
  by_cases h1 : p.pos ≤ L.length ∧ (all = true ∨ p.cnt < nth)
  · refine .inr ⟨h1, ?_⟩
    by_cases h2 : (F p.pos).over = true ∨ 3000 < p.tries + (F p.pos).tries
    · rw [putS_bad h1 h2] at h; cases h
    · refine ⟨h2, ?_⟩
      cases h3 : bestC (F p.pos) 0 with
      | none => rw [putS_none h1 h2 h3] at h; cases h; exact .inl ⟨rfl, rfl⟩
      | some o =>
        obtain ⟨a, b⟩ := o
        rw [putS_some h1 h2 h3] at h
        have ho : (F p.pos).over = false := by
          cases h9 : (F p.pos).over with
          | false => rfl
          | true => exact absurd (.inl h9) h2
        obtain ⟨g1, g2, g3⟩ := hF _ h1.1 ho _ _ h3
        exact .inr ⟨a, b, rfl, g1, g2, g3, h⟩
  · rw [putS_stop h1] at h; cases h; exact .inl ⟨h1, rfl⟩

theorem step_pos (p : PS) (s : St) {a b : Nat} (h : a ≤ b) : a ≤ (stepP L fl nth p s a b).pos ∧ (stepP L fl nth p s a b).pos ≤ b + 1 ∧ p.cnt ≤ (stepP L fl nth p s a b).cnt ∧ (stepP L fl nth p s a b).cnt ≤ p.cnt + 1 ∧ (a ≤ b → a < (stepP L fl nth p s a b).pos) := by
  unfold stepP
  split
  · refine ⟨?_, ?_, ?_, ?_, ?_⟩ <;> simp only [] <;> omega
  · split
    · refine ⟨?_, ?_, ?_, ?_, ?_⟩ <;> simp only [] <;> omega
    · refine ⟨?_, ?_, ?_, ?_, ?_⟩ <;> simp only [] <;> omega

/-- Nothing is put in but itself: the text stays. -/
def Stays (L : List UInt8) (p : PS) : Prop := p.out = L.take p.pos
theorem stays_step {p : PS} {s : St} {a b : Nat} (h : Stays L p) (h1 : p.pos ≤ a) (h2 : a ≤ b) (hb : nth ≤ p.cnt + 1 → fl (bestC s) = seg L a b) : Stays L (stepP L fl nth p s a b) := by
  have e : (if nth ≤ p.cnt + 1 then fl (bestC s) else seg L a b) = seg L a b := by split; exact hb ‹_›; rfl
  unfold Stays at h
  unfold stepP Stays
  rw [e]
  split
  · simp only []
    rw [h, take_seg h1, take_seg (by omega)]
  · split
    · simp only []
      rename_i hab
      rw [h, take_seg h1, take_seg h2, ← hab, take_seg (by omega)]
    · simp only []
      rw [h, take_seg h1, take_seg h2]

theorem putS_itself (hF : SpanOk L.length F) (hfl : ∀ p, p ≤ L.length → ∀ a b, bestC (F p) 0 = some (a, b) → fl (bestC (F p)) = seg L a b) : ∀ (k : Nat) (p q : PS), putS F L fl nth all k p = some q → Stays L p → Stays L q ∧ p.pt ≤ q.pt
  | 0, p, q, h, hs => by rw [putS] at h; cases h; exact ⟨hs, Nat.le_refl _⟩
  | k + 1, p, q, h, hs => by
    rcases putS_cases hF h with ⟨_, rfl⟩ | ⟨h1, h2, ⟨h3, rfl⟩ | ⟨a, b, h3, g1, g2, g3, h4⟩⟩
    · exact ⟨hs, Nat.le_refl _⟩
    · exact ⟨hs, Nat.le_refl _⟩
    · have hst := stays_step (fl := fl) (nth := nth) (s := F p.pos) hs g1 g2 (fun _ => hfl _ h1.1 _ _ h3)
      obtain ⟨x1, x2⟩ := putS_itself hF hfl k _ q h4 hst
      refine ⟨x1, Nat.le_trans ?_ x2⟩
      unfold stepP
      split
      · simp
      · split <;> simp only [] <;> split <;> omega

/-- The core of a run: what does not depend on what is put in. -/
def coreP (p : PS) : Nat × Int × Nat × Nat := (p.pos, p.last, p.tries, p.cnt)
theorem core_step {p p' : PS} (h : coreP p = coreP p') (s : St) (a b : Nat) : coreP (stepP L fl nth p s a b) = coreP (stepP L fl' nth' p' s a b) := by
  unfold coreP at h
  injection h with e1 h; injection h with e2 h; injection h with e3 e4
  unfold stepP coreP
  rw [e2]
  split
  · simp [e3, e4]
  · split <;> simp [e3, e4]

theorem core_eq {p p' : PS} (h : coreP p = coreP p') : p.pos = p'.pos ∧ p.last = p'.last ∧ p.tries = p'.tries ∧ p.cnt = p'.cnt := by
  unfold coreP at h
  injection h with e1 h; injection h with e2 h; injection h with e3 e4
  exact ⟨e1, e2, e3, e4⟩

theorem core_run (hF : SpanOk L.length F) : ∀ (k : Nat) (p p' q q' : PS), coreP p = coreP p' → putS F L fl nth true k p = some q → putS F L fl' nth' true k p' = some q' → coreP q = coreP q'
  | 0, p, p', q, q', hc, h, h' => by rw [putS] at h h'; cases h; cases h'; exact hc
  | k + 1, p, p', q, q', hc, h, h' => by
    obtain ⟨e1, e2, e3, e4⟩ := core_eq hc
    rcases putS_cases hF h with ⟨n1, rfl⟩ | ⟨h1, h2, h5⟩
    · rw [putS_stop (by rw [← e1]; exact fun hh => n1 ⟨hh.1, .inl rfl⟩)] at h'
      cases h'; exact hc
    · rcases putS_cases hF h' with ⟨n1, rfl⟩ | ⟨h1', h2', h5'⟩
      · exact absurd ⟨e1 ▸ h1.1, .inl rfl⟩ n1
      · rw [← e1] at h5'
        rcases h5 with ⟨h3, rfl⟩ | ⟨a, b, h3, g1, g2, g3, h4⟩
        · rcases h5' with ⟨_, rfl⟩ | ⟨a', b', h3', _⟩
          · exact hc
          · rw [h3] at h3'; cases h3'
        · rcases h5' with ⟨h3', _⟩ | ⟨a', b', h3', g1', g2', g3', h4'⟩
          · rw [h3] at h3'; cases h3'
          · rw [h3] at h3'; cases h3'
            exact core_run hF k _ _ q q' (core_step hc _ _ _) h4 h4'

theorem cnt_up (hF : SpanOk L.length F) : ∀ (k : Nat) (p q : PS), putS F L fl nth all k p = some q → p.cnt ≤ q.cnt ∧ (p.pt = p.cnt + 1 - nth → q.pt = q.cnt + 1 - nth) ∧ ((p.pt = 0 → Stays L p) → q.pt = 0 → Stays L q)
  | 0, p, q, h => by rw [putS] at h; cases h; exact ⟨Nat.le_refl _, fun h => h, fun h => h⟩
  | k + 1, p, q, h => by
    rcases putS_cases hF h with ⟨_, rfl⟩ | ⟨h1, h2, ⟨h3, rfl⟩ | ⟨a, b, h3, g1, g2, g3, h4⟩⟩
    · exact ⟨Nat.le_refl _, fun h => h, fun h => h⟩
    · exact ⟨Nat.le_refl _, fun h => h, fun h => h⟩
    · obtain ⟨x1, x2, x3⟩ := cnt_up hF k _ q h4
      have hs := step_pos (L := L) (fl := fl) (nth := nth) p (F p.pos) g2
      refine ⟨Nat.le_trans hs.2.2.1 x1, fun e => x2 ?_, fun e => x3 ?_⟩
      · unfold stepP
        split
        · exact e
        · split <;> simp only [] <;> split <;> omega
      · intro h0
        have hpt : (stepP L fl nth p (F p.pos) a b).pt = 0 → p.pt = 0 ∧ (nth ≤ p.cnt + 1 → a = b ∧ (a : Int) = p.last) := by
          unfold stepP
          split
          · rename_i hh; intro h0; exact ⟨h0, fun _ => hh⟩
          · split <;> simp only [] <;> split <;> intro h0 <;> first | exact ⟨by omega, fun _ => by omega⟩ | omega
        obtain ⟨z1, z2⟩ := hpt h0
        by_cases hn : nth ≤ p.cnt + 1
        · have hh := z2 hn
          have hs := e z1
          unfold Stays at hs
          unfold stepP Stays
          rw [if_pos hh]
          simp only []
          rw [hs, take_seg g1, take_seg (by omega)]
        · exact stays_step (e z1) g1 g2 (fun h => absurd h hn)

/-- The run that stops behind the nth one is the beginning of the one that goes on. -/
theorem cnt_first (hF : SpanOk L.length F) : ∀ (k : Nat) (p p' q q' : PS), coreP p = coreP p' → p.cnt ≤ nth → putS F L fl nth' true k p = some q → putS F L fl' nth false k p' = some q' → q'.cnt = min q.cnt nth
  | 0, p, p', q, q', hc, hn, h, h' => by rw [putS] at h h'; cases h; cases h'; have := (core_eq hc).2.2.2; omega
  | k + 1, p, p', q, q', hc, hn, h, h' => by
    obtain ⟨e1, e2, e3, e4⟩ := core_eq hc
    have hu := (cnt_up hF _ _ _ h).1
    rcases putS_cases hF h' with ⟨n1, rfl⟩ | ⟨h1', h2', h5'⟩
    · by_cases hp : p.pos ≤ L.length
      · have : ¬ q'.cnt < nth := fun hh => n1 ⟨e1 ▸ hp, .inr hh⟩
        omega
      · rw [putS_stop (fun hh => hp hh.1)] at h
        cases h; omega
    · rw [← e1] at h5'
      rcases putS_cases hF h with ⟨n1, rfl⟩ | ⟨h1, h2, h5⟩
      · exact absurd ⟨e1 ▸ h1'.1, .inl rfl⟩ n1
      · rcases h5 with ⟨h3, rfl⟩ | ⟨a, b, h3, g1, g2, g3, h4⟩
        · rcases h5' with ⟨_, rfl⟩ | ⟨a', b', h3', _⟩
          · omega
          · rw [h3] at h3'; cases h3'
        · rcases h5' with ⟨h3', _⟩ | ⟨a', b', h3', g1', g2', g3', h4'⟩
          · rw [h3] at h3'; cases h3'
          · rw [h3] at h3'; cases h3'
            have hs := step_pos (L := L) (fl := fl) (nth := nth') p (F p.pos) g2
            have hlt : p'.cnt < nth := by
              rcases h1'.2 with h | h
              · cases h
              · exact h
            exact cnt_first hF k _ _ q q' (core_step hc _ _ _) (by omega) h4 h4'

/-- Enough fuel. -/
theorem putS_enough (hF : SpanOk L.length F) : ∀ (k : Nat) (p : PS), L.length + 1 ≤ k + p.pos → ∀ j, putS F L fl nth all (k + j) p = putS F L fl nth all k p
  | 0, p, h, j => by
    rw [putS_stop (p := p) (by omega), putS]
  | k + 1, p, h, j => by
    rw [show k + 1 + j = (k + j) + 1 by omega]
    by_cases h1 : p.pos ≤ L.length ∧ (all = true ∨ p.cnt < nth)
    · by_cases h2 : (F p.pos).over = true ∨ 3000 < p.tries + (F p.pos).tries
      · rw [putS_bad h1 h2, putS_bad h1 h2]
      · cases h3 : bestC (F p.pos) 0 with
        | none => rw [putS_none h1 h2 h3, putS_none h1 h2 h3]
        | some o =>
          obtain ⟨a, b⟩ := o
          have ho : (F p.pos).over = false := by
            cases h9 : (F p.pos).over with
            | false => rfl
            | true => exact absurd (.inl h9) h2
          obtain ⟨g1, g2, g3⟩ := hF _ h1.1 ho _ _ h3
          have hs := step_pos (L := L) (fl := fl) (nth := nth) p (F p.pos) g2
          rw [putS_some h1 h2 h3, putS_some h1 h2 h3]
          exact putS_enough hF k _ (by omega) j
    · rw [putS_stop h1, putS_stop h1]
end

end Go.Proofs.Ytkidjbfapldmbaa
