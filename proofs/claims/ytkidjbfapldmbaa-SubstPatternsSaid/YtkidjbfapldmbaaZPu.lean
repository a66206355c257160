import Derived.Test.YtkidjbfapldmbaaZFna
set_option linter.unusedVariables false
set_option linter.unusedSimpArgs false
namespace Go.Proofs.Ytkidjbfapldmbaa
open Go.RowKit P8
def seg (L : List UInt8) (i j : Nat) : List UInt8 := (L.drop i).take (j - i)
theorem seg_len (L : List UInt8) (i j : Nat) : (seg L i j).length ≤ j - i := by unfold seg; simp; omega
structure PS where
 (out : List UInt8) (pos : Nat) (last : Int) (tries cnt pt : Nat)
def stepP (L : List UInt8) (fl : Caps → List UInt8) (nth : Nat) (p : PS) (s : St) (a b : Nat) : PS :=
 if a = b ∧ (a : Int) = p.last then ⟨p.out ++ seg L p.pos a ++ seg L a (a + 1), a + 1, -1, p.tries + s.tries, p.cnt, p.pt⟩
 else if a = b then ⟨p.out ++ seg L p.pos a ++ (if nth ≤ p.cnt + 1 then fl (bestC s) else seg L a b) ++ seg L a (a + 1), a + 1, -1, p.tries + s.tries, p.cnt + 1, if nth ≤ p.cnt + 1 then p.pt + 1 else p.pt⟩
 else ⟨p.out ++ seg L p.pos a ++ (if nth ≤ p.cnt + 1 then fl (bestC s) else seg L a b), b, b, p.tries + s.tries, p.cnt + 1, if nth ≤ p.cnt + 1 then p.pt + 1 else p.pt⟩
def putS (F : Nat → St) (L : List UInt8) (fl : Caps → List UInt8) (nth : Nat) (all : Bool) : Nat → PS → Option PS
 | 0, p => some p
 | k + 1, p => if p.pos ≤ L.length ∧ (all = true ∨ p.cnt < nth) then
   (if (F p.pos).over = true ∨ 3000 < p.tries + (F p.pos).tries then none
    else match bestC (F p.pos) 0 with
     | none => some p
     | some (a, b) => putS F L fl nth all k (stepP L fl nth p (F p.pos) a b))
  else some p
def begP : PS := ⟨[], 0, -1, 0, 0, 0⟩
section
variable {F : Nat → St} {L : List UInt8} {fl fl' : Caps → List UInt8} {nth nth' : Nat} {all : Bool}
theorem putS_stop {k : Nat} {p : PS} (h : ¬ (p.pos ≤ L.length ∧ (all = true ∨ p.cnt < nth))) : putS F L fl nth all k p = some p := by
 cases k with
 | zero => rfl
 | succ k => rw [putS, if_neg h]
theorem putS_bad {k : Nat} {p : PS} (h : p.pos ≤ L.length ∧ (all = true ∨ p.cnt < nth)) (hb : (F p.pos).over = true ∨ 3000 < p.tries + (F p.pos).tries) : putS F L fl nth all (k + 1) p = none := by
 rw [putS, if_pos h, if_pos hb]
theorem putS_none {k : Nat} {p : PS} (h : p.pos ≤ L.length ∧ (all = true ∨ p.cnt < nth)) (hb : ¬ ((F p.pos).over = true ∨ 3000 < p.tries + (F p.pos).tries)) (hn : bestC (F p.pos) 0 = none) : putS F L fl nth all (k + 1) p = some p := by
 rw [putS, if_pos h, if_neg hb, hn]
theorem putS_some {k : Nat} {p : PS} (h : p.pos ≤ L.length ∧ (all = true ∨ p.cnt < nth)) (hb : ¬ ((F p.pos).over = true ∨ 3000 < p.tries + (F p.pos).tries)) {a b : Nat} (hn : bestC (F p.pos) 0 = some (a, b)) :
  putS F L fl nth all (k + 1) p = putS F L fl nth all k (stepP L fl nth p (F p.pos) a b) := by
 rw [putS, if_pos h, if_neg hb, hn]
theorem step_pos (p : PS) (s : St) {a b : Nat} (h : a ≤ b) : a ≤ (stepP L fl nth p s a b).pos ∧ (stepP L fl nth p s a b).pos ≤ b + 1 ∧ p.cnt ≤ (stepP L fl nth p s a b).cnt ∧ (stepP L fl nth p s a b).cnt ≤ p.cnt + 1 ∧ (a ≤ b → a < (stepP L fl nth p s a b).pos) := by
 unfold stepP
 split
 ·refine ⟨?_, ?_, ?_, ?_, ?_⟩ <;> simp only [] <;> omega
 ·split
  ·refine ⟨?_, ?_, ?_, ?_, ?_⟩ <;> simp only [] <;> omega
  ·refine ⟨?_, ?_, ?_, ?_, ?_⟩ <;> simp only [] <;> omega
end
end Go.Proofs.Ytkidjbfapldmbaa
