/- A delimited text, plain; escape of the program. -/
import Derived.Test.YtilnccjdbdcklaaDoorBeh
import Derived.Test.YtilnccjdbdcklaaDoorLin
namespace Go.Proofs.YtilnccjdbdcklaaDoor
set_option linter.unusedVariables false
set_option linter.unusedSimpArgs false
open Go.RowKit

theorem brkF_le (L : List UInt8) : ∀ (n k : Nat) (f : Bool), k ≤ L.length → k ≤ brkF L n k f ∧ brkF L n k f ≤ L.length
  | 0, k, f, h => by unfold brkF; exact ⟨h, Nat.le_refl _⟩
  | n + 1, k, f, h => by
    unfold brkF
    split
    · rename_i h1
      split
      · omega
      · split
        · split
          · omega
          · rename_i h4
            have := idx_room L k _ h4
            have := brkF_le L n _ false this
            omega
        · have := brkF_le L n (k + 1) false (by omega)
          omega
    · omega
theorem brk_le (L : List UInt8) (h : 1 ≤ L.length) : 1 ≤ brk L ∧ brk L ≤ L.length := by
  unfold brk
  have hk : (if Lib.hasPrefix (L.drop 1) [94] = true then 2 else 1) ≤ L.length ∧ 1 ≤ (if Lib.hasPrefix (L.drop 1) [94] = true then 2 else 1) := by
    split
    · rename_i hp; have := ((pre94 L).1 hp).1; omega
    · omega
  have := brkF_le L L.length _ true hk.1
  omega
theorem lnA_pos {s : ByteArray} {a : Nat} (ha : a < s.size) (h : s[a] ≠ 10) : 1 ≤ (lnA s a).length := by
  rcases Nat.eq_zero_or_pos (lnA s a).length with h0 | h0
  · exfalso
    have h6 := ln_end (s := s) (a := a) (by omega)
    exact h (by rw [← h6]; congr 1; omega)
  · exact h0

def delF (s : ByteArray) (d : UInt8) (p : Bool) : Nat → Nat → List UInt8 → Option (List UInt8) × Nat
  | 0, b, _ => (none, b)
  | n + 1, b, o =>
    if h : b < s.size then
      if s[b] = 10 then (none, b)
      else if s[b] = d then (some o, b + 1)
      else if s[b] = 91 ∧ p = true then delF s d p n (b + brk (lnA s b)) (o ++ (s.toList.drop b).take (brk (lnA s b)))
      else if s[b] = 92 then
        (if h2 : b + 1 < s.size then
          if s[b + 1] = 10 ∧ p = true then (none, b + 1)
          else if s[b + 1] = d ∧ ¬ (p = true ∧ d = 110) then delF s d p n (b + 2) (o ++ [s[b + 1]])
          else delF s d p n (b + 2) (o ++ [92, s[b + 1]])
        else (none, b + 1))
      else delF s d p n (b + 1) (o ++ [s[b]])
    else (none, b)

section
variable {s : ByteArray} {d : UInt8} {p : Bool} {n b : Nat} {o : List UInt8}
theorem del_end (h : ¬ b < s.size) : delF s d p (n + 1) b o = (none, b) := by rw [delF, dif_neg h]
theorem del_lf (h : b < s.size) (h1 : s[b] = 10) : delF s d p (n + 1) b o = (none, b) := by rw [delF, dif_pos h, if_pos h1]
theorem del_d (h : b < s.size) (h1 : s[b] ≠ 10) (h2 : s[b] = d) : delF s d p (n + 1) b o = (some o, b + 1) := by rw [delF, dif_pos h, if_neg h1, if_pos h2]
theorem del_br (h : b < s.size) (h1 : s[b] ≠ 10) (h2 : s[b] ≠ d) (h3 : s[b] = 91 ∧ p = true) : delF s d p (n + 1) b o = delF s d p n (b + brk (lnA s b)) (o ++ (s.toList.drop b).take (brk (lnA s b))) := by
  rw [delF, dif_pos h, if_neg h1, if_neg h2, if_pos h3]
theorem del_byte (h : b < s.size) (h1 : s[b] ≠ 10) (h2 : s[b] ≠ d) (h3 : ¬ (s[b] = 91 ∧ p = true)) (h4 : s[b] ≠ 92) : delF s d p (n + 1) b o = delF s d p n (b + 1) (o ++ [s[b]]) := by
  rw [delF, dif_pos h, if_neg h1, if_neg h2, if_neg h3, if_neg h4]
theorem del_e0 (h : b < s.size) (h1 : s[b] ≠ 10) (h2 : s[b] ≠ d) (h4 : s[b] = 92) (h5 : ¬ b + 1 < s.size) : delF s d p (n + 1) b o = (none, b + 1) := by
  rw [delF, dif_pos h, if_neg h1, if_neg h2, if_neg (by rw [h4]; exact fun x => absurd x.1 (by decide)), if_pos h4, dif_neg h5]
theorem del_e1 (h : b < s.size) (h1 : s[b] ≠ 10) (h2 : s[b] ≠ d) (h4 : s[b] = 92) (h5 : b + 1 < s.size) (h6 : s[b + 1] = 10 ∧ p = true) : delF s d p (n + 1) b o = (none, b + 1) := by
  rw [delF, dif_pos h, if_neg h1, if_neg h2, if_neg (by rw [h4]; exact fun x => absurd x.1 (by decide)), if_pos h4, dif_pos h5, if_pos h6]
theorem del_e2 (h : b < s.size) (h1 : s[b] ≠ 10) (h2 : s[b] ≠ d) (h4 : s[b] = 92) (h5 : b + 1 < s.size) (h6 : ¬ (s[b + 1] = 10 ∧ p = true)) (h7 : s[b + 1] = d ∧ ¬ (p = true ∧ d = 110)) : delF s d p (n + 1) b o = delF s d p n (b + 2) (o ++ [s[b + 1]]) := by
  rw [delF, dif_pos h, if_neg h1, if_neg h2, if_neg (by rw [h4]; exact fun x => absurd x.1 (by decide)), if_pos h4, dif_pos h5, if_neg h6, if_pos h7]
theorem del_e3 (h : b < s.size) (h1 : s[b] ≠ 10) (h2 : s[b] ≠ d) (h4 : s[b] = 92) (h5 : b + 1 < s.size) (h6 : ¬ (s[b + 1] = 10 ∧ p = true)) (h7 : ¬ (s[b + 1] = d ∧ ¬ (p = true ∧ d = 110))) : delF s d p (n + 1) b o = delF s d p n (b + 2) (o ++ [92, s[b + 1]]) := by
  rw [delF, dif_pos h, if_neg h1, if_neg h2, if_neg (by rw [h4]; exact fun x => absurd x.1 (by decide)), if_pos h4, dif_pos h5, if_neg h6, if_neg h7]
end

/-- The answer of a delimited text: what is read, the error, the place. -/
def delS (s : ByteArray) (d : UInt8) (p : Bool) (a : Nat) : List UInt8 × Int × Nat :=
  if d = 92 ∨ d = 10 then ([], 9, a)
  else match delF s d p (s.size + 1) a [] with
    | (some o, b) => (o, 0, b)
    | (none, b) => ([], 9, b)
theorem delS_not {s : ByteArray} {d : UInt8} {p : Bool} {a : Nat} (h : d = 92 ∨ d = 10) : delS s d p a = ([], 9, a) := by unfold delS; rw [if_pos h]
theorem delS_some {s : ByteArray} {d : UInt8} {p : Bool} {a b : Nat} {o : List UInt8} (h : ¬ (d = 92 ∨ d = 10)) (h2 : delF s d p (s.size + 1) a [] = (some o, b)) : delS s d p a = (o, 0, b) := by unfold delS; rw [if_neg h, h2]
theorem delS_none {s : ByteArray} {d : UInt8} {p : Bool} {a b : Nat} (h : ¬ (d = 92 ∨ d = 10)) (h2 : delF s d p (s.size + 1) a [] = (none, b)) : delS s d p a = ([], 9, b) := by unfold delS; rw [if_neg h, h2]

theorem conv_two (w : World) (d : UInt8) : (convert 43 9 (.slice (some ⟨w.heap.size, 0, none⟩) 2 2)).run Tryd.prog (w.alloc (.cells #[.int .u8 92, .int .u8 d.toNat] 5)) = .ok (.string ⟨#[92, d]⟩) (w.alloc (.cells #[.int .u8 92, .int .u8 d.toNat] 5)) := by
  exact run_convert_bytes_back (P := Tryd.prog) _ 43 9 5 ⟨w.heap.size, 0, none⟩ 2 [92, d] Tryd.underlying43 Tryd.underlying5 Tryd.underlying9 (fun j hj => by
    rw [Addr.add_lit]
    have hB := Blk.new w #[.int .u8 92, .int .u8 d.toNat] 5
    have : j = 0 ∨ j = 1 := by simp at hj; omega
    rcases this with rfl | rfl
    · exact hB.cell 0 rfl
    · exact hB.cell 1 rfl)

def escP (c d : UInt8) (p : Bool) : List UInt8 := if c = d ∧ ¬ (p = true ∧ d = 110) then [c] else [92, c]
set_option maxRecDepth 100000 in
theorem escape_any (c d : UInt8) (p : Bool) (w : World) :
    Calls Tryd.prog 45 #[.int .u8 c.toNat, .int .u8 d.toNat, .bool p] w fun e w' => e = .returned (.string ⟨(escP c d p).toArray⟩) ∧ Keep Nb w w' := by
  have hc1 := one_conv w c
  have hc2 := conv_two w c
  have h110 := u8i d 110 110 rfl
  by_cases h : c = d
  · subst h
    have m1 : ((c.toNat : Int) == (c.toNat : Int)) = true := by simp
    cases p with
    | false =>
      have HE : Hid (escP c c false = [c]) := Lib.hid (by unfold escP; rw [if_pos ⟨rfl, fun x => by cases x.1⟩])
      rw [HE.out]
      clear h110
      go_enter Tryd.func45, Tryd.ntmps45
      go_wp2_with fail
      go_ret
      exact ⟨rfl, Keep.alloc (Keep.refl _ _) _⟩
    | true =>
      by_cases h1 : c = 110
      · have m2 : ((c.toNat : Int) == 110) = true := beq_iff_eq.2 (h110.1 h1)
        have HE : Hid (escP c c true = [92, c]) := Lib.hid (by unfold escP; rw [if_neg (fun x => x.2 ⟨rfl, h1⟩)])
        rw [HE.out]
        clear h110 h1
        go_enter Tryd.func45, Tryd.ntmps45
        go_wp2_with fail
        go_ret
        exact ⟨rfl, Keep.alloc (Keep.refl _ _) _⟩
      · have m2 : ((c.toNat : Int) == 110) = false := beq_eq_false_iff_ne.2 (fun x => h1 (h110.2 x))
        have HE : Hid (escP c c true = [c]) := Lib.hid (by unfold escP; rw [if_pos ⟨rfl, fun x => h1 x.2⟩])
        rw [HE.out]
        clear h110 h1
        go_enter Tryd.func45, Tryd.ntmps45
        go_wp2_with fail
        go_ret
        exact ⟨rfl, Keep.alloc (Keep.refl _ _) _⟩
  · have m1 : ((c.toNat : Int) == (d.toNat : Int)) = false := beq_eq_false_iff_ne.2 (fun x => h (UInt8.toNat_inj.1 (by omega)))
    have HE : Hid (escP c d p = [92, c]) := Lib.hid (by unfold escP; rw [if_neg (fun x => h x.1)])
    rw [HE.out]
    clear h110 h
    go_enter Tryd.func45, Tryd.ntmps45
    go_wp2_with fail
    go_ret
    exact ⟨rfl, Keep.alloc (Keep.refl _ _) _⟩

end Go.Proofs.YtilnccjdbdcklaaDoor
