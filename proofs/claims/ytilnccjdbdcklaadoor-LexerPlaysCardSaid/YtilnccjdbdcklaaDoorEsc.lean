/- What the lexer makes of a byte behind a backslash, if it is the delimiter: escape. -/
import Derived.Test.YtilnccjdbdcklaaDoorLines
import Derived.Laws.IdiomStrings
namespace Go.Proofs.YtilnccjdbdcklaaDoor
set_option linter.unusedVariables false
set_option linter.unusedSimpArgs false
open Go.RowKit

theorem one_conv (w : World) (d : UInt8) : (convert 43 9 (.slice (some ⟨w.heap.size, 0, none⟩) 1 1)).run Tryd.prog (w.alloc (.cells #[.int .u8 d.toNat] 5)) = .ok (.string ⟨#[d]⟩) (w.alloc (.cells #[.int .u8 d.toNat] 5)) := by
  have h := run_convert_bytes_back (P := Tryd.prog) (w.alloc (.cells #[.int .u8 d.toNat] 5)) 43 9 5 ⟨w.heap.size, 0, none⟩ 1 [d] Tryd.underlying43 Tryd.underlying5 Tryd.underlying9 (fun j hj => by
    have : j = 0 := by simp at hj; omega
    subst this
    rw [Addr.add_lit]
    exact Blk.cell (Blk.new w #[.int .u8 d.toNat] 5) 0 rfl)
  exact h

theorem escape_same (d : UInt8) (pat : Bool) (hn : d ≠ 110) (w : World) :
    Calls Tryd.prog 45 #[.int .u8 d.toNat, .int .u8 d.toNat, .bool pat] w fun e w' => e = .returned (.string ⟨#[d]⟩) ∧ Keep Nb w w' := by
  have m110 : ((d.toNat : Int) == 110) = false := u8_ne (n := 110) (by omega) hn
  have m1 : ((d.toNat : Int) == (d.toNat : Int)) = true := by simp
  have hcv := one_conv w d
  cases pat with
  | true =>
    go_enter Tryd.func45, Tryd.ntmps45
    go_wp2_with fail
    go_ret
    exact ⟨rfl, (by repeat (first | assumption | exact Keep.refl _ _ | refine Keep.alloc ?_ _ | refine Keep.drew ?_ | refine Keep.setCell ?_ (Or.inl (by simp)) _ | refine Keep.setRow ?_ (Or.inl (by simp)) _))⟩
  | false =>
    go_enter Tryd.func45, Tryd.ntmps45
    go_wp2_with fail
    go_ret
    exact ⟨rfl, (by repeat (first | assumption | exact Keep.refl _ _ | refine Keep.alloc ?_ _ | refine Keep.drew ?_ | refine Keep.setCell ?_ (Or.inl (by simp)) _ | refine Keep.setRow ?_ (Or.inl (by simp)) _))⟩

/-- A text with its delimiters behind backslashes. -/
def encD1 (d c : UInt8) : List UInt8 := if c = d then [92, c] else [c]
def encD (d : UInt8) (l : List UInt8) : List UInt8 := l.flatMap (encD1 d)
theorem encD_take (d : UInt8) (l : List UInt8) (j : Nat) (hj : j < l.length) : encD d (l.take (j + 1)) = encD d (l.take j) ++ encD1 d l[j] := by
  rw [List.take_succ_eq_append_getElem hj, encD, List.flatMap_append]; simp [encD]
theorem encD_split (d : UInt8) (l : List UInt8) (j : Nat) (hj : j < l.length) : encD d l = encD d (l.take j) ++ (encD1 d l[j] ++ encD d (l.drop (j + 1))) := by
  conv => lhs; rw [← List.take_append_drop (j + 1) l]
  rw [encD, List.flatMap_append]
  have := encD_take d l j hj
  rw [encD] at this
  rw [this, List.append_assoc]; rfl
theorem encD_len (d : UInt8) : ∀ l : List UInt8, (encD d l).length ≤ 2 * l.length
  | [] => by simp [encD]
  | x :: r => by
    have h1 := encD_len d r
    have h2 : (encD1 d x).length ≤ 2 := by unfold encD1; split <;> simp
    rw [encD, List.flatMap_cons, List.length_append, List.length_cons]
    rw [encD] at h1
    omega

theorem peek_at (p : Nat) (s : ByteArray) (a : Nat) (c : UInt8) (w : World) (hb : LexAt w p s a) (h : s.toList[a]? = some c) :
    Calls Tryd.prog 14 #[.pointer (some ⟨p, 0, none⟩)] w fun e w' => e = .returned (.int .u8 c.toNat) ∧ Keep Nb w w' := by
  obtain ⟨ha, rfl⟩ := byte_at h
  exact peek_some p s a w hb ha

end Go.Proofs.YtilnccjdbdcklaaDoor
