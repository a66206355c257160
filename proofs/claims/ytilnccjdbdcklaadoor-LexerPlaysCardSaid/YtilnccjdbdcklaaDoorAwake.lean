/- A delimited pattern, a delimited replacement; the lexer is no idle one: awake. -/
import Derived.Test.YtilnccjdbdcklaaDoorDelim
namespace Go.Proofs.YtilnccjdbdcklaaDoor
set_option linter.unusedVariables false
set_option linter.unusedSimpArgs false
open Go.RowKit

theorem pattern_any (p : Nat) (s : ByteArray) (d : UInt8) (text behind : List UInt8) (hs : s.toList = encD d text ++ d :: behind) (hd : d ≠ 92 ∧ d ≠ 10 ∧ d ≠ 110 ∧ d ≠ 91) (hx : ∀ c ∈ text, c ≠ 92 ∧ c ≠ 10 ∧ c ≠ 91) (ht : text.length ≤ 500) (hz : s.size ≤ 1000000) (w : World) (hb : LexAt w p s 0) :
    Calls Tryd.prog 13 #[.pointer (some ⟨p, 0, none⟩), .int .u8 d.toNat] w fun e w' => e = .returned (.tuple #[.string ⟨text.toArray⟩, .int .i64 0]) ∧ LexAt w' p s ((encD d text).length + 1) ∧ Keep (Ob p) w w' := by
  have h := Lib.hid (delim_t p s d text behind hs hd hx ht hz w hb)
  clear hs hd hx
  go_enter Tryd.func13, Tryd.ntmps13
  go_wp2_with fail
  refine h.out.mono ?_
  rintro e w2 ⟨rfl, hl, hk⟩
  have HL := Lib.hid hl
  clear hl
  go_wp2_with fail
  go_ret2
  exact ⟨rfl, HL.out, hk⟩

theorem replacement_any (p : Nat) (s : ByteArray) (d : UInt8) (text behind : List UInt8) (hs : s.toList = encD d text ++ d :: behind) (hd : d ≠ 92 ∧ d ≠ 10 ∧ d ≠ 110 ∧ d ≠ 91) (hx : ∀ c ∈ text, c ≠ 92 ∧ c ≠ 10 ∧ c ≠ 91) (ht : text.length ≤ 500) (hz : s.size ≤ 1000000) (w : World) (hb : LexAt w p s 0) :
    Calls Tryd.prog 25 #[.pointer (some ⟨p, 0, none⟩), .int .u8 d.toNat] w fun e w' => e = .returned (.tuple #[.string ⟨text.toArray⟩, .int .i64 0]) ∧ LexAt w' p s ((encD d text).length + 1) ∧ Keep (Ob p) w w' := by
  have h := Lib.hid (delim_f p s d text behind hs hd hx ht hz w hb)
  clear hs hd hx
  go_enter Tryd.func25, Tryd.ntmps25
  go_wp2_with fail
  refine h.out.mono ?_
  rintro e w2 ⟨rfl, hl, hk⟩
  have HL := Lib.hid hl
  clear hl
  go_wp2_with fail
  go_ret2
  exact ⟨rfl, HL.out, hk⟩

theorem awake_any (w : World) : Calls Tryd.prog 6 #[] w fun e w' => e = .returned (.bool true) ∧ Keep Nb w w' := by
  go_enter Tryd.func6, Tryd.ntmps6
  go_wp2_with fail
  refine (new_any _ _).mono ?_
  rintro e w2 ⟨p, rfl, hp, hb, hk⟩
  go_wp2_with fail
  refine (pattern_any p ⟨#[97, 92, 47, 98, 47, 99]⟩ 47 [97, 47, 98] [99] (by rw [ByteArray.toList_eq]; rfl) (by decide) (by decide) (by decide) (by decide) _ hb).mono ?_
  rintro e w3 ⟨rfl, hb3, hk3⟩
  go_wp2_with fail
  refine (at_any p _ _ _ hb3).mono ?_
  rintro e w4 ⟨rfl, hk4⟩
  have hb4 := hb3.keep hk4 id
  rw [show (encD 47 [97, 47, 98]).length + 1 = 5 from rfl] at hb4
  simp only [show (((encD 47 [97, 47, 98]).length + 1 : Nat) : Int) = 5 from rfl]
  go_wp2_with fail
  refine (peek_at p _ 5 99 _ hb4 (by rw [ByteArray.toList_eq]; rfl)).mono ?_
  rintro e w5 ⟨rfl, hk5⟩
  simp only [show (((99 : UInt8).toNat : Nat) : Int) = 99 from rfl]
  go_wp2_with fail
  go_ret
  exact ⟨rfl, hk.trans (hk3.trans (hk4.trans hk5 (fun _ _ h => h) |>.mono fun _ _ h => h.elim) (fun _ _ h => h)) (fun b hb h => by simp only [Ob] at h; omega)⟩

end Go.Proofs.YtilnccjdbdcklaaDoor
