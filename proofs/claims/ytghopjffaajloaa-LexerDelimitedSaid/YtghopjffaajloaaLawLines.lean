/- For every input LexerLines returns true. -/
import Derived.Test.YtghopjffaajloaaAwake
namespace Go.Proofs.Ytghopjffaajloaa
set_option linter.unusedVariables false
set_option linter.unusedSimpArgs false
open Go.RowKit

theorem add_ok (x y : ByteArray) (h : x.size + y.size ≤ 1000000) : Op.stringOp .add x y = pure (.string (x ++ y)) := by
  have : ¬ (((x.size + y.size : Nat) : Int) > IntKind.i64.max) := by
    have : IntKind.i64.max = 9223372036854775807 := rfl
    omega
  simp only [Op.stringOp, this, if_false]

theorem app_toList (x y : ByteArray) : (x ++ y).toList = x.toList ++ y.toList := by
  rw [ByteArray.toList_eq, ByteArray.toList_eq, ByteArray.toList_eq]; simp
theorem app_size (x y : ByteArray) : (x ++ y).size = x.size + y.size := by simp

theorem extract_one (s : ByteArray) (j : Nat) (c : UInt8) (h : s.toList[j]? = some c) : (s.extract j (j + 1)).toList = [c] := by
  rw [ByteArray.toList_eq] at h ⊢
  obtain ⟨hj, hc⟩ := List.getElem?_eq_some_iff.1 h
  simp only [ByteArray.data_extract, Array.toList_extract, List.extract]
  rw [List.drop_eq_getElem_cons hj, Nat.add_sub_cancel_left]
  simp only [List.take_succ_cons, List.take_zero]
  rw [hc]

theorem s92 : (⟨#[92]⟩ : ByteArray).size = 1 := rfl
theorem s10 : (⟨#[10]⟩ : ByteArray).size = 1 := rfl
theorem l92 : (⟨#[92]⟩ : ByteArray).toList = [92] := by rw [ByteArray.toList_eq]
theorem l10 : (⟨#[10]⟩ : ByteArray).toList = [10] := by rw [ByteArray.toList_eq]

theorem lines_long (text behind : ByteArray) (h : 500 < text.size ∨ 100 < behind.size) (w : World) :
    Calls Try.prog 4 #[.string text, .string behind] w fun e w' => e = .returned (.bool true) ∧ Keep Nb w w' := by
  by_cases h1 : 500 < text.size
  · have m1 : decide (500 < (text.size : Int)) = true := by simp; omega
    clear h h1
    go_enter Try.func4, Try.ntmps4
    go_wp2_with fail
    refine (awake_any _).mono ?_
    rintro e w2 ⟨rfl, hk2⟩
    go_wp2_with fail
    refine (awake_any _).mono ?_
    rintro e w3 ⟨rfl, hk3⟩
    go_wp2_with fail
    go_ret
    exact ⟨rfl, hk2.trans hk3 (fun _ _ h => h)⟩
  · have m1 : decide (500 < (text.size : Int)) = false := by simp; omega
    have m2 : decide (100 < (behind.size : Int)) = true := by simp; omega
    clear h h1
    go_enter Try.func4, Try.ntmps4
    go_wp2_with fail
    refine (awake_any _).mono ?_
    rintro e w2 ⟨rfl, hk2⟩
    go_wp2_with fail
    refine (awake_any _).mono ?_
    rintro e w3 ⟨rfl, hk3⟩
    go_wp2_with fail
    go_ret
    exact ⟨rfl, hk2.trans hk3 (fun _ _ h => h)⟩

set_option maxRecDepth 100000 in
set_option maxHeartbeats 2000000 in
theorem lines_short (text behind : ByteArray) (ht : text.size ≤ 500) (hbh : behind.size ≤ 100) (w : World) :
    Calls Try.prog 4 #[.string text, .string behind] w fun e w' => e = .returned (.bool true) ∧ Keep Nb w w' := by
  have m1 : decide (500 < (text.size : Int)) = false := by simp; omega
  have m2 : decide (100 < (behind.size : Int)) = false := by simp; omega
  go_enter Try.func4, Try.ntmps4
  go_wp2_with fail
  refine (awake_any _).mono ?_
  rintro e w2 ⟨rfl, hk2⟩
  go_wp2_with fail
  go_loopw [5, 23] (fun o i wr => ∃ (j : Nat) (x : ByteArray), j ≤ text.size ∧ i = .int .i64 j ∧ o = .string x ∧ Hid (x.toList = enc (text.toList.take j)) ∧ Keep Nb w wr) (fun _ i _ => text.size - (match i with | .int _ a => a.toNat | _ => 0))
  case atStart => exact ⟨0, ⟨#[]⟩, by omega, rfl, rfl, Lib.hid (by rw [ByteArray.toList_eq]; rfl), hk2⟩
  case round =>
    obtain ⟨j, x, hj, rfl, rfl, hx, hk⟩ := hrel
    clear hk2
    have hxl := enc_len (text.toList.take j)
    have hxs : x.size ≤ 1000 := by
      rw [← toList_len, hx.out]
      rw [List.length_take] at hxl
      omega
    clear hxl
    by_cases hlt : j < text.size
    · have hj0 : (0 : Int) ≤ (j : Int) := by omega
      have hj1 : (j : Int) < (text.size : Int) := by omega
      have htl : j < text.toList.length := by rw [toList_len]; exact hlt
      have hb : text[j] = text.toList[j] := (byte_at (List.getElem?_eq_getElem htl)).2
      have htk := enc_take text.toList j htl
      have hex : (text.extract j (j + 1)).toList = [text.toList[j]] := extract_one _ _ _ (List.getElem?_eq_getElem htl)
      have hes : (text.extract j (j + 1)).size = 1 := by rw [← toList_len, hex]; rfl
      rw [← hb] at hex htk
      obtain ⟨c, hc⟩ : ∃ c, text[j] = c := ⟨_, rfl⟩
      rw [hc] at hex htk
      have HX := Lib.hid hx.out
      have HE := Lib.hid hex
      clear hex hb hx
      by_cases hesc : c = 92 ∨ c = 10
      · have he1 : enc1 c = [92, c] := if_pos hesc
        rw [he1] at htk
        have HT := Lib.hid htk
        have a1 := add_ok x ⟨#[92]⟩ (by rw [s92]; omega)
        have a2 := add_ok (x ++ ⟨#[92]⟩) (text.extract j (j + 1)) (by rw [app_size, hes, s92]; omega)
        clear htk he1
        by_cases e92 : c = 92
        · have m92 : ((c.toNat : Int) == 92) = true := by rw [e92]; rfl
          clear hesc e92
          go_wp2_with fail
          go_roundw
          case rel =>
            refine ⟨j + 1, _, by omega, by go_num, rfl, Lib.hid ?_, hk⟩
            rw [app_toList, app_toList, HX.out, HE.out, l92, HT.out, List.append_assoc]; rfl
          case measure => simp; omega
        · have m92 : ((c.toNat : Int) == 92) = false := u8_ne (n := 92) (by omega) e92
          have m10 : ((c.toNat : Int) == 10) = true := by rw [hesc.resolve_left e92]; rfl
          clear hesc e92
          go_wp2_with fail
          go_roundw
          case rel =>
            refine ⟨j + 1, _, by omega, by go_num, rfl, Lib.hid ?_, hk⟩
            rw [app_toList, app_toList, HX.out, HE.out, l92, HT.out, List.append_assoc]; rfl
          case measure => simp; omega
      · have he1 : enc1 c = [c] := if_neg hesc
        rw [he1] at htk
        have HT := Lib.hid htk
        have a2 := add_ok x (text.extract j (j + 1)) (by rw [hes]; omega)
        have m92 : ((c.toNat : Int) == 92) = false := u8_ne (n := 92) (by omega) (fun h => hesc (.inl h))
        have m10 : ((c.toNat : Int) == 10) = false := u8_ne (n := 10) (by omega) (fun h => hesc (.inr h))
        clear htk he1 hesc
        go_wp2_with fail
        go_roundw
        case rel =>
          refine ⟨j + 1, _, by omega, by go_num, rfl, Lib.hid ?_, hk⟩
          rw [app_toList, HX.out, HE.out, HT.out]
        case measure => simp; omega
    · obtain rfl : j = text.size := by omega
      have hx1 := hx.out
      rw [← toList_len, List.take_length] at hx1
      have hL : (enc text.toList).length = x.size := by rw [← hx1, toList_len]
      have a3 := add_ok x ⟨#[10]⟩ (by rw [s10]; omega)
      have a4 := add_ok (x ++ ⟨#[10]⟩) behind (by rw [app_size, s10]; omega)
      have hs : (x ++ ⟨#[10]⟩ ++ behind).toList = enc text.toList ++ 10 :: behind.toList := by rw [app_toList, app_toList, hx1, l10, List.append_assoc]; rfl
      have hz : (x ++ ⟨#[10]⟩ ++ behind).size ≤ 1000000 := by rw [app_size, app_size, s10]; omega
      have HS := Lib.hid hs
      have HL := Lib.hid hL
      clear hx hx1 hs hL hlt
      go_wp2_with fail
      refine (new_any _ _).mono ?_
      rintro e w3 ⟨p, rfl, hp, hb, hk3⟩
      have sz := hk.size
      go_wp2_with fail
      refine (lines_any p _ text.toList behind.toList HS.out (by rw [toList_len]; exact ht) hz _ hb).mono ?_
      rintro e w4 ⟨rfl, hb4, hk4⟩
      rw [HL.out] at hb4
      go_wp2_with fail
      refine (at_any p _ _ _ hb4).mono ?_
      rintro e w5 ⟨rfl, hk5⟩
      go_wp2_with fail
      go_ret
      exact ⟨rfl, (hk.trans hk3 (fun _ _ h => h)).trans (hk4.trans (hk5.mono fun _ _ h => h.elim) (fun _ _ h => h)) (fun b hb h => by simp only [Ob] at h; omega)⟩

theorem lawlines_any (text behind : ByteArray) (w : World) :
    Calls Try.prog 4 #[.string text, .string behind] w fun e w' => e = .returned (.bool true) ∧ Keep Nb w w' := by
  by_cases h : text.size ≤ 500 ∧ behind.size ≤ 100
  · exact lines_short text behind h.1 h.2 w
  · exact lines_long text behind (by omega) w

end Go.Proofs.Ytghopjffaajloaa
