/- For every input LexerDelimited returns true. -/
import Derived.Test.YtghopjffaajloaaLawLines
namespace Go.Proofs.Ytghopjffaajloaa
set_option linter.unusedVariables false
set_option linter.unusedSimpArgs false
open Go.RowKit

theorem ret_awake (text behind : ByteArray) (d : UInt8) (h : 500 < text.size ∨ 100 < behind.size ∨ d = 92 ∨ d = 10 ∨ d = 110 ∨ d = 91) (w : World) :
    Calls Try.prog 3 #[.string text, .int .u8 d.toNat, .string behind] w fun e w' => e = .returned (.bool true) ∧ Keep Nb w w' := by
  by_cases h1 : 500 < text.size
  · have m1 : decide (500 < (text.size : Int)) = true := by simp; omega
    clear h h1
    (go_enter Try.func3, Try.ntmps3; go_wp2_with fail; refine (awake_any _).mono ?_; rintro e w2 ⟨rfl, hk2⟩; go_wp2_with fail; refine (awake_any _).mono ?_; rintro e w3 ⟨rfl, hk3⟩; go_wp2_with fail; go_ret; exact ⟨rfl, hk2.trans hk3 (fun _ _ h => h)⟩)
  have m1 : decide (500 < (text.size : Int)) = false := by simp; omega
  by_cases h2 : 100 < behind.size
  · have m2 : decide (100 < (behind.size : Int)) = true := by simp; omega
    clear h h1 h2
    (go_enter Try.func3, Try.ntmps3; go_wp2_with fail; refine (awake_any _).mono ?_; rintro e w2 ⟨rfl, hk2⟩; go_wp2_with fail; refine (awake_any _).mono ?_; rintro e w3 ⟨rfl, hk3⟩; go_wp2_with fail; go_ret; exact ⟨rfl, hk2.trans hk3 (fun _ _ h => h)⟩)
  have m2 : decide (100 < (behind.size : Int)) = false := by simp; omega
  by_cases h3 : d = 92
  · have m3 : ((d.toNat : Int) == 92) = true := by rw [h3]; rfl
    clear h h1 h2 h3
    (go_enter Try.func3, Try.ntmps3; go_wp2_with fail; refine (awake_any _).mono ?_; rintro e w2 ⟨rfl, hk2⟩; go_wp2_with fail; refine (awake_any _).mono ?_; rintro e w3 ⟨rfl, hk3⟩; go_wp2_with fail; go_ret; exact ⟨rfl, hk2.trans hk3 (fun _ _ h => h)⟩)
  have m3 : ((d.toNat : Int) == 92) = false := u8_ne (n := 92) (by omega) h3
  by_cases h4 : d = 10
  · have m4 : ((d.toNat : Int) == 10) = true := by rw [h4]; rfl
    clear h h1 h2 h3 h4
    (go_enter Try.func3, Try.ntmps3; go_wp2_with fail; refine (awake_any _).mono ?_; rintro e w2 ⟨rfl, hk2⟩; go_wp2_with fail; refine (awake_any _).mono ?_; rintro e w3 ⟨rfl, hk3⟩; go_wp2_with fail; go_ret; exact ⟨rfl, hk2.trans hk3 (fun _ _ h => h)⟩)
  have m4 : ((d.toNat : Int) == 10) = false := u8_ne (n := 10) (by omega) h4
  by_cases h5 : d = 110
  · have m5 : ((d.toNat : Int) == 110) = true := by rw [h5]; rfl
    clear h h1 h2 h3 h4 h5
    (go_enter Try.func3, Try.ntmps3; go_wp2_with fail; refine (awake_any _).mono ?_; rintro e w2 ⟨rfl, hk2⟩; go_wp2_with fail; refine (awake_any _).mono ?_; rintro e w3 ⟨rfl, hk3⟩; go_wp2_with fail; go_ret; exact ⟨rfl, hk2.trans hk3 (fun _ _ h => h)⟩)
  have m5 : ((d.toNat : Int) == 110) = false := u8_ne (n := 110) (by omega) h5
  have m6 : ((d.toNat : Int) == 91) = true := by
    have h6 : d = 91 := by
      rcases h with h | h | h | h | h | h
      · exact absurd h h1
      · exact absurd h h2
      · exact absurd h h3
      · exact absurd h h4
      · exact absurd h h5
      · exact h
    rw [h6]; rfl
  clear h h1 h2 h3 h4 h5
  (go_enter Try.func3, Try.ntmps3; go_wp2_with fail; refine (awake_any _).mono ?_; rintro e w2 ⟨rfl, hk2⟩; go_wp2_with fail; refine (awake_any _).mono ?_; rintro e w3 ⟨rfl, hk3⟩; go_wp2_with fail; go_ret; exact ⟨rfl, hk2.trans hk3 (fun _ _ h => h)⟩)

theorem one_size (d : UInt8) : (⟨#[d]⟩ : ByteArray).size = 1 := rfl
theorem one_list (d : UInt8) : (⟨#[d]⟩ : ByteArray).toList = [d] := by rw [ByteArray.toList_eq]

set_option maxRecDepth 100000 in
set_option maxHeartbeats 4000000 in
theorem delim_short (text behind : ByteArray) (d : UInt8) (ht : text.size ≤ 500) (hbh : behind.size ≤ 100) (hd : d ≠ 92 ∧ d ≠ 10 ∧ d ≠ 110 ∧ d ≠ 91) (w : World) :
    Calls Try.prog 3 #[.string text, .int .u8 d.toNat, .string behind] w fun e w' => e = .returned (.bool true) ∧ Keep Nb w w' := by
  have m1 : decide (500 < (text.size : Int)) = false := by simp; omega
  have m2 : decide (100 < (behind.size : Int)) = false := by simp; omega
  have m3 : ((d.toNat : Int) == 92) = false := u8_ne (n := 92) (by omega) hd.1
  have m4 : ((d.toNat : Int) == 10) = false := u8_ne (n := 10) (by omega) hd.2.1
  have m5 : ((d.toNat : Int) == 110) = false := u8_ne (n := 110) (by omega) hd.2.2.1
  have m6 : ((d.toNat : Int) == 91) = false := u8_ne (n := 91) (by omega) hd.2.2.2
  have HD := Lib.hid hd
  clear hd
  go_enter Try.func3, Try.ntmps3
  go_wp2_with fail
  refine (awake_any _).mono ?_
  rintro e w2 ⟨rfl, hk2⟩
  go_wp2_with fail
  go_loopw [7, 46] (fun o i wr => ∃ (j : Nat) (x : ByteArray), j ≤ text.size ∧ i = .int .i64 j ∧ o = .string x ∧ Hid (x.toList = encD d (text.toList.take j)) ∧ Hid (∀ c ∈ text.toList.take j, c ≠ 92 ∧ c ≠ 10 ∧ c ≠ 91) ∧ Keep Nb w wr) (fun _ i _ => text.size - (match i with | .int _ a => a.toNat | _ => 0))
  case atStart => exact ⟨0, ⟨#[]⟩, by omega, rfl, rfl, Lib.hid (by rw [ByteArray.toList_eq]; rfl), Lib.hid (by simp), hk2⟩
  case round =>
    obtain ⟨j, x, hj, rfl, rfl, hx, hfr, hk⟩ := hrel
    clear hk2
    have hxl := encD_len d (text.toList.take j)
    have hxs : x.size ≤ 1000 := by
      rw [← toList_len, hx.out]
      rw [List.length_take] at hxl
      omega
    clear hxl
    by_cases hlt : j < text.size
    · have hj0 : (0 : Int) ≤ (j : Int) := by omega
      have hj1 : (j : Int) < (text.size : Int) := by omega
      have htl : j < text.toList.length := by rw [toList_len]; exact hlt
      have hb : text[j] = text.toList[j] := (byte_at (List.getElem?_eq_getElem htl)).2
      have htk := encD_take d text.toList j htl
      have htt : text.toList.take (j + 1) = text.toList.take j ++ [text.toList[j]] := List.take_succ_eq_append_getElem htl
      have hex : (text.extract j (j + 1)).toList = [text.toList[j]] := extract_one _ _ _ (List.getElem?_eq_getElem htl)
      have hes : (text.extract j (j + 1)).size = 1 := by rw [← toList_len, hex]; rfl
      rw [← hb] at hex htk htt
      obtain ⟨c, hc⟩ : ∃ c, text[j] = c := ⟨_, rfl⟩
      rw [hc] at hex htk htt
      have HX := Lib.hid hx.out
      have HE := Lib.hid hex
      clear hex hb hx
      by_cases e91 : c = 91
      · have q91 : ((c.toNat : Int) == 91) = true := by rw [e91]; rfl
        clear e91 htk htt
        go_wp2_with fail
        go_ret
        exact ⟨rfl, hk⟩
      have q91 : ((c.toNat : Int) == 91) = false := u8_ne (n := 91) (by omega) e91
      by_cases e92 : c = 92
      · have q92 : ((c.toNat : Int) == 92) = true := by rw [e92]; rfl
        clear e91 e92 htk htt
        go_wp2_with fail
        go_ret
        exact ⟨rfl, hk⟩
      have q92 : ((c.toNat : Int) == 92) = false := u8_ne (n := 92) (by omega) e92
      by_cases e10 : c = 10
      · have q10 : ((c.toNat : Int) == 10) = true := by rw [e10]; rfl
        clear e91 e92 e10 htk htt
        go_wp2_with fail
        go_ret
        exact ⟨rfl, hk⟩
      have q10 : ((c.toNat : Int) == 10) = false := u8_ne (n := 10) (by omega) e10
      have hfr2 : ∀ c ∈ text.toList.take (j + 1), c ≠ 92 ∧ c ≠ 10 ∧ c ≠ 91 := fun y hy => by
        rw [htt] at hy
        rcases List.mem_append.1 hy with hy | hy
        · exact hfr.out y hy
        · obtain rfl : y = c := by simpa using hy
          exact ⟨e92, e10, e91⟩
      have HF := Lib.hid hfr2
      clear hfr2 hfr e91 e92 e10 htt
      by_cases hesc : c = d
      · have he1 : encD1 d c = [92, c] := if_pos hesc
        rw [he1] at htk
        have HT := Lib.hid htk
        have a1 := add_ok x ⟨#[92]⟩ (by rw [s92]; omega)
        have a2 := add_ok (x ++ ⟨#[92]⟩) (text.extract j (j + 1)) (by rw [app_size, hes, s92]; omega)
        have qd : ((c.toNat : Int) == (d.toNat : Int)) = true := by rw [hesc]; simp
        clear htk he1 hesc
        go_wp2_with fail
        go_roundw
        case rel =>
          refine ⟨j + 1, _, by omega, by go_num, rfl, Lib.hid ?_, HF, hk⟩
          rw [app_toList, app_toList, HX.out, HE.out, l92, HT.out, List.append_assoc]; rfl
        case measure => simp; omega
      · have he1 : encD1 d c = [c] := if_neg hesc
        rw [he1] at htk
        have HT := Lib.hid htk
        have a2 := add_ok x (text.extract j (j + 1)) (by rw [hes]; omega)
        have qd : ((c.toNat : Int) == (d.toNat : Int)) = false := beq_eq_false_iff_ne.2 fun h => hesc (UInt8.toNat_inj.1 (by omega))
        clear htk he1 hesc
        go_wp2_with fail
        go_roundw
        case rel =>
          refine ⟨j + 1, _, by omega, by go_num, rfl, Lib.hid ?_, HF, hk⟩
          rw [app_toList, HX.out, HE.out, HT.out]
        case measure => simp; omega
    · obtain rfl : j = text.size := by omega
      have hx1 := hx.out
      have hf1 := hfr.out
      rw [← toList_len, List.take_length] at hx1 hf1
      have hL : (encD d text.toList).length = x.size := by rw [← hx1, toList_len]
      have a3 := add_ok x ⟨#[d]⟩ (by rw [one_size]; omega)
      have a4 := add_ok (x ++ ⟨#[d]⟩) behind (by rw [app_size, one_size]; omega)
      have hs : (x ++ ⟨#[d]⟩ ++ behind).toList = encD d text.toList ++ d :: behind.toList := by rw [app_toList, app_toList, hx1, one_list, List.append_assoc]; rfl
      have hz : (x ++ ⟨#[d]⟩ ++ behind).size ≤ 1000000 := by rw [app_size, app_size, one_size]; omega
      have hsd : (x ++ ⟨#[d]⟩).size = x.size + 1 := by rw [app_size, one_size]
      have HS := Lib.hid hs
      have HL := Lib.hid hL
      have HF := Lib.hid hf1
      have hcv := one_conv wr d
      clear hx hx1 hs hL hlt hfr hf1
      go_wp2_with fail
      refine (new_any _ _).mono ?_
      rintro e w3 ⟨p, rfl, hp, hb, hk3⟩
      have sz := hk.size
      go_wp2_with fail
      refine (new_any _ _).mono ?_
      rintro e w4 ⟨q, rfl, hq, hb2, hk4⟩
      have hb4 := hb.keep hk4 id
      have hpl := hb.lt
      clear hb
      go_wp2_with fail
      refine (pattern_any p _ d text.toList behind.toList HS.out HD.out HF.out (by rw [toList_len]; exact ht) hz _ hb4).mono ?_
      rintro e w5 ⟨rfl, hb5, hk5⟩
      rw [HL.out] at hb5
      have hb25 := hb2.keep hk5 (by simp only [Ob]; omega)
      clear hb2 hb4
      go_wp2_with fail
      refine (replacement_any q _ d text.toList behind.toList HS.out HD.out HF.out (by rw [toList_len]; exact ht) hz _ hb25).mono ?_
      rintro e w6 ⟨rfl, hb6, hk6⟩
      rw [HL.out] at hb6
      have hbp := hb5.keep hk6 (by simp only [Ob]; omega)
      clear hb5 hb25
      go_wp2_with fail
      refine (at_any p _ _ _ hbp).mono ?_
      rintro e w7 ⟨rfl, hk7⟩
      have hbq := hb6.keep hk7 id
      clear hb6 hbp
      go_wp2_with fail
      refine (at_any q _ _ _ hbq).mono ?_
      rintro e w8 ⟨rfl, hk8⟩
      go_wp2_with fail
      go_ret
      have kA := ((hk.trans (Keep.alloc (Keep.refl _ _) _) (fun _ _ h => h)).trans hk3 (fun _ _ h => h)).trans hk4 (fun _ _ h => h)
      have s3 := hk3.size
      simp at hp s3
      have kB := kA.trans hk5 (fun b hb h => by simp only [Ob] at h; omega)
      have kC := kB.trans hk6 (fun b hb h => by simp only [Ob] at h; omega)
      exact ⟨rfl, (kC.trans hk7 (fun _ _ h => h)).trans hk8 (fun _ _ h => h)⟩

theorem lawdelim_any (text behind : ByteArray) (d : UInt8) (w : World) :
    Calls Try.prog 3 #[.string text, .int .u8 d.toNat, .string behind] w fun e w' => e = .returned (.bool true) ∧ Keep Nb w w' := by
  by_cases h1 : 500 < text.size
  · exact ret_awake text behind d (.inl h1) w
  by_cases h2 : 100 < behind.size
  · exact ret_awake text behind d (.inr (.inl h2)) w
  by_cases h3 : d = 92
  · exact ret_awake text behind d (.inr (.inr (.inl h3))) w
  by_cases h4 : d = 10
  · exact ret_awake text behind d (.inr (.inr (.inr (.inl h4)))) w
  by_cases h5 : d = 110
  · exact ret_awake text behind d (.inr (.inr (.inr (.inr (.inl h5))))) w
  by_cases h6 : d = 91
  · exact ret_awake text behind d (.inr (.inr (.inr (.inr (.inr h6))))) w
  exact delim_short text behind d (by omega) (by omega) ⟨h3, h4, h5, h6⟩ w

end Go.Proofs.Ytghopjffaajloaa
