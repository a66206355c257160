/- Lines of both readers. Printed by gen_lin.py. -/
import Derived.Test.YtilnccjdbdcklaaDoorRl
namespace Go.Proofs.YtilnccjdbdcklaaDoor
set_option linter.unusedVariables false
set_option linter.unusedSimpArgs false
open Go.RowKit

/-- Text lines, read: what they are, how many bytes are gone past. -/
def linF : List UInt8 → List UInt8 × Nat
  | [] => ([], 0)
  | c :: r =>
    if c = 10 then ([], 1)
    else if c = 92 then (match r with | [] => ([], 1) | x :: r2 => (x :: (linF r2).1, (linF r2).2 + 2))
    else (c :: (linF r).1, (linF r).2 + 1)
theorem drop_cons (s : ByteArray) (b : Nat) (h : b < s.size) : s.toList.drop b = s[b] :: s.toList.drop (b + 1) := by
  rw [← list_at s b h]
  exact (List.getElem_cons_drop (h := by rw [toList_len]; exact h)).symm
theorem drop_nil (s : ByteArray) (b : Nat) (h : s.size ≤ b) : s.toList.drop b = [] := by
  rw [List.drop_eq_nil_iff, toList_len]; exact h
theorem linF_cons (c : UInt8) (r : List UInt8) : linF (c :: r) = if c = 10 then ([], 1)
    else if c = 92 then (match r with | [] => ([], 1) | x :: r2 => (x :: (linF r2).1, (linF r2).2 + 2))
    else (c :: (linF r).1, (linF r).2 + 1) := by rw [linF.eq_def]
theorem lin_stop {s : ByteArray} {b : Nat} (h : b < s.size) (hc : s[b] = 10) : linF (s.toList.drop b) = ([], 1) := by
  rw [drop_cons s b h, linF_cons, if_pos hc]
theorem lin_end {s : ByteArray} {b : Nat} (h : s.size ≤ b) : linF (s.toList.drop b) = ([], 0) := by
  rw [drop_nil s b h, linF]
theorem lin_back {s : ByteArray} {b : Nat} (h : b < s.size) (hc : s[b] = 92) (h2 : ¬ b + 1 < s.size) : linF (s.toList.drop b) = ([], 1) := by
  rw [drop_cons s b h, linF_cons, if_neg (by rw [hc]; decide), if_pos hc, drop_nil s (b + 1) (by omega)]
theorem lin_esc {s : ByteArray} {b : Nat} (h : b < s.size) (hc : s[b] = 92) (h2 : b + 1 < s.size) : linF (s.toList.drop b) = (s[b + 1] :: (linF (s.toList.drop (b + 2))).1, (linF (s.toList.drop (b + 2))).2 + 2) := by
  rw [drop_cons s b h, linF_cons, if_neg (by rw [hc]; decide), if_pos hc, drop_cons s (b + 1) h2]
theorem lin_byte {s : ByteArray} {b : Nat} (h : b < s.size) (h1 : s[b] ≠ 10) (h2 : s[b] ≠ 92) : linF (s.toList.drop b) = (s[b] :: (linF (s.toList.drop (b + 1))).1, (linF (s.toList.drop (b + 1))).2 + 1) := by
  rw [drop_cons s b h, linF_cons, if_neg h1, if_neg h2]
theorem u8n {c : UInt8} {n : Nat} (hn : n < 256) (h : c ≠ UInt8.ofNat n) : ((c.toNat : Int) == (n : Int)) = false := u8_ne hn h

set_option maxHeartbeats 4000000 in
set_option maxRecDepth 100000 in
theorem plines_any (p : Nat) (s : ByteArray) (a : Nat) (w : World) (hb : LexAt w p s a) (ha : a ≤ s.size) (hz : s.size ≤ 1000000) :
    Calls Tryd.prog 29 #[.pointer (some ⟨p, 0, none⟩)] w fun e w' => e = .returned (.string ⟨(linF (s.toList.drop a)).1.toArray⟩) ∧ LexAt w' p s (a + (linF (s.toList.drop a)).2) ∧ Keep (Ob p) w w' := by
  have HN := Lib.hid (fun b wx hx (h : b < s.size) => next_some p s b wx hx h hz)
  have HE := Lib.hid (fun b wx hx (h : b ≤ s.size) => end_any p s b wx hx h)
  have HPL : Hid (p < w.heap.size) := Lib.hid hb.lt
  obtain ⟨OU, hOU⟩ : ∃ x, x = linF (s.toList.drop a) := ⟨_, rfl⟩
  rw [← hOU]
  have HX0 : Hid (LexAt (w.alloc (.cells #[.pointer none, .slice none 0 0] 63)) p s a) := Lib.hid (hb.alloc _)
  have HB0 : Hid (IsB w.heap.size w.heap.size (Lib.byteCells []) (w.alloc (.cells #[.pointer none, .slice none 0 0] 63))) := Lib.hid (new_builder w _ rfl)
  have HK0 : Hid (Keep (Ob p) w (w.alloc (.cells #[.pointer none, .slice none 0 0] 63))) := Lib.hid (Keep.alloc (Keep.refl _ _) _)
  have HOU := Lib.hid hOU
  clear hb hOU
  go_enter Tryd.func29, Tryd.ntmps29
  go_wp2_with fail
  go_loopw [4] (fun _ wr => ∃ (b : Nat) (ou : List UInt8), b ≤ s.size ∧ ou.length ≤ b ∧ Hid (LexAt wr p s b ∧ IsB w.heap.size w.heap.size (Lib.byteCells ou) wr ∧ Keep (Ob p) w wr ∧ ou ++ (linF (s.toList.drop b)).1 = OU.1 ∧ b + (linF (s.toList.drop b)).2 = a + OU.2)) (fun _ wr => s.size - posOf wr p)
  case atStart => exact ⟨a, [], ha, Nat.zero_le _, Lib.hid ⟨HX0.out, HB0.out, HK0.out, by rw [HOU.out]; rfl, by rw [HOU.out]⟩⟩
  case round =>
    clear HX0 HB0 HK0
    obtain ⟨b, ou, hbs, hou, HR⟩ := hrel
    have HPR := Lib.hid (posOf_at HR.out.1)
    have HE1 := Lib.hid (HE.out b wr HR.out.1 hbs)
    rcases Nat.lt_or_ge b s.size with hlt | hge
    · rw [decide_eq_false (by omega)] at HE1
      have HN1 := Lib.hid (fun wx hx => HN.out b wx hx hlt)
      go_wp2_with fail
      refine HE1.out.mono ?_
      rintro e w1 ⟨rfl, hk1⟩
      have HX1 := Lib.hid (HR.out.1.keep hk1 id)
      have HB1 := Lib.hid (HR.out.2.1.keep hk1 (fun k h => h.elim))
      have HK1 := Lib.hid (HR.out.2.2.1.trans hk1 (fun _ _ h => h.elim))
      clear hk1 HE1
      go_wp2_with fail
      refine (HN1.out w1 HX1.out).mono ?_
      rintro e w2 ⟨rfl, hx2, hk2⟩
      have HX2 := Lib.hid hx2
      have HB2 := Lib.hid (HB1.out.keep hk2 (fun k hx => by simp only [Ob] at hx; have := HPL.out; omega))
      have HK2 := Lib.hid (HK1.out.trans hk2 (fun _ _ h => h))
      have HS2 : Hid (w.heap.size ≤ w2.heap.size) := Lib.hid HK2.out.size
      clear hx2 hk2 HN1
      have hc10 : s[b] = 10 ↔ (s[b].toNat : Int) = 10 := by
        constructor
        · intro h; rw [h]; rfl
        · intro h; exact UInt8.toNat_inj.1 (by rw [show (10 : UInt8).toNat = 10 from rfl]; omega)
      have hc92 : s[b] = 92 ↔ (s[b].toNat : Int) = 92 := by
        constructor
        · intro h; rw [h]; rfl
        · intro h; exact UInt8.toNat_inj.1 (by rw [show (92 : UInt8).toNat = 92 from rfl]; omega)
      by_cases h10 : s[b] = 10
      · have m1 : ((s[b].toNat : Int) == 10) = true := beq_iff_eq.2 (hc10.1 h10)
        have HL := Lib.hid (lin_stop hlt h10)
        have HF : Hid (OU.1 = ou ∧ a + OU.2 = b + 1) := Lib.hid ⟨by have := HR.out.2.2.2.1; rw [HL.out] at this; simpa using this.symm, by have := HR.out.2.2.2.2; rw [HL.out] at this; exact this.symm⟩
        clear hc10 hc92 h10
        have HSO := Lib.hid (string_any w.heap.size w.heap.size ou w2 HB2.out HS2.out)
        go_wp2_with fail
        refine HSO.out.mono ?_
        rintro e w9 ⟨rfl, hb9⟩
        have HX9 := Lib.hid (HX2.out.keep (Keep.of_below hb9) (by have := HPL.out; omega))
        have HK9 := Lib.hid (HK2.out.above hb9 (Nat.le_refl _))
        clear hb9
        go_wp2_with fail
        go_ret
        exact ⟨by rw [HF.out.1]; rfl, by rw [HF.out.2]; exact HX9.out, HK9.out⟩
      · have m1 : ((s[b].toNat : Int) == 10) = false := beq_eq_false_iff_ne.2 (fun h => h10 (hc10.2 h))
        by_cases h92 : s[b] = 92
        · have m2 : ((s[b].toNat : Int) == 92) = true := beq_iff_eq.2 (hc92.1 h92)
          have HE2 := Lib.hid (HE.out (b + 1) w2 HX2.out (by omega))
          by_cases hl2 : b + 1 < s.size
          · rw [decide_eq_false (by omega)] at HE2
            have HL := Lib.hid (lin_esc hlt h92 hl2)
            have HN2 := Lib.hid (fun wx hx => HN.out (b + 1) wx hx hl2)
            clear hc10 hc92 h10 h92
            go_wp2_with fail
            refine HE2.out.mono ?_
            rintro e w3 ⟨rfl, hk3⟩
            have HX3 := Lib.hid (HX2.out.keep hk3 id)
            have HB3 := Lib.hid (HB2.out.keep hk3 (fun k h => h.elim))
            have HK3 := Lib.hid (HK2.out.trans hk3 (fun _ _ h => h.elim))
            clear hk3
            go_wp2_with fail
            refine (HN2.out w3 HX3.out).mono ?_
            rintro e w4 ⟨rfl, hx4, hk4⟩
            have HX4 := Lib.hid hx4
            have HB4 := Lib.hid (HB3.out.keep hk4 (fun k hx => by simp only [Ob] at hx; have := HPL.out; omega))
            have HK4 := Lib.hid (HK3.out.trans hk4 (fun _ _ h => h))
            have HS4 : Hid (w.heap.size ≤ w4.heap.size) := Lib.hid HK4.out.size
            clear hx4 hk4
            have HW := Lib.hid (writeByte_any w.heap.size w.heap.size _ s[b + 1].toNat _ HB4.out (by rw [Lib.byteCells_length]; omega) HS4.out)
            go_wp2_with fail
            refine HW.out.mono ?_
            rintro e w5 ⟨rfl, hB5, bel⟩
            rw [cells_snoc] at hB5
            have HB5 := Lib.hid hB5
            have HX5 := Lib.hid (HX4.out.keep (Keep.of_below bel) (by have := HPL.out; omega))
            have HK5 := Lib.hid (HK4.out.above bel (Nat.le_refl _))
            have HPS := Lib.hid (posOf_at HX5.out)
            clear hB5 bel
            go_wp2_with fail
            go_roundw
            case rel => exact ⟨b + 2, _, by omega, by rw [List.length_append]; simp only [List.length_cons, List.length_nil]; omega, Lib.hid ⟨HX5.out, HB5.out, HK5.out, by have := HR.out.2.2.2.1; rw [HL.out] at this; rw [← this]; simp, by have := HR.out.2.2.2.2; rw [HL.out] at this; rw [← this]; omega⟩⟩
            case measure => (have h1 := HPS.out; have h2 := HPR.out; simp only [h1, h2]; omega)
          · rw [decide_eq_true (by omega)] at HE2
            have HL := Lib.hid (lin_back hlt h92 hl2)
            have HF : Hid (OU.1 = ou ∧ a + OU.2 = b + 1) := Lib.hid ⟨by have := HR.out.2.2.2.1; rw [HL.out] at this; simpa using this.symm, by have := HR.out.2.2.2.2; rw [HL.out] at this; exact this.symm⟩
            clear hc10 hc92 h10 h92
            go_wp2_with fail
            refine HE2.out.mono ?_
            rintro e w3 ⟨rfl, hk3⟩
            have HX3 := Lib.hid (HX2.out.keep hk3 id)
            have HB3 := Lib.hid (HB2.out.keep hk3 (fun k h => h.elim))
            have HK3 := Lib.hid (HK2.out.trans hk3 (fun _ _ h => h.elim))
            have HS3 : Hid (w.heap.size ≤ w3.heap.size) := Lib.hid HK3.out.size
            clear hk3
            have HSO := Lib.hid (string_any w.heap.size w.heap.size ou w3 HB3.out HS3.out)
            go_wp2_with fail
            refine HSO.out.mono ?_
            rintro e w9 ⟨rfl, hb9⟩
            have HX9 := Lib.hid (HX3.out.keep (Keep.of_below hb9) (by have := HPL.out; omega))
            have HK9 := Lib.hid (HK3.out.above hb9 (Nat.le_refl _))
            clear hb9
            go_wp2_with fail
            go_ret
            exact ⟨by rw [HF.out.1]; rfl, by rw [HF.out.2]; exact HX9.out, HK9.out⟩
        · have m2 : ((s[b].toNat : Int) == 92) = false := beq_eq_false_iff_ne.2 (fun h => h92 (hc92.2 h))
          have HL := Lib.hid (lin_byte hlt h10 h92)
          clear hc10 hc92 h10 h92
          have HW := Lib.hid (writeByte_any w.heap.size w.heap.size _ s[b].toNat _ HB2.out (by rw [Lib.byteCells_length]; omega) HS2.out)
          go_wp2_with fail
          refine HW.out.mono ?_
          rintro e w5 ⟨rfl, hB5, bel⟩
          rw [cells_snoc] at hB5
          have HB5 := Lib.hid hB5
          have HX5 := Lib.hid (HX2.out.keep (Keep.of_below bel) (by have := HPL.out; omega))
          have HK5 := Lib.hid (HK2.out.above bel (Nat.le_refl _))
          have HPS := Lib.hid (posOf_at HX5.out)
          clear hB5 bel
          go_wp2_with fail
          go_roundw
          case rel => exact ⟨b + 1, _, by omega, by rw [List.length_append]; simp only [List.length_cons, List.length_nil]; omega, Lib.hid ⟨HX5.out, HB5.out, HK5.out, by have := HR.out.2.2.2.1; rw [HL.out] at this; rw [← this]; simp, by have := HR.out.2.2.2.2; rw [HL.out] at this; rw [← this]; omega⟩⟩
          case measure => (have h1 := HPS.out; have h2 := HPR.out; simp only [h1, h2]; omega)
    · rw [decide_eq_true (by omega)] at HE1
      have HL := Lib.hid (lin_end hge)
      have HF : Hid (OU.1 = ou ∧ a + OU.2 = b) := Lib.hid ⟨by have := HR.out.2.2.2.1; rw [HL.out] at this; simpa using this.symm, by have := HR.out.2.2.2.2; rw [HL.out] at this; exact this.symm⟩
      go_wp2_with fail
      refine HE1.out.mono ?_
      rintro e w3 ⟨rfl, hk3⟩
      have HX3 := Lib.hid (HR.out.1.keep hk3 id)
      have HB3 := Lib.hid (HR.out.2.1.keep hk3 (fun k h => h.elim))
      have HK3 := Lib.hid (HR.out.2.2.1.trans hk3 (fun _ _ h => h.elim))
      have HS3 : Hid (w.heap.size ≤ w3.heap.size) := Lib.hid HK3.out.size
      clear hk3
      have HSO := Lib.hid (string_any w.heap.size w.heap.size ou w3 HB3.out HS3.out)
      go_wp2_with fail
      refine HSO.out.mono ?_
      rintro e w9 ⟨rfl, hb9⟩
      have HX9 := Lib.hid (HX3.out.keep (Keep.of_below hb9) (by have := HPL.out; omega))
      have HK9 := Lib.hid (HK3.out.above hb9 (Nat.le_refl _))
      clear hb9
      go_wp2_with fail
      go_ret
      exact ⟨by rw [HF.out.1]; rfl, by rw [HF.out.2]; exact HX9.out, HK9.out⟩

end Go.Proofs.YtilnccjdbdcklaaDoor
