/- Lines of the reference. Printed by gen_rlin.py. -/
import Derived.Test.YtilnccjdbdcklaaDoorLin
namespace Go.Proofs.YtilnccjdbdcklaaDoor
set_option linter.unusedVariables false
set_option linter.unusedSimpArgs false
open Go.RowKit

theorem rnext_some (q : Nat) (s : ByteArray) (b : Nat) (w : World) (hb : RAt w q s b) (h : b < s.size) (hz : s.size ≤ 1000000) :
    Calls Tryd.prog 20 #[.pointer (some ⟨q, 0, none⟩)] w fun e w' => e = .returned (.int .u8 s[b].toNat) ∧ RAt w' q s (b + 1) ∧ Keep (Ob q) w w' := by
  have := rnext_any q s b w hb (by omega) hz
  unfold pkI nxA at this
  rw [dif_pos h, if_pos h] at this
  exact this

set_option maxHeartbeats 4000000 in
set_option maxRecDepth 100000 in
theorem rlines_any (q : Nat) (s : ByteArray) (a : Nat) (w : World) (hb : RAt w q s a) (ha : a ≤ s.size) (hz : s.size ≤ 1000000) :
    Calls Tryd.prog 30 #[.pointer (some ⟨q, 0, none⟩)] w fun e w' => e = .returned (.string ⟨(linF (s.toList.drop a)).1.toArray⟩) ∧ RAt w' q s (a + (linF (s.toList.drop a)).2) ∧ Keep (Ob q) w w' := by
  have HN := Lib.hid (fun b wx hx (h : b < s.size) => rnext_some q s b wx hx h hz)
  have HE := Lib.hid (fun b wx hx => rend_any q s b wx hx)
  obtain ⟨OU, hOU⟩ : ∃ x, x = linF (s.toList.drop a) := ⟨_, rfl⟩
  rw [← hOU]
  have HX0 := Lib.hid hb
  have HOU := Lib.hid hOU
  clear hb hOU
  go_enter Tryd.func30, Tryd.ntmps30
  go_wp2_with fail
  go_loopw [3] (fun o wr => ∃ (b : Nat) (ou : ByteArray), b ≤ s.size ∧ o = .string ou ∧ ou.size ≤ b ∧ Hid (RAt wr q s b ∧ Keep (Ob q) w wr ∧ ou.data.toList ++ (linF (s.toList.drop b)).1 = OU.1 ∧ b + (linF (s.toList.drop b)).2 = a + OU.2)) (fun _ wr => s.size - posOf wr q)
  case atStart => exact ⟨a, ⟨#[]⟩, ha, rfl, Nat.zero_le _, Lib.hid ⟨HX0.out, Keep.refl _ _, by rw [HOU.out]; rfl, by rw [HOU.out]⟩⟩
  case round =>
    clear HX0
    obtain ⟨b, ou, hbs, rfl, hou, HR⟩ := hrel
    have HPR := Lib.hid (rposOf_at HR.out.1)
    have HE1 := Lib.hid (HE.out b wr HR.out.1)
    have n1 : ¬ 9223372036854775807 < ou.size + 1 := by omega
    rcases Nat.lt_or_ge b s.size with hlt | hge
    · rw [decide_eq_false (by omega)] at HE1
      have HN1 := Lib.hid (fun wx hx => HN.out b wx hx hlt)
      go_wp2_with fail
      refine HE1.out.mono ?_
      rintro e w1 ⟨rfl, hk1⟩
      have HX1 := Lib.hid (HR.out.1.keep hk1 id)
      have HK1 := Lib.hid (HR.out.2.1.trans hk1 (fun _ _ h => h.elim))
      clear hk1 HE1
      go_wp2_with fail
      refine (HN1.out w1 HX1.out).mono ?_
      rintro e w2 ⟨rfl, hx2, hk2⟩
      have HX2 := Lib.hid hx2
      have HK2 := Lib.hid (HK1.out.trans hk2 (fun _ _ h => h))
      clear hx2 hk2 HN1
      have hc10 : s[b] = 10 ↔ (s[b].toNat : Int) = 10 := by
        constructor
        · intro h; rw [h]; rfl
        · intro h; exact UInt8.toNat_inj.1 (by rw [show (10 : UInt8).toNat = 10 from rfl]; omega)
      have hc92 : s[b] = 92 ↔ (s[b].toNat : Int) = 92 := by
        constructor
        · intro h; rw [h]; rfl
        · intro h; exact UInt8.toNat_inj.1 (by rw [show (92 : UInt8).toNat = 92 from rfl]; omega)
      by_cases h10 : s[b] = 10
      · have m1 : ((s[b].toNat : Int) == 10) = true := beq_iff_eq.2 (hc10.1 h10)
        have HL := Lib.hid (lin_stop hlt h10)
        have HF : Hid (OU.1 = ou.data.toList ∧ a + OU.2 = b + 1) := Lib.hid ⟨by have := HR.out.2.2.1; rw [HL.out] at this; simpa using this.symm, by have := HR.out.2.2.2; rw [HL.out] at this; exact this.symm⟩
        clear hc10 hc92 h10
        go_wp2_with fail
        go_ret
        exact ⟨by rw [HF.out.1]; rfl, by rw [HF.out.2]; exact HX2.out, HK2.out⟩
      · have m1 : ((s[b].toNat : Int) == 10) = false := beq_eq_false_iff_ne.2 (fun h => h10 (hc10.2 h))
        by_cases h92 : s[b] = 92
        · have m2 : ((s[b].toNat : Int) == 92) = true := beq_iff_eq.2 (hc92.1 h92)
          have HE2 := Lib.hid (HE.out (b + 1) w2 HX2.out)
          by_cases hl2 : b + 1 < s.size
          · rw [decide_eq_false (by omega)] at HE2
            have HL := Lib.hid (lin_esc hlt h92 hl2)
            have HN2 := Lib.hid (fun wx hx => HN.out (b + 1) wx hx hl2)
            clear hc10 hc92 h10 h92
            go_wp2_with fail
            refine HE2.out.mono ?_
            rintro e w3 ⟨rfl, hk3⟩
            have HX3 := Lib.hid (HX2.out.keep hk3 id)
            have HK3 := Lib.hid (HK2.out.trans hk3 (fun _ _ h => h.elim))
            clear hk3
            go_wp2_with fail
            refine (HN2.out w3 HX3.out).mono ?_
            rintro e w4 ⟨rfl, hx4, hk4⟩
            have HX4 := Lib.hid hx4
            have HK4 := Lib.hid (HK3.out.trans hk4 (fun _ _ h => h))
            clear hx4 hk4
            have hcv := one_conv w4 s[b + 1]
            have HXA : Hid (RAt (w4.alloc (.cells #[.int .u8 s[b + 1].toNat] 5)) q s (b + 2)) := Lib.hid (HX4.out.alloc _)
            have HKA : Hid (Keep (Ob q) w (w4.alloc (.cells #[.int .u8 s[b + 1].toNat] 5))) := Lib.hid (Keep.alloc HK4.out _)
            have HPS := Lib.hid (rposOf_at HXA.out)
            go_wp2_with fail
            go_roundw
            case rel => exact ⟨b + 2, _, by omega, rfl, by rw [ByteArray.size_append]; show _ + 1 ≤ _; omega, Lib.hid ⟨HXA.out, HKA.out, by have := HR.out.2.2.1; rw [HL.out] at this; rw [← this, add_sz3]; simp, by have := HR.out.2.2.2; rw [HL.out] at this; rw [← this]; omega⟩⟩
            case measure => (have h1 := HPS.out; have h2 := HPR.out; simp only [h1, h2]; omega)
          · rw [decide_eq_true (by omega)] at HE2
            have HL := Lib.hid (lin_back hlt h92 hl2)
            have HF : Hid (OU.1 = ou.data.toList ∧ a + OU.2 = b + 1) := Lib.hid ⟨by have := HR.out.2.2.1; rw [HL.out] at this; simpa using this.symm, by have := HR.out.2.2.2; rw [HL.out] at this; exact this.symm⟩
            clear hc10 hc92 h10 h92
            go_wp2_with fail
            refine HE2.out.mono ?_
            rintro e w3 ⟨rfl, hk3⟩
            have HX3 := Lib.hid (HX2.out.keep hk3 id)
            have HK3 := Lib.hid (HK2.out.trans hk3 (fun _ _ h => h.elim))
            clear hk3
            go_wp2_with fail
            go_ret
            exact ⟨by rw [HF.out.1]; rfl, by rw [HF.out.2]; exact HX3.out, HK3.out⟩
        · have m2 : ((s[b].toNat : Int) == 92) = false := beq_eq_false_iff_ne.2 (fun h => h92 (hc92.2 h))
          have HL := Lib.hid (lin_byte hlt h10 h92)
          clear hc10 hc92 h10 h92
          have hcv := one_conv w2 s[b]
          have HXA : Hid (RAt (w2.alloc (.cells #[.int .u8 s[b].toNat] 5)) q s (b + 1)) := Lib.hid (HX2.out.alloc _)
          have HKA : Hid (Keep (Ob q) w (w2.alloc (.cells #[.int .u8 s[b].toNat] 5))) := Lib.hid (Keep.alloc HK2.out _)
          have HPS := Lib.hid (rposOf_at HXA.out)
          go_wp2_with fail
          go_roundw
          case rel => exact ⟨b + 1, _, by omega, rfl, by rw [ByteArray.size_append]; show _ + 1 ≤ _; omega, Lib.hid ⟨HXA.out, HKA.out, by have := HR.out.2.2.1; rw [HL.out] at this; rw [← this, add_sz3]; simp, by have := HR.out.2.2.2; rw [HL.out] at this; rw [← this]; omega⟩⟩
          case measure => (have h1 := HPS.out; have h2 := HPR.out; simp only [h1, h2]; omega)
    · rw [decide_eq_true (by omega)] at HE1
      have HL := Lib.hid (lin_end hge)
      have HF : Hid (OU.1 = ou.data.toList ∧ a + OU.2 = b) := Lib.hid ⟨by have := HR.out.2.2.1; rw [HL.out] at this; simpa using this.symm, by have := HR.out.2.2.2; rw [HL.out] at this; exact this.symm⟩
      go_wp2_with fail
      refine HE1.out.mono ?_
      rintro e w3 ⟨rfl, hk3⟩
      have HX3 := Lib.hid (HR.out.1.keep hk3 id)
      have HK3 := Lib.hid (HR.out.2.1.trans hk3 (fun _ _ h => h.elim))
      clear hk3
      go_wp2_with fail
      go_ret
      exact ⟨by rw [HF.out.1]; rfl, by rw [HF.out.2]; exact HX3.out, HK3.out⟩

end Go.Proofs.YtilnccjdbdcklaaDoor
