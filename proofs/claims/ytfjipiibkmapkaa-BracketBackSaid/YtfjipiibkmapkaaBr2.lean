/- The reference: Bracket with a ^. -/
import Derived.Test.YtfjipiibkmapkaaBr1
import Derived.Test.YtfjipiibkmapkaaParseL
namespace Go.Proofs.Ytfjipiibkmapkaa
set_option linter.unusedVariables false
set_option linter.unusedSimpArgs false
open Go.RowKit

set_option maxRecDepth 100000 in
set_option maxHeartbeats 4000000 in
theorem br_not (s : ByteArray) (a : Nat) (hc : s.toList[a]? = some 91) (q1 : preB [94] (s.toList.drop (a + 1)) = true) (R : Option ((Nat → Int) × Nat)) (hf : loopF (s.size + 1) true zeroF (s.toList.drop (a + 2)) (a + 2) = R) (hz : s.size ≤ 1000000) (w : World) :
    Calls Try.prog 21 #[.string s, .int .i64 (a : Int)] w fun e w' => e = .returned (brV true R) ∧ Keep Nb w w' := by
  obtain ⟨ha, e0⟩ := byte_at hc
  have Q1 := Lib.hid q1
  have HM := Lib.hid (fun (i : Nat) (hi : i ≤ s.size) wx => member_r s i hi hz wx)
  have HF := Lib.hid hf
  have HZ := Lib.hid hz
  have I1 := Lib.hid (show a + 2 ≤ s.size by have := preB_len q1; rw [List.length_drop, toList_len] at this; simp at this; omega)
  have h0 : (0 : Int) ≤ (a : Int) := by omega
  have h1 : (a : Int) < (s.size : Int) := by omega
  have g1 : decide ((a : Int) < 0) = false := by simp
  have g2 : decide ((s.size : Int) ≤ (a : Int)) = false := by simp; omega
  have g3 : decide (s.size ≤ a) = false := by simp; omega
  have hw1 : wrap64 ((a : Int) + 1) = (a : Int) + 1 := by unfold wrap64; omega
  have HA := Lib.hid ha
  clear hc hf q1
  go_enter Try.func21, Try.ntmps21
  go_upto_region 4 with fail
  have hr0 : Blk (w.alloc (.cells (setRow zeroF) 24)) w.heap.size (setRow zeroF) 24 := Blk.new w _ _
  have hk0 : Keep Nb w (w.alloc (.cells (setRow zeroF) 24)) := Keep.alloc (Keep.refl _ _) _
  have hz0 : (w.alloc (.cells (setRow zeroF) 24)).heap.size = w.heap.size + 1 := by simp
  simp only [setRow, zeroF] at hr0 hk0 hz0
  generalize (w.alloc (.cells #[.int .u64 0, .int .u64 0, .int .u64 0, .int .u64 0] 24)) = w0 at hr0 hk0 hz0 ⊢
  have HS0 := Lib.hid hz0
  clear hz0 g1 g2 g3 e0
  go_cut [7] (fun c wx => c = .bool (preB [94] (s.toList.drop (a + 1))) ∧ w0 = wx)
  case first =>
    by_cases hE : a + 1 < s.size
    · obtain ⟨c0, hc0⟩ : ∃ c, s.toList[a + 1]? = some c := ⟨_, List.getElem?_eq_getElem (by rw [toList_len]; omega)⟩
      obtain ⟨b0, e0⟩ := byte_at hc0
      have t1 : (a : Int) + 1 < (s.size : Int) := by omega
      have t2 : decide ((a : Int) + 1 < (s.size : Int)) = true := by simp; omega
      have t3 : decide (a + 1 < s.size) = true := by simp; omega
      have t4 : (0 : Int) ≤ (a : Int) + 1 := by omega
      have hB := pre1_eq (x := 94) hc0
      by_cases k0 : c0 = 94
      · have m0 : ((c0.toNat : Int) == 94) = true := by rw [k0]; rfl
        have HB := Lib.hid (show preB [94] (s.toList.drop (a + 1)) = true by rw [hB]; simpa using k0)
        clear hc0 k0 hB hE
        go_wp2_with fail
        go_meet
        exact ⟨by rw [HB.out], rfl⟩
      · have m0 : ((c0.toNat : Int) == 94) = false := u8_ne (n := 94) (by omega) k0
        have HB := Lib.hid (show preB [94] (s.toList.drop (a + 1)) = false by rw [hB]; simpa using k0)
        clear hc0 k0 hB hE
        go_wp2_with fail
        go_meet
        exact ⟨by rw [HB.out], rfl⟩
    · have t2 : decide ((a : Int) + 1 < (s.size : Int)) = false := by simp; omega
      have t3 : decide (a + 1 < s.size) = false := by simp; omega
      have HB := Lib.hid (show preB [94] (s.toList.drop (a + 1)) = false from pre1_short (by rw [toList_len]; omega))
      clear hE
      go_wp2_with fail
      go_meet
      exact ⟨by rw [HB.out], rfl⟩
  case rest =>
  obtain ⟨rfl, rfl⟩ := hcut
  rw [Q1.out]
  have hw2 : wrap64 ((a : Int) + 1 + 1) = (a : Int) + 1 + 1 := by have := HZ.out; unfold wrap64; omega
  have hw3 : wrap64 ((a : Int) + 2) = (a : Int) + 2 := by have := HZ.out; unfold wrap64; omega
  go_wp2_with fail
  have hr1 := hr0.alloc (.cells (setRow zeroF) 24)
  have hk1 := hk0.alloc (.cells (setRow zeroF) 24)
  have ha1 : Blk (w0.alloc (.cells (setRow zeroF) 24)) (w.heap.size + 1) (setRow zeroF) 24 := Blk.new' HS0.out.symm _ _
  simp only [setRow, zeroF] at hr1 hk1 ha1
  try rw [HS0.out]
  generalize (w0.alloc (.cells #[.int .u64 0, .int .u64 0, .int .u64 0, .int .u64 0] 24)) = w1 at hr1 hk1 ha1 ⊢
  have hne : w.heap.size ≠ w.heap.size + 1 := by omega
  have hle : w.heap.size ≤ w.heap.size + 1 := by omega
  have N1 := Lib.hid hne; have N2 := Lib.hid hle
  clear hr0 hk0 hne hle hw2 hw3 hw1 h1 h0
  go_loopw [1, 9] (fun p o wr => ∃ (b : Bool) (f : Nat → Int) (i fuel : Nat), p = .int .i64 (i : Int) ∧ o = .bool b ∧ Hid (loopF fuel b f (s.toList.drop i) i = R) ∧ Hid (s.size - i < fuel ∧ i ≤ s.size) ∧ Blk wr (w.heap.size + 1) (setRow f) 24 ∧ Blk wr w.heap.size (setRow zeroF) 24 ∧ Keep Nb w wr) (fun p _ _ => s.size - (intOf p).toNat)
  case atStart => exact ⟨true, zeroF, a + 2, s.size + 1, by go_num, rfl, HF, Lib.hid ⟨by omega, I1.out⟩, ha1, hr1, hk1⟩
  case round =>
    obtain ⟨b, f, i, fuel, rfl, rfl, hF, hI, ha', hr, hk⟩ := hrel
    clear hr1 hk1 ha1
    obtain ⟨fu, rfl⟩ : ∃ g, fuel = g + 1 := ⟨fuel - 1, by have := hI.out.1; omega⟩
    have k0 : (0 : Int) ≤ (i : Int) := by omega
    by_cases hE : i < s.size
    · have t1 : decide ((s.size : Int) ≤ (i : Int)) = false := by simp; omega
      have t2 : decide (s.size ≤ i) = false := by simp; omega
      have t3 : (i : Int) < (s.size : Int) := by omega
      obtain ⟨c0, hc0⟩ : ∃ c, s.toList[i]? = some c := ⟨_, List.getElem?_eq_getElem (by rw [toList_len]; omega)⟩
      obtain ⟨b0, e0⟩ := byte_at hc0
      have hP := pre1_eq (x := 93) hc0
      have HE := Lib.hid hE
      by_cases k9 : c0 = 93
      · have m0 : ((c0.toNat : Int) == 93) = true := by rw [k9]; rfl
        have hP2 : preB [93] (s.toList.drop i) = true := by rw [hP]; simpa using k9
        clear hc0 hP hE
        cases b with
        | false =>
          have hX := hF.out
          rw [loopF_exit hP2] at hX
          have HX := Lib.hid hX
          have hwj : wrap64 ((i : Int) + 1) = (i : Int) + 1 := by have := hI.out.2; have := HZ.out; unfold wrap64; omega
          clear hX hP2 hF k9
          have c0' := ha'.cell 0 (u := .int .u64 (f 0)) rfl
          have c1' := ha'.cell 1 (u := .int .u64 (f 1)) rfl
          have c2' := ha'.cell 2 (u := .int .u64 (f 2)) rfl
          have c3' := ha'.cell 3 (u := .int .u64 (f 3)) rfl
          go_wp2_with fail
          refine (not_r f _).mono ?_
          rintro e w4 ⟨rfl, hkn⟩
          have hr4 := hr.keep hkn id
          have ha4 := ha'.keep hkn id
          have hk4 := hk.trans hkn (fun _ _ h => h)
          clear hkn hr ha' hk c0' c1' c2' c3'
          simp only [setRow]
          have hr5 : Blk (w4.setRow (w.heap.size + 1) (setRow (notF f))) w.heap.size (setRow zeroF) 24 := hr4.setRowOther N1.out _
          have ha5 : Blk (w4.setRow (w.heap.size + 1) (setRow (notF f))) (w.heap.size + 1) (setRow (notF f)) 24 := ha4.setRow _
          have hk5 : Keep Nb w (w4.setRow (w.heap.size + 1) (setRow (notF f))) := Keep.setRow hk4 (Or.inl N2.out) _
          have HR9 := Lib.hid (hr5.setRow (setRow (notF f)))
          have HK9 := Lib.hid (Keep.setRow hk5 (Or.inl (Nat.le_refl _)) (setRow (notF f)))
          simp only [setRow] at hr5 ha5
          clear hk5
          go_wp2_with (first | (refine wpList_store_row rfl 24 (.tmp 8) (.tmp 72) rfl (w.heap.size + 1) _ rfl rfl 24 _ ha4 sizeS2 rfl (by simp [setRow, Value.oneCell']) ?_) | (refine wpList_store_row rfl 24 (.tmp 4) (.tmp 73) rfl (w.heap.size) _ rfl rfl 24 _ hr5 sizeS2 rfl (by simp [setRow, Value.oneCell']) ?_) | (refine wpList_load_row rfl 24 (.tmp 8) rfl (w.heap.size + 1) rfl 24 _ (0, 0) _ ha5 Try.underlying24 rfl sizeS2 ?_))
          refine bodyPost_ret (results_ctt Try.results21 _ _ w.heap.size 24 _ (0, 0) _ rfl HR9.out Try.underlying24 rfl sizeS2) rfl ⟨by rw [← HX.out]; rfl, HK9.out⟩
        | true =>
          have HST := Lib.hid (show true = true ∨ preB [93] (s.toList.drop i) = false from .inl rfl)
          clear hP2 k9
          have hMM := HM.out i hI.out.2
          cases hmm : memberF (s.toList.drop i) with
          | none =>
            have hF2 := hF.out
            rw [loopF_none HST.out hmm] at hF2
            have HX := Lib.hid hF2
            rw [hmm] at hMM
            have HM2 := Lib.hid hMM
            clear hF2 hmm hF hMM
            go_wp2_with fail
            refine (HM2.out _).mono ?_
            rintro e w3 ⟨⟨g, n, rfl⟩, hkn⟩
            have hr3 := hr.keep hkn id
            have hk3 : Keep Nb w w3 := hk.trans hkn (fun _ _ h => h)
            clear hkn hr ha' hk
            simp only [setRow]
            have hr4 := hr3.alloc (.cells (setRow g) 24)
            have hk4 := hk3.alloc (.cells (setRow g) 24)
            simp only [setRow] at hr4 hk4
            clear hr3 hk3
            have HR := hr4
            have HR9 := Lib.hid (hr4.setRow (setRow zeroF))
            have HK9 := Lib.hid (Keep.setRow hk4 (Or.inl (Nat.le_refl _)) (setRow zeroF))
            clear hk4
            go_wp2_with (refine wpList_store_row rfl 24 (.tmp 4) (.tmp 65) rfl (w.heap.size) _ rfl rfl 24 _ HR sizeS2 rfl (by simp [setRow, Value.oneCell']) ?_)
            refine bodyPost_ret (results_ctt Try.results21 _ _ w.heap.size 24 _ (0, 0) _ rfl HR9.out Try.underlying24 rfl sizeS2) rfl ⟨by rw [← HX.out]; rfl, HK9.out⟩
          | some tk =>
            obtain ⟨t, k⟩ := tk
            have hF3 := hF.out
            rw [loopF_some HST.out hmm, dropdrop] at hF3
            have HF2 := Lib.hid hF3
            have hkl := Lib.hid (memberF_len hmm)
            rw [hmm] at hMM
            have HM2 := Lib.hid hMM
            clear hmm hF3 hF hMM
            go_wp2_with fail
            refine (HM2.out _).mono ?_
            rintro e w3 ⟨he, hkn⟩
            simp only [MemR] at he
            subst he
            have hr3 := hr.keep hkn id
            have ha3 := ha'.keep hkn id
            have hk3 : Keep Nb w w3 := hk.trans hkn (fun _ _ h => h)
            clear hkn hr ha' hk
            simp only [setRow]
            have hr4 := hr3.alloc (.cells (setRow t) 24)
            have ha4 := ha3.alloc (.cells (setRow t) 24)
            have hk4 := hk3.alloc (.cells (setRow t) 24)
            have c0' := ha4.cell 0 (u := .int .u64 (f 0)) rfl
            have c1' := ha4.cell 1 (u := .int .u64 (f 1)) rfl
            have c2' := ha4.cell 2 (u := .int .u64 (f 2)) rfl
            have c3' := ha4.cell 3 (u := .int .u64 (f 3)) rfl
            simp only [setRow] at hr4 ha4 hk4 c0' c1' c2' c3'
            clear hr3 ha3 hk3
            go_wp2_with fail
            refine (or_r f t _).mono ?_
            rintro e w5 ⟨rfl, hkn⟩
            have hr5 := hr4.keep hkn id
            have ha5 := ha4.keep hkn id
            have hk5 := hk4.trans hkn (fun _ _ h => h)
            clear hkn hr4 ha4 hk4 c0' c1' c2' c3'
            simp only [setRow]
            have ha6 : Blk (w5.setRow (w.heap.size + 1) (setRow (orF f t))) (w.heap.size + 1) (setRow (orF f t)) 24 := ha5.setRow _
            have hr6 : Blk (w5.setRow (w.heap.size + 1) (setRow (orF f t))) w.heap.size (setRow zeroF) 24 := hr5.setRowOther N1.out _
            have hk6 : Keep Nb w (w5.setRow (w.heap.size + 1) (setRow (orF f t))) := Keep.setRow hk5 (Or.inl N2.out) _
            have HA6 := Lib.hid ha6; have HR6 := Lib.hid hr6; have HK6 := Lib.hid hk6
            clear ha6 hr6 hk6 hr5 hk5
            go_wp2_with (refine wpList_store_row rfl 24 (.tmp 8) (.tmp 68) rfl (w.heap.size + 1) _ rfl rfl 24 _ ha5 sizeS2 rfl (by simp [setRow, Value.oneCell']) ?_)
            clear ha5
            go_roundw
            case rel => exact ⟨false, orF f t, i + k, fu, rfl, rfl, Lib.hid HF2.out, Lib.hid (go_on hI.out hkl.out), HA6.out, HR6.out, HK6.out⟩
            case measure => exact less_br hI.out hkl.out
      · have m0 : ((c0.toNat : Int) == 93) = false := u8_ne (n := 93) (by omega) k9
        have hP2 : preB [93] (s.toList.drop i) = false := by rw [hP]; simpa using k9
        have HST := Lib.hid (show b = true ∨ preB [93] (s.toList.drop i) = false from .inr hP2)
        clear hc0 hP hE hP2 k9
        cases b with
        | true =>
          have hMM := HM.out i hI.out.2
          cases hmm : memberF (s.toList.drop i) with
          | none =>
            have hF2 := hF.out
            rw [loopF_none HST.out hmm] at hF2
            have HX := Lib.hid hF2
            rw [hmm] at hMM
            have HM2 := Lib.hid hMM
            clear hF2 hmm hF hMM
            go_wp2_with fail
            refine (HM2.out _).mono ?_
            rintro e w3 ⟨⟨g, n, rfl⟩, hkn⟩
            have hr3 := hr.keep hkn id
            have hk3 : Keep Nb w w3 := hk.trans hkn (fun _ _ h => h)
            clear hkn hr ha' hk
            simp only [setRow]
            have hr4 := hr3.alloc (.cells (setRow g) 24)
            have hk4 := hk3.alloc (.cells (setRow g) 24)
            simp only [setRow] at hr4 hk4
            clear hr3 hk3
            have HR := hr4
            have HR9 := Lib.hid (hr4.setRow (setRow zeroF))
            have HK9 := Lib.hid (Keep.setRow hk4 (Or.inl (Nat.le_refl _)) (setRow zeroF))
            clear hk4
            go_wp2_with (refine wpList_store_row rfl 24 (.tmp 4) (.tmp 65) rfl (w.heap.size) _ rfl rfl 24 _ HR sizeS2 rfl (by simp [setRow, Value.oneCell']) ?_)
            refine bodyPost_ret (results_ctt Try.results21 _ _ w.heap.size 24 _ (0, 0) _ rfl HR9.out Try.underlying24 rfl sizeS2) rfl ⟨by rw [← HX.out]; rfl, HK9.out⟩
          | some tk =>
            obtain ⟨t, k⟩ := tk
            have hF3 := hF.out
            rw [loopF_some HST.out hmm, dropdrop] at hF3
            have HF2 := Lib.hid hF3
            have hkl := Lib.hid (memberF_len hmm)
            rw [hmm] at hMM
            have HM2 := Lib.hid hMM
            clear hmm hF3 hF hMM
            go_wp2_with fail
            refine (HM2.out _).mono ?_
            rintro e w3 ⟨he, hkn⟩
            simp only [MemR] at he
            subst he
            have hr3 := hr.keep hkn id
            have ha3 := ha'.keep hkn id
            have hk3 : Keep Nb w w3 := hk.trans hkn (fun _ _ h => h)
            clear hkn hr ha' hk
            simp only [setRow]
            have hr4 := hr3.alloc (.cells (setRow t) 24)
            have ha4 := ha3.alloc (.cells (setRow t) 24)
            have hk4 := hk3.alloc (.cells (setRow t) 24)
            have c0' := ha4.cell 0 (u := .int .u64 (f 0)) rfl
            have c1' := ha4.cell 1 (u := .int .u64 (f 1)) rfl
            have c2' := ha4.cell 2 (u := .int .u64 (f 2)) rfl
            have c3' := ha4.cell 3 (u := .int .u64 (f 3)) rfl
            simp only [setRow] at hr4 ha4 hk4 c0' c1' c2' c3'
            clear hr3 ha3 hk3
            go_wp2_with fail
            refine (or_r f t _).mono ?_
            rintro e w5 ⟨rfl, hkn⟩
            have hr5 := hr4.keep hkn id
            have ha5 := ha4.keep hkn id
            have hk5 := hk4.trans hkn (fun _ _ h => h)
            clear hkn hr4 ha4 hk4 c0' c1' c2' c3'
            simp only [setRow]
            have ha6 : Blk (w5.setRow (w.heap.size + 1) (setRow (orF f t))) (w.heap.size + 1) (setRow (orF f t)) 24 := ha5.setRow _
            have hr6 : Blk (w5.setRow (w.heap.size + 1) (setRow (orF f t))) w.heap.size (setRow zeroF) 24 := hr5.setRowOther N1.out _
            have hk6 : Keep Nb w (w5.setRow (w.heap.size + 1) (setRow (orF f t))) := Keep.setRow hk5 (Or.inl N2.out) _
            have HA6 := Lib.hid ha6; have HR6 := Lib.hid hr6; have HK6 := Lib.hid hk6
            clear ha6 hr6 hk6 hr5 hk5
            go_wp2_with (refine wpList_store_row rfl 24 (.tmp 8) (.tmp 68) rfl (w.heap.size + 1) _ rfl rfl 24 _ ha5 sizeS2 rfl (by simp [setRow, Value.oneCell']) ?_)
            clear ha5
            go_roundw
            case rel => exact ⟨false, orF f t, i + k, fu, rfl, rfl, Lib.hid HF2.out, Lib.hid (go_on hI.out hkl.out), HA6.out, HR6.out, HK6.out⟩
            case measure => exact less_br hI.out hkl.out
        | false =>
          have hMM := HM.out i hI.out.2
          cases hmm : memberF (s.toList.drop i) with
          | none =>
            have hF2 := hF.out
            rw [loopF_none HST.out hmm] at hF2
            have HX := Lib.hid hF2
            rw [hmm] at hMM
            have HM2 := Lib.hid hMM
            clear hF2 hmm hF hMM
            go_wp2_with fail
            refine (HM2.out _).mono ?_
            rintro e w3 ⟨⟨g, n, rfl⟩, hkn⟩
            have hr3 := hr.keep hkn id
            have hk3 : Keep Nb w w3 := hk.trans hkn (fun _ _ h => h)
            clear hkn hr ha' hk
            simp only [setRow]
            have hr4 := hr3.alloc (.cells (setRow g) 24)
            have hk4 := hk3.alloc (.cells (setRow g) 24)
            simp only [setRow] at hr4 hk4
            clear hr3 hk3
            have HR := hr4
            have HR9 := Lib.hid (hr4.setRow (setRow zeroF))
            have HK9 := Lib.hid (Keep.setRow hk4 (Or.inl (Nat.le_refl _)) (setRow zeroF))
            clear hk4
            go_wp2_with (refine wpList_store_row rfl 24 (.tmp 4) (.tmp 65) rfl (w.heap.size) _ rfl rfl 24 _ HR sizeS2 rfl (by simp [setRow, Value.oneCell']) ?_)
            refine bodyPost_ret (results_ctt Try.results21 _ _ w.heap.size 24 _ (0, 0) _ rfl HR9.out Try.underlying24 rfl sizeS2) rfl ⟨by rw [← HX.out]; rfl, HK9.out⟩
          | some tk =>
            obtain ⟨t, k⟩ := tk
            have hF3 := hF.out
            rw [loopF_some HST.out hmm, dropdrop] at hF3
            have HF2 := Lib.hid hF3
            have hkl := Lib.hid (memberF_len hmm)
            rw [hmm] at hMM
            have HM2 := Lib.hid hMM
            clear hmm hF3 hF hMM
            go_wp2_with fail
            refine (HM2.out _).mono ?_
            rintro e w3 ⟨he, hkn⟩
            simp only [MemR] at he
            subst he
            have hr3 := hr.keep hkn id
            have ha3 := ha'.keep hkn id
            have hk3 : Keep Nb w w3 := hk.trans hkn (fun _ _ h => h)
            clear hkn hr ha' hk
            simp only [setRow]
            have hr4 := hr3.alloc (.cells (setRow t) 24)
            have ha4 := ha3.alloc (.cells (setRow t) 24)
            have hk4 := hk3.alloc (.cells (setRow t) 24)
            have c0' := ha4.cell 0 (u := .int .u64 (f 0)) rfl
            have c1' := ha4.cell 1 (u := .int .u64 (f 1)) rfl
            have c2' := ha4.cell 2 (u := .int .u64 (f 2)) rfl
            have c3' := ha4.cell 3 (u := .int .u64 (f 3)) rfl
            simp only [setRow] at hr4 ha4 hk4 c0' c1' c2' c3'
            clear hr3 ha3 hk3
            go_wp2_with fail
            refine (or_r f t _).mono ?_
            rintro e w5 ⟨rfl, hkn⟩
            have hr5 := hr4.keep hkn id
            have ha5 := ha4.keep hkn id
            have hk5 := hk4.trans hkn (fun _ _ h => h)
            clear hkn hr4 ha4 hk4 c0' c1' c2' c3'
            simp only [setRow]
            have ha6 : Blk (w5.setRow (w.heap.size + 1) (setRow (orF f t))) (w.heap.size + 1) (setRow (orF f t)) 24 := ha5.setRow _
            have hr6 : Blk (w5.setRow (w.heap.size + 1) (setRow (orF f t))) w.heap.size (setRow zeroF) 24 := hr5.setRowOther N1.out _
            have hk6 : Keep Nb w (w5.setRow (w.heap.size + 1) (setRow (orF f t))) := Keep.setRow hk5 (Or.inl N2.out) _
            have HA6 := Lib.hid ha6; have HR6 := Lib.hid hr6; have HK6 := Lib.hid hk6
            clear ha6 hr6 hk6 hr5 hk5
            go_wp2_with (refine wpList_store_row rfl 24 (.tmp 8) (.tmp 68) rfl (w.heap.size + 1) _ rfl rfl 24 _ ha5 sizeS2 rfl (by simp [setRow, Value.oneCell']) ?_)
            clear ha5
            go_roundw
            case rel => exact ⟨false, orF f t, i + k, fu, rfl, rfl, Lib.hid HF2.out, Lib.hid (go_on hI.out hkl.out), HA6.out, HR6.out, HK6.out⟩
            case measure => exact less_br hI.out hkl.out
    · have t1 : decide ((s.size : Int) ≤ (i : Int)) = true := by simp; omega
      have t2 : decide (s.size ≤ i) = true := by simp; omega
      have HX := Lib.hid (loop_end hF.out (by omega))
      clear hE hF ha'
      have HR := hr
      have HR9 := Lib.hid (hr.setRow (setRow zeroF))
      have HK9 := Lib.hid (Keep.setRow hk (Or.inl (Nat.le_refl _)) (setRow zeroF))
      clear hk
      go_wp2_with (refine wpList_store_row rfl 24 (.tmp 4) (.tmp 47) rfl (w.heap.size) _ rfl rfl 24 _ HR sizeS2 rfl (by simp [setRow, Value.oneCell']) ?_)
      refine bodyPost_ret (results_ctt Try.results21 _ _ w.heap.size 24 _ (0, 0) _ rfl HR9.out Try.underlying24 rfl sizeS2) rfl ⟨by rw [HX.out]; rfl, HK9.out⟩

end Go.Proofs.Ytfjipiibkmapkaa
