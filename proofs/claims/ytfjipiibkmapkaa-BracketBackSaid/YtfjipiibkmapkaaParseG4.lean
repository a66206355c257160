/- Parse: part 4. -/
import Derived.Test.YtfjipiibkmapkaaParseL
namespace Go.Proofs.Ytfjipiibkmapkaa
set_option linter.unusedVariables false
set_option linter.unusedSimpArgs false
open Go.RowKit

set_option maxRecDepth 100000 in
set_option maxHeartbeats 4000000 in
theorem parse_not_no (s : ByteArray) (a : Nat) (hc : s.toList[a]? = some 91) (q1 : preB [94] (s.toList.drop (a + 1)) = true) (hf : loopF (s.size + 1) true zeroF (s.toList.drop (a + 2)) (a + 2) = none) (hz : s.size ≤ 1000000) (w : World) (hm : Laid0 w) :
    Calls Try.prog 20 #[.string s, .int .i64 (a : Int)] w fun e w' => e = .returned (.tuple #[.agg (setRow zeroF), .int .i64 0, .int .i64 10]) ∧ Keep Nb w w' := by
  obtain ⟨ha, e0⟩ := byte_at hc
  have P1 : preB (⟨#[94]⟩ : ByteArray).toList (s.toList.drop (a + 1)) = true := by rw [ByteArray.toList_eq]; exact q1
  have Q1 := Lib.hid P1
  have HH := Lib.hid (fun (q : Nat) (t : ByteArray) p wx (hx : RdAt wx p s q) (hq : q ≤ s.size) => has_any p s q t wx hx hq)
  have HMo := Lib.hid (fun (i : Nat) t k hx hi p (hp : p ≠ 0) wx (h : RdAt wx p s i) hl => member_okG p s i t k hx hi hz hp wx h hl)
  have HMb := Lib.hid (fun (i : Nat) hx hi p (hp : p ≠ 0) wx (h : RdAt wx p s i) hl => member_badG p s i hx hi hz hp wx h hl)
  have HZ := Lib.hid hz
  have HF := Lib.hid hf
  have HA := Lib.hid ha
  have I1 := Lib.hid (show a + 2 ≤ s.size by have := preB_len q1; rw [List.length_drop, toList_len] at this; simp at this; omega)
  have h0 : (0 : Int) ≤ (a : Int) := by omega
  have h1 : (a : Int) < (s.size : Int) := by omega
  have g1 : decide ((a : Int) < 0) = false := by simp
  have g2 : decide ((s.size : Int) ≤ (a : Int)) = false := by simp; omega
  have g3 : decide (s.size ≤ a) = false := by simp; omega
  have hw1 : wrap64 ((a : Int) + 1) = (a : Int) + 1 := by unfold wrap64; omega
  have ec1 : ((a + 1 : Nat) : Int) = (a : Int) + 1 := by omega
  have E1 := Lib.hid ec1
  clear P1 hc hf q1 ec1
  go_enter Try.func20, Try.ntmps20
  go_wp2_with fail
  have hr0 : Blk ((w.alloc (.cells (setRow zeroF) 26)).alloc (.cells #[.string s, .int .i64 ((a : Int) + 1)] 54)) w.heap.size (setRow zeroF) 26 := (Blk.new w _ _).alloc _
  have hb0 : RdAt ((w.alloc (.cells (setRow zeroF) 26)).alloc (.cells #[.string s, .int .i64 ((a : Int) + 1)] 54)) (w.heap.size + 1) s (a + 1) := by
    unfold RdAt; rw [E1.out]; exact Blk.new' (by simp) _ _
  have hk0 : Keep Nb w ((w.alloc (.cells (setRow zeroF) 26)).alloc (.cells #[.string s, .int .i64 ((a : Int) + 1)] 54)) := Keep.alloc (Keep.alloc (Keep.refl _ _) _) _
  simp only [setRow, zeroF] at hr0 hb0 hk0
  generalize ((w.alloc (.cells #[.int .u64 0, .int .u64 0, .int .u64 0, .int .u64 0] 26)).alloc (.cells #[.string s, .int .i64 ((a : Int) + 1)] 54)) = w0 at hr0 hb0 hk0 ⊢
  refine (HH.out (a + 1) ⟨#[94]⟩ (w.heap.size + 1) _ hb0 HA.out).mono ?_
  rintro e w1 ⟨he, hkn⟩
  rw [Q1.out] at he
  subst he
  have hb1 := hb0.keep hkn id
  have hr1 := hr0.keep hkn id
  have hk1 := hk0.trans hkn (fun _ _ h => h)
  have s1 := hb1.lt
  clear hkn hb0 hr0 hk0 w0
  have c1 := hb1.cell 1 (u := .int .i64 ((a + 1 : Nat) : Int)) rfl
  have f1 := hb1.frozen 1
  have hb5 := RdAt.moved hb1 1
  have hr5 := hr1.setOther (p := ⟨w.heap.size + 1, 1, none⟩) (by simp) (.int .i64 (((a + 1 : Nat) : Int) + ((1 : Nat) : Int)))
  have hk5 : Keep Nb w (w1.setCell ⟨w.heap.size + 1, 1, none⟩ (.int .i64 (((a + 1 : Nat) : Int) + ((1 : Nat) : Int)))) := Keep.setCell (p := ⟨w.heap.size + 1, 1, none⟩) hk1 (Or.inl (by simp)) _
  have ec : (((a + 1 : Nat) : Int) + ((1 : Nat) : Int)) = (a : Int) + 1 + 1 := by omega
  have hw2 : wrap64 ((a : Int) + 1 + 1) = (a : Int) + 1 + 1 := by unfold wrap64; omega
  rw [ec] at hb5 hr5 hk5
  have HB5 := Lib.hid hb5
  have HR5 := Lib.hid hr5
  have HK5 := Lib.hid hk5
  clear hb5 hr5 hk5 ec hb1 hr1 hk1
  go_wp2_with fail
  have hb2 := HB5.out
  have hr2 := HR5.out
  have hk2 := HK5.out
  clear HB5 HR5 HK5 c1 f1 hw2
  have hsz : (w1.setCell ⟨w.heap.size + 1, 1, none⟩ (.int .i64 ((a : Int) + 1 + 1))).heap.size = w1.heap.size := by simp [World.setCell]
  have HSZ := Lib.hid hsz
  clear hsz
  go_wp2_with fail
  rw [← HSZ.out]
  generalize w1.setCell ⟨w.heap.size + 1, 1, none⟩ (.int .i64 ((a : Int) + 1 + 1)) = w2 at hb2 hr2 hk2 ⊢
  have s2 := hb2.lt
  clear HSZ
  have hp0 : w.heap.size + 1 ≠ 0 := by omega
  have hn1 : w.heap.size + 1 ≠ w.heap.size := by omega
  have hn2 : w.heap.size + 1 ≠ w2.heap.size := by omega
  have hn3 : w.heap.size ≠ w2.heap.size := by omega
  have hn4 : w.heap.size ≤ w2.heap.size := by omega
  have N1 := Lib.hid hp0; have N2 := Lib.hid hn1; have N3 := Lib.hid hn2; have N4 := Lib.hid hn3; have N5 := Lib.hid hn4
  clear hp0 hn1 hn2 hn3 hn4
  go_loopw [10] (fun o wr => ∃ (b : Bool) (f : Nat → Int) (i fuel : Nat), o = .bool b ∧ Hid (loopF fuel b f (s.toList.drop i) i = none) ∧ Hid (s.size - i < fuel ∧ i ≤ s.size) ∧ RdAt wr (w.heap.size + 1) s i ∧ Blk wr w2.heap.size (setRow f) 26 ∧ Blk wr w.heap.size (setRow zeroF) 26 ∧ Keep Nb w wr) (fun _ wr => match wr.cell? ⟨w.heap.size + 1, 1, none⟩ with | some (.int _ i) => s.size - i.toNat | _ => 0)
  case atStart => exact ⟨true, zeroF, a + 2, s.size + 1, rfl, HF, Lib.hid ⟨by omega, I1.out⟩, hb2.alloc _, Blk.new w2 _ _, hr2.alloc _, Keep.alloc hk2 _⟩
  case round =>
    obtain ⟨b, f, i, fuel, rfl, hF, hI, hb, ha', hr, hk⟩ := hrel
    clear hb2 hr2 hk2 s2
    obtain ⟨fu, rfl⟩ : ∃ g, fuel = g + 1 := ⟨fuel - 1, by have := hI.out.1; omega⟩
    have hL : Laid0 wr := hm.keep hk id
    have HL := Lib.hid hL
    clear hL
    cases b with
    | true =>
      cases hmm : memberF (s.toList.drop i) with
      | none =>
        have hF2 := hF.out; rw [loopF_none (.inl rfl) hmm] at hF2
        have hM := Lib.hid hmm
        clear hF2 hmm
        go_wp2_with fail
        refine (HMb.out i hM.out hI.out.2 _ N1.out _ hb HL.out).mono ?_
        rintro e w3 ⟨⟨g, rfl⟩, hkn⟩
        have hr3 := hr.keep hkn N2.out.symm
        have hk3 : Keep Nb w w3 := hk.trans hkn (fun b hb h => by simp only [Ob] at h; omega)
        clear hkn hb hr ha' hk HL
        simp only [setRow]
        have hr4 := hr3.alloc (.cells (setRow g) 26)
        have hk4 := hk3.alloc (.cells (setRow g) 26)
        simp only [setRow] at hr4 hk4
        clear hr3 hk3
        go_wp2_with (refine wpList_store_row rfl 26 (.tmp 4) (.tmp 56) rfl w.heap.size _ rfl rfl 26 _ hr4 sizeS1 rfl (by simp [setRow, Value.oneCell']) ?_)
        refine bodyPost_ret (results_ctt Try.results20 _ _ w.heap.size 26 _ (0, 0) _ rfl (hr4.setRow (setRow zeroF)) Try.underlying26 rfl sizeS1) rfl ⟨rfl, Keep.setRow hk4 (Or.inl (Nat.le_refl _)) _⟩
      | some tk =>
        obtain ⟨t, k⟩ := tk
        have hF2 := Lib.hid hF.out
        have hF3 := hF.out
        rw [loopF_some (.inl rfl) hmm, dropdrop] at hF3
        have hF2 := Lib.hid hF3
        have hkl := Lib.hid (memberF_len hmm)
        have MB := Lib.hid (Blk.cell hb 1 (u := .int .i64 (i : Int)) rfl)
        have hM := Lib.hid hmm
        clear hmm hF3 hF
        go_wp2_with fail
        refine (HMo.out i t k hM.out hI.out.2 _ N1.out _ hb HL.out).mono ?_
        rintro e w3 ⟨rfl, hb3, hkn⟩
        have hr3 := hr.keep hkn N2.out.symm
        have ha3 := ha'.keep hkn N3.out.symm
        have hk3 : Keep Nb w w3 := hk.trans hkn (fun b hb h => by simp only [Ob] at h; omega)
        have hL3 := Lib.hid (HL.out.keep hkn N1.out.symm)
        have s3 := hkn.size
        have sw := ha'.lt
        clear hkn hb hr ha' hk HL
        simp only [setRow]
        have hb4 := hb3.alloc (.cells (setRow t) 26)
        have hr4 := hr3.alloc (.cells (setRow t) 26)
        have ha4 := ha3.alloc (.cells (setRow t) 26)
        have hk4 := hk3.alloc (.cells (setRow t) 26)
        have c0 := ha4.cell 0 (u := .int .u64 (f 0)) rfl
        have c1 := ha4.cell 1 (u := .int .u64 (f 1)) rfl
        have c2 := ha4.cell 2 (u := .int .u64 (f 2)) rfl
        have c3 := ha4.cell 3 (u := .int .u64 (f 3)) rfl
        simp only [setRow] at hb4 hr4 ha4 hk4 c0 c1 c2 c3
        clear hb3 hr3 ha3 hk3
        go_wp2_with fail
        refine (or_t f t _).mono ?_
        rintro e w5 ⟨rfl, hkn⟩
        have hb5 := hb4.keep hkn id
        have hr5 := hr4.keep hkn id
        have ha5 := ha4.keep hkn id
        have hk5 := hk4.trans hkn (fun _ _ h => h)
        clear hkn hb4 hr4 ha4 hk4 c0 c1 c2 c3
        simp only [setRow]
        go_wp2_with (refine wpList_store_row rfl 26 (.tmp 9) (.tmp 59) rfl w2.heap.size _ rfl rfl 26 _ ha5 sizeS1 rfl (by simp [Value.oneCell']) ?_)
        have hb6 : RdAt (w5.setRow w2.heap.size (setRow (orF f t))) (w.heap.size + 1) s (i + k) := hb5.setRowOther N3.out _
        have ha6 : Blk (w5.setRow w2.heap.size (setRow (orF f t))) w2.heap.size (setRow (orF f t)) 26 := ha5.setRow _
        have hr6 : Blk (w5.setRow w2.heap.size (setRow (orF f t))) w.heap.size (setRow zeroF) 26 := hr5.setRowOther N4.out _
        have hk6 : Keep Nb w (w5.setRow w2.heap.size (setRow (orF f t))) := Keep.setRow hk5 (Or.inl N5.out) _
        have HB6 := Lib.hid hb6; have HA6 := Lib.hid ha6; have HR6 := Lib.hid hr6; have HK6 := Lib.hid hk6
        clear hb6 ha6 hr6 hk6 hb5 ha5 hr5 hk5
        go_roundw
        case rel => exact ⟨false, orF f t, i + k, fu, rfl, Lib.hid hF2.out, Lib.hid (go_on hI.out hkl.out), HB6.out, HA6.out, HR6.out, HK6.out⟩
        case measure => exact less_on MB.out (Blk.cell HB6.out 1 (u := .int .i64 ((i + k : Nat) : Int)) rfl) hI.out hkl.out
    | false =>
      cases h93' : preB [93] (s.toList.drop i) with
      | false =>
        have h93 := Lib.hid h93'
        have P2 : preB (⟨#[93]⟩ : ByteArray).toList (s.toList.drop i) = false := by rw [ByteArray.toList_eq]; exact h93'
        have Q2 := Lib.hid P2
        clear P2 h93'
        go_wp2_with fail
        refine (HH.out i ⟨#[93]⟩ (w.heap.size + 1) _ hb hI.out.2).mono ?_
        rintro e w2' ⟨he, hkn⟩
        rw [Q2.out] at he
        subst he
        have hb0 := Lib.hid hb
        replace hb := hb.keep hkn id
        replace hr := hr.keep hkn id
        replace ha' := ha'.keep hkn id
        replace hk := hk.trans hkn (fun _ _ h => h)
        replace HL := Lib.hid (HL.out.keep hkn id)
        clear hkn
        cases hmm : memberF (s.toList.drop i) with
        | none =>
          have hF2 := hF.out; rw [loopF_none (.inr h93.out) hmm] at hF2
          have hM := Lib.hid hmm
          clear hF2 hmm
          go_wp2_with fail
          refine (HMb.out i hM.out hI.out.2 _ N1.out _ hb HL.out).mono ?_
          rintro e w3 ⟨⟨g, rfl⟩, hkn⟩
          have hr3 := hr.keep hkn N2.out.symm
          have hk3 : Keep Nb w w3 := hk.trans hkn (fun b hb h => by simp only [Ob] at h; omega)
          clear hkn hb hr ha' hk HL
          simp only [setRow]
          have hr4 := hr3.alloc (.cells (setRow g) 26)
          have hk4 := hk3.alloc (.cells (setRow g) 26)
          simp only [setRow] at hr4 hk4
          clear hr3 hk3
          go_wp2_with (refine wpList_store_row rfl 26 (.tmp 4) (.tmp 56) rfl w.heap.size _ rfl rfl 26 _ hr4 sizeS1 rfl (by simp [setRow, Value.oneCell']) ?_)
          refine bodyPost_ret (results_ctt Try.results20 _ _ w.heap.size 26 _ (0, 0) _ rfl (hr4.setRow (setRow zeroF)) Try.underlying26 rfl sizeS1) rfl ⟨rfl, Keep.setRow hk4 (Or.inl (Nat.le_refl _)) _⟩
        | some tk =>
          obtain ⟨t, k⟩ := tk
          have hF2 := Lib.hid hF.out
          have hF3 := hF.out
          rw [loopF_some (.inr h93.out) hmm, dropdrop] at hF3
          have hF2 := Lib.hid hF3
          have hkl := Lib.hid (memberF_len hmm)
          have MB := Lib.hid (Blk.cell hb0.out 1 (u := .int .i64 (i : Int)) rfl)
          have hM := Lib.hid hmm
          clear hmm hF3 hF
          go_wp2_with fail
          refine (HMo.out i t k hM.out hI.out.2 _ N1.out _ hb HL.out).mono ?_
          rintro e w3 ⟨rfl, hb3, hkn⟩
          have hr3 := hr.keep hkn N2.out.symm
          have ha3 := ha'.keep hkn N3.out.symm
          have hk3 : Keep Nb w w3 := hk.trans hkn (fun b hb h => by simp only [Ob] at h; omega)
          have hL3 := Lib.hid (HL.out.keep hkn N1.out.symm)
          have s3 := hkn.size
          have sw := ha'.lt
          clear hkn hb hr ha' hk HL
          simp only [setRow]
          have hb4 := hb3.alloc (.cells (setRow t) 26)
          have hr4 := hr3.alloc (.cells (setRow t) 26)
          have ha4 := ha3.alloc (.cells (setRow t) 26)
          have hk4 := hk3.alloc (.cells (setRow t) 26)
          have c0 := ha4.cell 0 (u := .int .u64 (f 0)) rfl
          have c1 := ha4.cell 1 (u := .int .u64 (f 1)) rfl
          have c2 := ha4.cell 2 (u := .int .u64 (f 2)) rfl
          have c3 := ha4.cell 3 (u := .int .u64 (f 3)) rfl
          simp only [setRow] at hb4 hr4 ha4 hk4 c0 c1 c2 c3
          clear hb3 hr3 ha3 hk3
          go_wp2_with fail
          refine (or_t f t _).mono ?_
          rintro e w5 ⟨rfl, hkn⟩
          have hb5 := hb4.keep hkn id
          have hr5 := hr4.keep hkn id
          have ha5 := ha4.keep hkn id
          have hk5 := hk4.trans hkn (fun _ _ h => h)
          clear hkn hb4 hr4 ha4 hk4 c0 c1 c2 c3
          simp only [setRow]
          go_wp2_with (refine wpList_store_row rfl 26 (.tmp 9) (.tmp 59) rfl w2.heap.size _ rfl rfl 26 _ ha5 sizeS1 rfl (by simp [Value.oneCell']) ?_)
          have hb6 : RdAt (w5.setRow w2.heap.size (setRow (orF f t))) (w.heap.size + 1) s (i + k) := hb5.setRowOther N3.out _
          have ha6 : Blk (w5.setRow w2.heap.size (setRow (orF f t))) w2.heap.size (setRow (orF f t)) 26 := ha5.setRow _
          have hr6 : Blk (w5.setRow w2.heap.size (setRow (orF f t))) w.heap.size (setRow zeroF) 26 := hr5.setRowOther N4.out _
          have hk6 : Keep Nb w (w5.setRow w2.heap.size (setRow (orF f t))) := Keep.setRow hk5 (Or.inl N5.out) _
          have HB6 := Lib.hid hb6; have HA6 := Lib.hid ha6; have HR6 := Lib.hid hr6; have HK6 := Lib.hid hk6
          clear hb6 ha6 hr6 hk6 hb5 ha5 hr5 hk5
          go_roundw
          case rel => exact ⟨false, orF f t, i + k, fu, rfl, Lib.hid hF2.out, Lib.hid (go_on hI.out hkl.out), HB6.out, HA6.out, HR6.out, HK6.out⟩
          case measure => exact less_on MB.out (Blk.cell HB6.out 1 (u := .int .i64 ((i + k : Nat) : Int)) rfl) hI.out hkl.out
      | true =>
        have hF2 := hF.out
        rw [loopF_exit h93'] at hF2
        cases hF2

end Go.Proofs.Ytfjipiibkmapkaa
