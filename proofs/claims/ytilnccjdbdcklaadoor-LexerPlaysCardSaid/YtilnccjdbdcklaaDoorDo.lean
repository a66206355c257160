/- do of the law, over any contracts of the two readers. Printed by gen_do.py. -/
import Derived.Test.YtilnccjdbdcklaaDoorAwake
import Derived.Deep.DeepCutAuto
import Derived.Deep.CutBlock
namespace Go.Proofs.YtilnccjdbdcklaaDoor
set_option linter.unusedVariables false
set_option linter.unusedSimpArgs false
open Go.RowKit

def askRow (k d m : Int) : Array Value := #[.int .u8 k, .int .u8 d, .int .i64 m]

set_option maxHeartbeats 8000000 in
set_option maxRecDepth 100000 in
theorem do_gen (l : Value) (q : Nat) (k d m a : Int) (en : Bool) (X : Nat → Prop) (I0 J I1 : World → Prop) (w : World) (hX : ∀ b, X b → b < w.heap.size) (hw : I0 (w.alloc (.cells (askRow k d m) 36)))
    (h0 : k = 0 → ∃ c : Int, 0 ≤ c ∧ c < 256 ∧ (∀ w, I0 w → Calls Tryd.prog 14 #[l] w fun e w' => e = .returned (.int .u8 c) ∧ J w' ∧ Keep X w w') ∧ (∀ w, J w → Calls Tryd.prog 18 #[.pointer (some ⟨q, 0, none⟩)] w fun e w' => e = .returned (.int .u8 c) ∧ I1 w' ∧ Keep X w w'))
    (h1 : k = 1 → ∃ c : Int, 0 ≤ c ∧ c < 256 ∧ (∀ w, I0 w → Calls Tryd.prog 19 #[l] w fun e w' => e = .returned (.int .u8 c) ∧ J w' ∧ Keep X w w') ∧ (∀ w, J w → Calls Tryd.prog 20 #[.pointer (some ⟨q, 0, none⟩)] w fun e w' => e = .returned (.int .u8 c) ∧ I1 w' ∧ Keep X w w'))
    (h2 : k = 2 → (∀ w, I0 w → Calls Tryd.prog 21 #[l] w fun e w' => e = .returned (.tuple #[]) ∧ J w' ∧ Keep X w w') ∧ (∀ w, J w → Calls Tryd.prog 22 #[.pointer (some ⟨q, 0, none⟩)] w fun e w' => e = .returned (.tuple #[]) ∧ I1 w' ∧ Keep X w w'))
    (h3 : k = 3 → ∃ (n : Int) (b : Bool), (∀ w, I0 w → Calls Tryd.prog 9 #[l] w fun e w' => e = .returned (.tuple #[.int .i64 n, .bool b]) ∧ J w' ∧ Keep X w w') ∧ (∀ w, J w → Calls Tryd.prog 23 #[.pointer (some ⟨q, 0, none⟩)] w fun e w' => e = .returned (.tuple #[.int .i64 n, .bool b]) ∧ I1 w' ∧ Keep X w w'))
    (h4 : k = 4 → ∃ (s : ByteArray) (e1 : Int), (∀ w, I0 w → Calls Tryd.prog 13 #[l, .int .u8 d] w fun e w' => e = .returned (.tuple #[.string s, .int .i64 e1]) ∧ J w' ∧ Keep X w w') ∧ (∀ w, J w → Calls Tryd.prog 24 #[.pointer (some ⟨q, 0, none⟩), .int .u8 d] w fun e w' => e = .returned (.tuple #[.string s, .int .i64 e1]) ∧ I1 w' ∧ Keep X w w'))
    (h5 : k = 5 → ∃ (s : ByteArray) (e1 : Int), (∀ w, I0 w → Calls Tryd.prog 25 #[l, .int .u8 d] w fun e w' => e = .returned (.tuple #[.string s, .int .i64 e1]) ∧ J w' ∧ Keep X w w') ∧ (∀ w, J w → Calls Tryd.prog 26 #[.pointer (some ⟨q, 0, none⟩), .int .u8 d] w fun e w' => e = .returned (.tuple #[.string s, .int .i64 e1]) ∧ I1 w' ∧ Keep X w w'))
    (h6 : k = 6 → ∃ (s : ByteArray) (b : Bool), (∀ w, I0 w → Calls Tryd.prog 27 #[l, .int .i64 m] w fun e w' => e = .returned (.tuple #[.string s, .bool b]) ∧ J w' ∧ Keep X w w') ∧ (∀ w, J w → Calls Tryd.prog 28 #[.pointer (some ⟨q, 0, none⟩), .int .i64 m] w fun e w' => e = .returned (.tuple #[.string s, .bool b]) ∧ I1 w' ∧ Keep X w w'))
    (h7 : k ≠ 0 ∧ k ≠ 1 ∧ k ≠ 2 ∧ k ≠ 3 ∧ k ≠ 4 ∧ k ≠ 5 ∧ k ≠ 6 → ∃ s : ByteArray, (∀ w, I0 w → Calls Tryd.prog 29 #[l] w fun e w' => e = .returned (.string s) ∧ J w' ∧ Keep X w w') ∧ (∀ w, J w → Calls Tryd.prog 30 #[.pointer (some ⟨q, 0, none⟩)] w fun e w' => e = .returned (.string s) ∧ I1 w' ∧ Keep X w w'))
    (hC : ∀ w w', I1 w → Keep Nb w w' → I1 w')
    (hA : ∀ w, I1 w → Calls Tryd.prog 10 #[l] w fun e w' => e = .returned (.int .i64 a) ∧ Keep Nb w w')
    (hE : ∀ w, I1 w → Calls Tryd.prog 12 #[l] w fun e w' => e = .returned (.bool en) ∧ Keep Nb w w')
    (hR : ∀ w, I1 w → Calls Tryd.prog 31 #[.pointer (some ⟨q, 0, none⟩)] w fun e w' => e = .returned (.bool en) ∧ Keep Nb w w')
    (hq : ∀ w, I1 w → w.cell? ⟨q, 1, none⟩ = some (.int .i64 a) ∧ q < w.heap.size) :
    Calls Tryd.prog 11 #[l, .pointer (some ⟨q, 0, none⟩), .agg (askRow k d m)] w fun e w' => e = .returned (.bool true) ∧ I1 w' ∧ Keep X w w' := by
  have HX := Lib.hid hX
  have HW := Lib.hid hw
  have H0 := Lib.hid h0
  have H1 := Lib.hid h1
  have H2 := Lib.hid h2
  have H3 := Lib.hid h3
  have H4 := Lib.hid h4
  have H5 := Lib.hid h5
  have H6 := Lib.hid h6
  have H7 := Lib.hid h7
  have HC := Lib.hid hC
  have HA := Lib.hid hA
  have HE := Lib.hid hE
  have HR := Lib.hid hR
  have HQ := Lib.hid hq
  clear hX hw h0 h1 h2 h3 h4 h5 h6 h7 hC hA hE hR hq
  have HB0 : Hid (Blk (w.alloc (.cells (askRow k d m) 36)) w.heap.size (askRow k d m) 36) := Lib.hid (Blk.new w _ _)
  have HK0 : Hid (Keep X w (w.alloc (.cells (askRow k d m) 36))) := Lib.hid (Keep.alloc (Keep.refl _ _) _)
  simp only [askRow]
  go_enter Tryd.func11, Tryd.ntmps11
  go_upto_region 1 with fail
  have hx : w.alloc (.cells #[.int .u8 k, .int .u8 d, .int .i64 m] 36) = w.alloc (.cells (askRow k d m) 36) := rfl
  rw [hx]; clear hx
  obtain ⟨g, hg⟩ : ∃ g, g = w.heap.size := ⟨_, rfl⟩
  rw [← hg] at HB0 ⊢
  have HXG : Hid (¬ X g) := Lib.hid (fun h => by have := HX.out g h; omega)
  clear hg
  generalize w.alloc (.cells (askRow k d m) 36) = w1 at HB0 HK0 HW ⊢
  have c0 := HB0.out.cell 0 (u := .int .u8 k) rfl
  have lg := HB0.out.lt
  go_upto_block 0 with fail
  go_cut [7, 8, 9, 10, 11, 12, 13, 14] (fun x7 x8 x9 x10 x11 x12 x13 x14 wx => ∃ (s : ByteArray) (e n : Int) (b : Bool), x7 = .string s ∧ x8 = .string s ∧ x9 = .int .i64 e ∧ x10 = .int .i64 e ∧ x11 = .int .i64 n ∧ x12 = .int .i64 n ∧ x13 = .bool b ∧ x14 = .bool b ∧ Hid (I1 wx ∧ Keep X w wx))
  case first =>
    by_cases hk : k = 0
    · obtain ⟨c, hc0, hc1, hp, hr⟩ := H0.out hk
      have HP := Lib.hid hp
      have HRR := Lib.hid hr
      clear hp hr
      have m0 : (k == 0) = true := by rw [hk]; rfl
      clear H0 H1 H2 H3 H4 H5 H6 H7 hk
      go_wp2_with fail
      refine (HP.out w1 HW.out).mono ?_
      rintro e w2 ⟨rfl, hj, hk2⟩
      have HJ := Lib.hid hj
      have HB2 := Lib.hid (HB0.out.keep hk2 HXG.out)
      have HK2 := Lib.hid (HK0.out.trans hk2 (fun _ _ h => h))
      clear hj hk2 c0 lg
      go_wp2_with fail
      refine (HRR.out w2 HJ.out).mono ?_
      rintro e w3 ⟨rfl, hi, hk3⟩
      have HI := Lib.hid (And.intro hi (HK2.out.trans hk3 (fun _ _ h => h)))
      clear hi hk3
      go_wp2_with fail
      go_meet
      exact ⟨_, _, _, _, rfl, rfl, rfl, rfl, rfl, rfl, rfl, rfl, HI⟩
    have n0 := hk
    clear hk
    by_cases hk : k = 1
    · obtain ⟨c, hc0, hc1, hp, hr⟩ := H1.out hk
      have HP := Lib.hid hp
      have HRR := Lib.hid hr
      clear hp hr
      have m0 : (k == 0) = false := by rw [hk]; rfl
      have m1 : (k == 1) = true := by rw [hk]; rfl
      clear H0 H1 H2 H3 H4 H5 H6 H7 hk
      go_wp2_with fail
      refine (HP.out w1 HW.out).mono ?_
      rintro e w2 ⟨rfl, hj, hk2⟩
      have HJ := Lib.hid hj
      have HB2 := Lib.hid (HB0.out.keep hk2 HXG.out)
      have HK2 := Lib.hid (HK0.out.trans hk2 (fun _ _ h => h))
      clear hj hk2 c0 lg
      go_wp2_with fail
      refine (HRR.out w2 HJ.out).mono ?_
      rintro e w3 ⟨rfl, hi, hk3⟩
      have HI := Lib.hid (And.intro hi (HK2.out.trans hk3 (fun _ _ h => h)))
      clear hi hk3
      go_wp2_with fail
      go_meet
      exact ⟨_, _, _, _, rfl, rfl, rfl, rfl, rfl, rfl, rfl, rfl, HI⟩
    have n1 := hk
    clear hk
    by_cases hk : k = 2
    · obtain ⟨hp, hr⟩ := H2.out hk
      have HP := Lib.hid hp
      have HRR := Lib.hid hr
      clear hp hr
      have m0 : (k == 0) = false := by rw [hk]; rfl
      have m1 : (k == 1) = false := by rw [hk]; rfl
      have m2 : (k == 2) = true := by rw [hk]; rfl
      clear H0 H1 H2 H3 H4 H5 H6 H7 hk
      go_wp2_with fail
      refine (HP.out w1 HW.out).mono ?_
      rintro e w2 ⟨rfl, hj, hk2⟩
      have HJ := Lib.hid hj
      have HB2 := Lib.hid (HB0.out.keep hk2 HXG.out)
      have HK2 := Lib.hid (HK0.out.trans hk2 (fun _ _ h => h))
      clear hj hk2 c0 lg
      go_wp2_with fail
      refine (HRR.out w2 HJ.out).mono ?_
      rintro e w3 ⟨rfl, hi, hk3⟩
      have HI := Lib.hid (And.intro hi (HK2.out.trans hk3 (fun _ _ h => h)))
      clear hi hk3
      go_wp2_with fail
      go_meet
      exact ⟨_, _, _, _, rfl, rfl, rfl, rfl, rfl, rfl, rfl, rfl, HI⟩
    have n2 := hk
    clear hk
    by_cases hk : k = 3
    · obtain ⟨n, b, hp, hr⟩ := H3.out hk
      have HP := Lib.hid hp
      have HRR := Lib.hid hr
      clear hp hr
      have m0 : (k == 0) = false := by rw [hk]; rfl
      have m1 : (k == 1) = false := by rw [hk]; rfl
      have m2 : (k == 2) = false := by rw [hk]; rfl
      have m3 : (k == 3) = true := by rw [hk]; rfl
      clear H0 H1 H2 H3 H4 H5 H6 H7 hk
      go_wp2_with fail
      refine (HP.out w1 HW.out).mono ?_
      rintro e w2 ⟨rfl, hj, hk2⟩
      have HJ := Lib.hid hj
      have HB2 := Lib.hid (HB0.out.keep hk2 HXG.out)
      have HK2 := Lib.hid (HK0.out.trans hk2 (fun _ _ h => h))
      clear hj hk2 c0 lg
      go_wp2_with fail
      refine (HRR.out w2 HJ.out).mono ?_
      rintro e w3 ⟨rfl, hi, hk3⟩
      have HI := Lib.hid (And.intro hi (HK2.out.trans hk3 (fun _ _ h => h)))
      clear hi hk3
      go_wp2_with fail
      go_meet
      exact ⟨_, _, _, _, rfl, rfl, rfl, rfl, rfl, rfl, rfl, rfl, HI⟩
    have n3 := hk
    clear hk
    by_cases hk : k = 4
    · obtain ⟨s, e1, hp, hr⟩ := H4.out hk
      have HP := Lib.hid hp
      have HRR := Lib.hid hr
      clear hp hr
      have m0 : (k == 0) = false := by rw [hk]; rfl
      have m1 : (k == 1) = false := by rw [hk]; rfl
      have m2 : (k == 2) = false := by rw [hk]; rfl
      have m3 : (k == 3) = false := by rw [hk]; rfl
      have m4 : (k == 4) = true := by rw [hk]; rfl
      clear H0 H1 H2 H3 H4 H5 H6 H7 hk
      have c1 := HB0.out.cell 1 (u := .int .u8 d) rfl
      go_wp2_with fail
      refine (HP.out w1 HW.out).mono ?_
      rintro e w2 ⟨rfl, hj, hk2⟩
      have HJ := Lib.hid hj
      have HB2 := Lib.hid (HB0.out.keep hk2 HXG.out)
      have HK2 := Lib.hid (HK0.out.trans hk2 (fun _ _ h => h))
      clear hj hk2 c0 lg c1
      have c1 := HB2.out.cell 1 (u := .int .u8 d) rfl
      have lg := HB2.out.lt
      go_wp2_with fail
      refine (HRR.out w2 HJ.out).mono ?_
      rintro e w3 ⟨rfl, hi, hk3⟩
      have HI := Lib.hid (And.intro hi (HK2.out.trans hk3 (fun _ _ h => h)))
      clear hi hk3
      go_wp2_with fail
      go_meet
      exact ⟨_, _, _, _, rfl, rfl, rfl, rfl, rfl, rfl, rfl, rfl, HI⟩
    have n4 := hk
    clear hk
    by_cases hk : k = 5
    · obtain ⟨s, e1, hp, hr⟩ := H5.out hk
      have HP := Lib.hid hp
      have HRR := Lib.hid hr
      clear hp hr
      have m0 : (k == 0) = false := by rw [hk]; rfl
      have m1 : (k == 1) = false := by rw [hk]; rfl
      have m2 : (k == 2) = false := by rw [hk]; rfl
      have m3 : (k == 3) = false := by rw [hk]; rfl
      have m4 : (k == 4) = false := by rw [hk]; rfl
      have m5 : (k == 5) = true := by rw [hk]; rfl
      clear H0 H1 H2 H3 H4 H5 H6 H7 hk
      have c1 := HB0.out.cell 1 (u := .int .u8 d) rfl
      go_wp2_with fail
      refine (HP.out w1 HW.out).mono ?_
      rintro e w2 ⟨rfl, hj, hk2⟩
      have HJ := Lib.hid hj
      have HB2 := Lib.hid (HB0.out.keep hk2 HXG.out)
      have HK2 := Lib.hid (HK0.out.trans hk2 (fun _ _ h => h))
      clear hj hk2 c0 lg c1
      have c1 := HB2.out.cell 1 (u := .int .u8 d) rfl
      have lg := HB2.out.lt
      go_wp2_with fail
      refine (HRR.out w2 HJ.out).mono ?_
      rintro e w3 ⟨rfl, hi, hk3⟩
      have HI := Lib.hid (And.intro hi (HK2.out.trans hk3 (fun _ _ h => h)))
      clear hi hk3
      go_wp2_with fail
      go_meet
      exact ⟨_, _, _, _, rfl, rfl, rfl, rfl, rfl, rfl, rfl, rfl, HI⟩
    have n5 := hk
    clear hk
    by_cases hk : k = 6
    · obtain ⟨s, b, hp, hr⟩ := H6.out hk
      have HP := Lib.hid hp
      have HRR := Lib.hid hr
      clear hp hr
      have m0 : (k == 0) = false := by rw [hk]; rfl
      have m1 : (k == 1) = false := by rw [hk]; rfl
      have m2 : (k == 2) = false := by rw [hk]; rfl
      have m3 : (k == 3) = false := by rw [hk]; rfl
      have m4 : (k == 4) = false := by rw [hk]; rfl
      have m5 : (k == 5) = false := by rw [hk]; rfl
      have m6 : (k == 6) = true := by rw [hk]; rfl
      clear H0 H1 H2 H3 H4 H5 H6 H7 hk
      have c1 := HB0.out.cell 2 (u := .int .i64 m) rfl
      go_wp2_with fail
      refine (HP.out w1 HW.out).mono ?_
      rintro e w2 ⟨rfl, hj, hk2⟩
      have HJ := Lib.hid hj
      have HB2 := Lib.hid (HB0.out.keep hk2 HXG.out)
      have HK2 := Lib.hid (HK0.out.trans hk2 (fun _ _ h => h))
      clear hj hk2 c0 lg c1
      have c1 := HB2.out.cell 2 (u := .int .i64 m) rfl
      have lg := HB2.out.lt
      go_wp2_with fail
      refine (HRR.out w2 HJ.out).mono ?_
      rintro e w3 ⟨rfl, hi, hk3⟩
      have HI := Lib.hid (And.intro hi (HK2.out.trans hk3 (fun _ _ h => h)))
      clear hi hk3
      go_wp2_with fail
      go_meet
      exact ⟨_, _, _, _, rfl, rfl, rfl, rfl, rfl, rfl, rfl, rfl, HI⟩
    have n6 := hk
    clear hk
    obtain ⟨s, hp, hr⟩ := H7.out ⟨n0, n1, n2, n3, n4, n5, n6⟩
    have HP := Lib.hid hp
    have HRR := Lib.hid hr
    clear hp hr
    have m0 : (k == 0) = false := beq_eq_false_iff_ne.2 n0
    have m1 : (k == 1) = false := beq_eq_false_iff_ne.2 n1
    have m2 : (k == 2) = false := beq_eq_false_iff_ne.2 n2
    have m3 : (k == 3) = false := beq_eq_false_iff_ne.2 n3
    have m4 : (k == 4) = false := beq_eq_false_iff_ne.2 n4
    have m5 : (k == 5) = false := beq_eq_false_iff_ne.2 n5
    have m6 : (k == 6) = false := beq_eq_false_iff_ne.2 n6
    clear H0 H1 H2 H3 H4 H5 H6 H7 n0 n1 n2 n3 n4 n5 n6
    go_wp2_with fail
    refine (HP.out w1 HW.out).mono ?_
    rintro e w2 ⟨rfl, hj, hk2⟩
    have HJ := Lib.hid hj
    have HB2 := Lib.hid (HB0.out.keep hk2 HXG.out)
    have HK2 := Lib.hid (HK0.out.trans hk2 (fun _ _ h => h))
    clear hj hk2 c0 lg
    go_wp2_with fail
    refine (HRR.out w2 HJ.out).mono ?_
    rintro e w3 ⟨rfl, hi, hk3⟩
    have HI := Lib.hid (And.intro hi (HK2.out.trans hk3 (fun _ _ h => h)))
    clear hi hk3
    go_wp2_with fail
    go_meet
    exact ⟨_, _, _, _, rfl, rfl, rfl, rfl, rfl, rfl, rfl, rfl, HI⟩
  case rest =>
  obtain ⟨s, e, n, b, rfl, rfl, rfl, rfl, rfl, rfl, rfl, rfl, HI⟩ := hcut
  clear H0 H1 H2 H3 H4 H5 H6 H7 HB0 HK0 HW c0 lg HXG HX
  have hcq := (HQ.out wc HI.out.1).1
  have hlq := (HQ.out wc HI.out.1).2
  go_wp2_with fail
  refine wp_region_x (by kernel_rfl) (by kernel_rfl) ?_; (repeat (go_big_quiet_step (((first | (go_at_call 10; exact Calls.ext _ (HA.out _ (HC.out _ _ HI.out.1 (Ext.property _)))) | (go_at_call 12; exact Calls.ext _ (HE.out _ (HC.out _ _ HI.out.1 (Ext.property _)))) | (go_at_call 31; exact Calls.ext _ (HR.out _ (HC.out _ _ HI.out.1 (Ext.property _))))))))); refine wpQuiet_nil ?_; rintro w9 ⟨⟨_, hk9⟩, rfl⟩
  go_wp2_with fail
  go_ret
  exact ⟨rfl, HC.out _ _ HI.out.1 hk9, HI.out.2.trans hk9 (fun _ _ h => h.elim)⟩

end Go.Proofs.YtilnccjdbdcklaaDoor
