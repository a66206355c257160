/- A class's set: Class of the reference. -/
import Derived.Test.YtfjipiibkmapkaaClass
namespace Go.Proofs.Ytfjipiibkmapkaa
set_option linter.unusedVariables false
set_option linter.unusedSimpArgs false
open Go.RowKit

theorem xd : setRow (foldC zeroF [(48, 57), (65, 70), (97, 102)]) = setRow (foldC zeroF [(65, 70), (97, 102), (48, 57)]) := setRow_congr fun i hi => by
  have : i = 0 ∨ i = 1 ∨ i = 2 ∨ i = 3 := by omega
  rcases this with rfl | rfl | rfl | rfl <;> decide +kernel

set_option maxRecDepth 100000 in
set_option maxHeartbeats 4000000 in
theorem class_r (s : ByteArray) (w : World) :
    Calls Try.prog 19 #[.string s] w fun e w' => e = .returned (.tuple #[.agg (setRow (foldC zeroF (clsP s.toList))), .bool (decide (clsP s.toList ≠ []))]) ∧ Keep Nb w w' := by
  by_cases e0 : s.toList = [117, 112, 112, 101, 114]
  · have m0 : (s.toList == [117, 112, 112, 101, 114]) = true := by simpa using e0
    have E0 := Lib.hid e0
    clear e0
    have hcls : clsP s.toList = [(65, 90)] := by rw [clsP,  if_pos E0.out]
    rw [hcls]
    clear hcls
    obtain ⟨v, hv⟩ : ∃ v, v = setRow (foldC zeroF [(65, 90)]) := ⟨_, rfl⟩
    rw [← hv]
    have HV := Lib.hid hv
    clear hv
    go_enter Try.func19, Try.ntmps19
    go_wp2_with fail
    have hr0 : Blk ((w.alloc (.cells (setRow zeroF) 24)).alloc (.cells (setRow zeroF) 24)) w.heap.size (setRow zeroF) 24 := (Blk.new w _ _).alloc _
    have hk0 : Keep Nb w ((w.alloc (.cells (setRow zeroF) 24)).alloc (.cells (setRow zeroF) 24)) := Keep.alloc (Keep.alloc (Keep.refl _ _) _) _
    refine (with_r (zeroF) 65 90 (by decide) (by decide) _).mono ?_
    rintro e w1 ⟨rfl, hkn⟩
    have hr1 := hr0.keep hkn id
    have hk1 := hk0.trans hkn (fun _ _ h => h)
    clear hkn
    simp only [setRow]
    go_wp2_with (refine wpList_store_row rfl 24 (.tmp 2) (.tmp 9) rfl w.heap.size _ rfl rfl 24 _ hr1 sizeS2 rfl (by simp [Value.oneCell']) ?_)
    have hr9 : Blk (w1.setRow w.heap.size (setRow (withF (zeroF) 65 90))) w.heap.size (setRow (withF (zeroF) 65 90)) 24 := hr1.setRow _
    refine bodyPost_ret (results_ct Try.results19 _ _ w.heap.size 24 _ (0, 0) _ rfl hr9 Try.underlying24 rfl sizeS2) rfl ⟨by rw [HV.out]; rfl, Keep.setRow hk1 (Or.inl (Nat.le_refl _)) _⟩
  have m0 : (s.toList == [117, 112, 112, 101, 114]) = false := by simpa using e0
  have E0 := Lib.hid e0
  clear e0
  by_cases e1 : s.toList = [108, 111, 119, 101, 114]
  · have m1 : (s.toList == [108, 111, 119, 101, 114]) = true := by simpa using e1
    have E1 := Lib.hid e1
    clear e1
    have hcls : clsP s.toList = [(97, 122)] := by rw [clsP, if_neg E0.out, if_pos E1.out]
    rw [hcls]
    clear hcls
    obtain ⟨v, hv⟩ : ∃ v, v = setRow (foldC zeroF [(97, 122)]) := ⟨_, rfl⟩
    rw [← hv]
    have HV := Lib.hid hv
    clear hv
    go_enter Try.func19, Try.ntmps19
    go_wp2_with fail
    have hr0 : Blk ((w.alloc (.cells (setRow zeroF) 24)).alloc (.cells (setRow zeroF) 24)) w.heap.size (setRow zeroF) 24 := (Blk.new w _ _).alloc _
    have hk0 : Keep Nb w ((w.alloc (.cells (setRow zeroF) 24)).alloc (.cells (setRow zeroF) 24)) := Keep.alloc (Keep.alloc (Keep.refl _ _) _) _
    refine (with_r (zeroF) 97 122 (by decide) (by decide) _).mono ?_
    rintro e w1 ⟨rfl, hkn⟩
    have hr1 := hr0.keep hkn id
    have hk1 := hk0.trans hkn (fun _ _ h => h)
    clear hkn
    simp only [setRow]
    go_wp2_with (refine wpList_store_row rfl 24 (.tmp 2) (.tmp 13) rfl w.heap.size _ rfl rfl 24 _ hr1 sizeS2 rfl (by simp [Value.oneCell']) ?_)
    have hr9 : Blk (w1.setRow w.heap.size (setRow (withF (zeroF) 97 122))) w.heap.size (setRow (withF (zeroF) 97 122)) 24 := hr1.setRow _
    refine bodyPost_ret (results_ct Try.results19 _ _ w.heap.size 24 _ (0, 0) _ rfl hr9 Try.underlying24 rfl sizeS2) rfl ⟨by rw [HV.out]; rfl, Keep.setRow hk1 (Or.inl (Nat.le_refl _)) _⟩
  have m1 : (s.toList == [108, 111, 119, 101, 114]) = false := by simpa using e1
  have E1 := Lib.hid e1
  clear e1
  by_cases e2 : s.toList = [97, 108, 112, 104, 97]
  · have m2 : (s.toList == [97, 108, 112, 104, 97]) = true := by simpa using e2
    have E2 := Lib.hid e2
    clear e2
    have hcls : clsP s.toList = [(65, 90), (97, 122)] := by rw [clsP, if_neg E0.out, if_neg E1.out, if_pos E2.out]
    rw [hcls]
    clear hcls
    obtain ⟨v, hv⟩ : ∃ v, v = setRow (foldC zeroF [(65, 90), (97, 122)]) := ⟨_, rfl⟩
    rw [← hv]
    have HV := Lib.hid hv
    clear hv
    go_enter Try.func19, Try.ntmps19
    go_wp2_with fail
    have hr0 : Blk ((w.alloc (.cells (setRow zeroF) 24)).alloc (.cells (setRow zeroF) 24)) w.heap.size (setRow zeroF) 24 := (Blk.new w _ _).alloc _
    have hk0 : Keep Nb w ((w.alloc (.cells (setRow zeroF) 24)).alloc (.cells (setRow zeroF) 24)) := Keep.alloc (Keep.alloc (Keep.refl _ _) _) _
    refine (with_r (zeroF) 65 90 (by decide) (by decide) _).mono ?_
    rintro e w1 ⟨rfl, hkn⟩
    have hr1 := hr0.keep hkn id
    have hk1 := hk0.trans hkn (fun _ _ h => h)
    clear hkn
    simp only [setRow]
    go_wp2_with fail
    refine (with_r (withF (zeroF) 65 90) 97 122 (by decide) (by decide) _).mono ?_
    rintro e w2 ⟨rfl, hkn⟩
    have hr2 := hr1.keep hkn id
    have hk2 := hk1.trans hkn (fun _ _ h => h)
    clear hkn
    simp only [setRow]
    go_wp2_with (refine wpList_store_row rfl 24 (.tmp 2) (.tmp 18) rfl w.heap.size _ rfl rfl 24 _ hr2 sizeS2 rfl (by simp [Value.oneCell']) ?_)
    have hr9 : Blk (w2.setRow w.heap.size (setRow (withF (withF (zeroF) 65 90) 97 122))) w.heap.size (setRow (withF (withF (zeroF) 65 90) 97 122)) 24 := hr2.setRow _
    refine bodyPost_ret (results_ct Try.results19 _ _ w.heap.size 24 _ (0, 0) _ rfl hr9 Try.underlying24 rfl sizeS2) rfl ⟨by rw [HV.out]; rfl, Keep.setRow hk2 (Or.inl (Nat.le_refl _)) _⟩
  have m2 : (s.toList == [97, 108, 112, 104, 97]) = false := by simpa using e2
  have E2 := Lib.hid e2
  clear e2
  by_cases e3 : s.toList = [100, 105, 103, 105, 116]
  · have m3 : (s.toList == [100, 105, 103, 105, 116]) = true := by simpa using e3
    have E3 := Lib.hid e3
    clear e3
    have hcls : clsP s.toList = [(48, 57)] := by rw [clsP, if_neg E0.out, if_neg E1.out, if_neg E2.out, if_pos E3.out]
    rw [hcls]
    clear hcls
    obtain ⟨v, hv⟩ : ∃ v, v = setRow (foldC zeroF [(48, 57)]) := ⟨_, rfl⟩
    rw [← hv]
    have HV := Lib.hid hv
    clear hv
    go_enter Try.func19, Try.ntmps19
    go_wp2_with fail
    have hr0 : Blk ((w.alloc (.cells (setRow zeroF) 24)).alloc (.cells (setRow zeroF) 24)) w.heap.size (setRow zeroF) 24 := (Blk.new w _ _).alloc _
    have hk0 : Keep Nb w ((w.alloc (.cells (setRow zeroF) 24)).alloc (.cells (setRow zeroF) 24)) := Keep.alloc (Keep.alloc (Keep.refl _ _) _) _
    refine (with_r (zeroF) 48 57 (by decide) (by decide) _).mono ?_
    rintro e w1 ⟨rfl, hkn⟩
    have hr1 := hr0.keep hkn id
    have hk1 := hk0.trans hkn (fun _ _ h => h)
    clear hkn
    simp only [setRow]
    go_wp2_with (refine wpList_store_row rfl 24 (.tmp 2) (.tmp 22) rfl w.heap.size _ rfl rfl 24 _ hr1 sizeS2 rfl (by simp [Value.oneCell']) ?_)
    have hr9 : Blk (w1.setRow w.heap.size (setRow (withF (zeroF) 48 57))) w.heap.size (setRow (withF (zeroF) 48 57)) 24 := hr1.setRow _
    refine bodyPost_ret (results_ct Try.results19 _ _ w.heap.size 24 _ (0, 0) _ rfl hr9 Try.underlying24 rfl sizeS2) rfl ⟨by rw [HV.out]; rfl, Keep.setRow hk1 (Or.inl (Nat.le_refl _)) _⟩
  have m3 : (s.toList == [100, 105, 103, 105, 116]) = false := by simpa using e3
  have E3 := Lib.hid e3
  clear e3
  by_cases e4 : s.toList = [97, 108, 110, 117, 109]
  · have m4 : (s.toList == [97, 108, 110, 117, 109]) = true := by simpa using e4
    have E4 := Lib.hid e4
    clear e4
    have hcls : clsP s.toList = [(65, 90), (97, 122), (48, 57)] := by rw [clsP, if_neg E0.out, if_neg E1.out, if_neg E2.out, if_neg E3.out, if_pos E4.out]
    rw [hcls]
    clear hcls
    obtain ⟨v, hv⟩ : ∃ v, v = setRow (foldC zeroF [(65, 90), (97, 122), (48, 57)]) := ⟨_, rfl⟩
    rw [← hv]
    have HV := Lib.hid hv
    clear hv
    go_enter Try.func19, Try.ntmps19
    go_wp2_with fail
    have hr0 : Blk ((w.alloc (.cells (setRow zeroF) 24)).alloc (.cells (setRow zeroF) 24)) w.heap.size (setRow zeroF) 24 := (Blk.new w _ _).alloc _
    have hk0 : Keep Nb w ((w.alloc (.cells (setRow zeroF) 24)).alloc (.cells (setRow zeroF) 24)) := Keep.alloc (Keep.alloc (Keep.refl _ _) _) _
    refine (with_r (zeroF) 65 90 (by decide) (by decide) _).mono ?_
    rintro e w1 ⟨rfl, hkn⟩
    have hr1 := hr0.keep hkn id
    have hk1 := hk0.trans hkn (fun _ _ h => h)
    clear hkn
    simp only [setRow]
    go_wp2_with fail
    refine (with_r (withF (zeroF) 65 90) 97 122 (by decide) (by decide) _).mono ?_
    rintro e w2 ⟨rfl, hkn⟩
    have hr2 := hr1.keep hkn id
    have hk2 := hk1.trans hkn (fun _ _ h => h)
    clear hkn
    simp only [setRow]
    go_wp2_with fail
    refine (with_r (withF (withF (zeroF) 65 90) 97 122) 48 57 (by decide) (by decide) _).mono ?_
    rintro e w3 ⟨rfl, hkn⟩
    have hr3 := hr2.keep hkn id
    have hk3 := hk2.trans hkn (fun _ _ h => h)
    clear hkn
    simp only [setRow]
    go_wp2_with (refine wpList_store_row rfl 24 (.tmp 2) (.tmp 28) rfl w.heap.size _ rfl rfl 24 _ hr3 sizeS2 rfl (by simp [Value.oneCell']) ?_)
    have hr9 : Blk (w3.setRow w.heap.size (setRow (withF (withF (withF (zeroF) 65 90) 97 122) 48 57))) w.heap.size (setRow (withF (withF (withF (zeroF) 65 90) 97 122) 48 57)) 24 := hr3.setRow _
    refine bodyPost_ret (results_ct Try.results19 _ _ w.heap.size 24 _ (0, 0) _ rfl hr9 Try.underlying24 rfl sizeS2) rfl ⟨by rw [HV.out]; rfl, Keep.setRow hk3 (Or.inl (Nat.le_refl _)) _⟩
  have m4 : (s.toList == [97, 108, 110, 117, 109]) = false := by simpa using e4
  have E4 := Lib.hid e4
  clear e4
  by_cases e5 : s.toList = [120, 100, 105, 103, 105, 116]
  · have m5 : (s.toList == [120, 100, 105, 103, 105, 116]) = true := by simpa using e5
    have E5 := Lib.hid e5
    clear e5
    have hcls : clsP s.toList = [(48, 57), (65, 70), (97, 102)] := by rw [clsP, if_neg E0.out, if_neg E1.out, if_neg E2.out, if_neg E3.out, if_neg E4.out, if_pos E5.out]
    rw [hcls]
    rw [xd]
    clear hcls
    obtain ⟨v, hv⟩ : ∃ v, v = setRow (foldC zeroF [(65, 70), (97, 102), (48, 57)]) := ⟨_, rfl⟩
    rw [← hv]
    have HV := Lib.hid hv
    clear hv
    go_enter Try.func19, Try.ntmps19
    go_wp2_with fail
    have hr0 : Blk ((w.alloc (.cells (setRow zeroF) 24)).alloc (.cells (setRow zeroF) 24)) w.heap.size (setRow zeroF) 24 := (Blk.new w _ _).alloc _
    have hk0 : Keep Nb w ((w.alloc (.cells (setRow zeroF) 24)).alloc (.cells (setRow zeroF) 24)) := Keep.alloc (Keep.alloc (Keep.refl _ _) _) _
    refine (with_r (zeroF) 65 70 (by decide) (by decide) _).mono ?_
    rintro e w1 ⟨rfl, hkn⟩
    have hr1 := hr0.keep hkn id
    have hk1 := hk0.trans hkn (fun _ _ h => h)
    clear hkn
    simp only [setRow]
    go_wp2_with fail
    refine (with_r (withF (zeroF) 65 70) 97 102 (by decide) (by decide) _).mono ?_
    rintro e w2 ⟨rfl, hkn⟩
    have hr2 := hr1.keep hkn id
    have hk2 := hk1.trans hkn (fun _ _ h => h)
    clear hkn
    simp only [setRow]
    go_wp2_with fail
    refine (with_r (withF (withF (zeroF) 65 70) 97 102) 48 57 (by decide) (by decide) _).mono ?_
    rintro e w3 ⟨rfl, hkn⟩
    have hr3 := hr2.keep hkn id
    have hk3 := hk2.trans hkn (fun _ _ h => h)
    clear hkn
    simp only [setRow]
    go_wp2_with (refine wpList_store_row rfl 24 (.tmp 2) (.tmp 34) rfl w.heap.size _ rfl rfl 24 _ hr3 sizeS2 rfl (by simp [Value.oneCell']) ?_)
    have hr9 : Blk (w3.setRow w.heap.size (setRow (withF (withF (withF (zeroF) 65 70) 97 102) 48 57))) w.heap.size (setRow (withF (withF (withF (zeroF) 65 70) 97 102) 48 57)) 24 := hr3.setRow _
    refine bodyPost_ret (results_ct Try.results19 _ _ w.heap.size 24 _ (0, 0) _ rfl hr9 Try.underlying24 rfl sizeS2) rfl ⟨by rw [HV.out]; rfl, Keep.setRow hk3 (Or.inl (Nat.le_refl _)) _⟩
  have m5 : (s.toList == [120, 100, 105, 103, 105, 116]) = false := by simpa using e5
  have E5 := Lib.hid e5
  clear e5
  by_cases e6 : s.toList = [98, 108, 97, 110, 107]
  · have m6 : (s.toList == [98, 108, 97, 110, 107]) = true := by simpa using e6
    have E6 := Lib.hid e6
    clear e6
    have hcls : clsP s.toList = [(32, 32), (9, 9)] := by rw [clsP, if_neg E0.out, if_neg E1.out, if_neg E2.out, if_neg E3.out, if_neg E4.out, if_neg E5.out, if_pos E6.out]
    rw [hcls]
    clear hcls
    obtain ⟨v, hv⟩ : ∃ v, v = setRow (foldC zeroF [(32, 32), (9, 9)]) := ⟨_, rfl⟩
    rw [← hv]
    have HV := Lib.hid hv
    clear hv
    go_enter Try.func19, Try.ntmps19
    go_wp2_with fail
    have hr0 : Blk ((w.alloc (.cells (setRow zeroF) 24)).alloc (.cells (setRow zeroF) 24)) w.heap.size (setRow zeroF) 24 := (Blk.new w _ _).alloc _
    have hk0 : Keep Nb w ((w.alloc (.cells (setRow zeroF) 24)).alloc (.cells (setRow zeroF) 24)) := Keep.alloc (Keep.alloc (Keep.refl _ _) _) _
    refine (with_r (zeroF) 32 32 (by decide) (by decide) _).mono ?_
    rintro e w1 ⟨rfl, hkn⟩
    have hr1 := hr0.keep hkn id
    have hk1 := hk0.trans hkn (fun _ _ h => h)
    clear hkn
    simp only [setRow]
    go_wp2_with fail
    refine (with_r (withF (zeroF) 32 32) 9 9 (by decide) (by decide) _).mono ?_
    rintro e w2 ⟨rfl, hkn⟩
    have hr2 := hr1.keep hkn id
    have hk2 := hk1.trans hkn (fun _ _ h => h)
    clear hkn
    simp only [setRow]
    go_wp2_with (refine wpList_store_row rfl 24 (.tmp 2) (.tmp 39) rfl w.heap.size _ rfl rfl 24 _ hr2 sizeS2 rfl (by simp [Value.oneCell']) ?_)
    have hr9 : Blk (w2.setRow w.heap.size (setRow (withF (withF (zeroF) 32 32) 9 9))) w.heap.size (setRow (withF (withF (zeroF) 32 32) 9 9)) 24 := hr2.setRow _
    refine bodyPost_ret (results_ct Try.results19 _ _ w.heap.size 24 _ (0, 0) _ rfl hr9 Try.underlying24 rfl sizeS2) rfl ⟨by rw [HV.out]; rfl, Keep.setRow hk2 (Or.inl (Nat.le_refl _)) _⟩
  have m6 : (s.toList == [98, 108, 97, 110, 107]) = false := by simpa using e6
  have E6 := Lib.hid e6
  clear e6
  by_cases e7 : s.toList = [115, 112, 97, 99, 101]
  · have m7 : (s.toList == [115, 112, 97, 99, 101]) = true := by simpa using e7
    have E7 := Lib.hid e7
    clear e7
    have hcls : clsP s.toList = [(32, 32), (9, 13)] := by rw [clsP, if_neg E0.out, if_neg E1.out, if_neg E2.out, if_neg E3.out, if_neg E4.out, if_neg E5.out, if_neg E6.out, if_pos E7.out]
    rw [hcls]
    clear hcls
    obtain ⟨v, hv⟩ : ∃ v, v = setRow (foldC zeroF [(32, 32), (9, 13)]) := ⟨_, rfl⟩
    rw [← hv]
    have HV := Lib.hid hv
    clear hv
    go_enter Try.func19, Try.ntmps19
    go_wp2_with fail
    have hr0 : Blk ((w.alloc (.cells (setRow zeroF) 24)).alloc (.cells (setRow zeroF) 24)) w.heap.size (setRow zeroF) 24 := (Blk.new w _ _).alloc _
    have hk0 : Keep Nb w ((w.alloc (.cells (setRow zeroF) 24)).alloc (.cells (setRow zeroF) 24)) := Keep.alloc (Keep.alloc (Keep.refl _ _) _) _
    refine (with_r (zeroF) 32 32 (by decide) (by decide) _).mono ?_
    rintro e w1 ⟨rfl, hkn⟩
    have hr1 := hr0.keep hkn id
    have hk1 := hk0.trans hkn (fun _ _ h => h)
    clear hkn
    simp only [setRow]
    go_wp2_with fail
    refine (with_r (withF (zeroF) 32 32) 9 13 (by decide) (by decide) _).mono ?_
    rintro e w2 ⟨rfl, hkn⟩
    have hr2 := hr1.keep hkn id
    have hk2 := hk1.trans hkn (fun _ _ h => h)
    clear hkn
    simp only [setRow]
    go_wp2_with (refine wpList_store_row rfl 24 (.tmp 2) (.tmp 44) rfl w.heap.size _ rfl rfl 24 _ hr2 sizeS2 rfl (by simp [Value.oneCell']) ?_)
    have hr9 : Blk (w2.setRow w.heap.size (setRow (withF (withF (zeroF) 32 32) 9 13))) w.heap.size (setRow (withF (withF (zeroF) 32 32) 9 13)) 24 := hr2.setRow _
    refine bodyPost_ret (results_ct Try.results19 _ _ w.heap.size 24 _ (0, 0) _ rfl hr9 Try.underlying24 rfl sizeS2) rfl ⟨by rw [HV.out]; rfl, Keep.setRow hk2 (Or.inl (Nat.le_refl _)) _⟩
  have m7 : (s.toList == [115, 112, 97, 99, 101]) = false := by simpa using e7
  have E7 := Lib.hid e7
  clear e7
  by_cases e8 : s.toList = [99, 110, 116, 114, 108]
  · have m8 : (s.toList == [99, 110, 116, 114, 108]) = true := by simpa using e8
    have E8 := Lib.hid e8
    clear e8
    have hcls : clsP s.toList = [(0, 31), (127, 127)] := by rw [clsP, if_neg E0.out, if_neg E1.out, if_neg E2.out, if_neg E3.out, if_neg E4.out, if_neg E5.out, if_neg E6.out, if_neg E7.out, if_pos E8.out]
    rw [hcls]
    clear hcls
    obtain ⟨v, hv⟩ : ∃ v, v = setRow (foldC zeroF [(0, 31), (127, 127)]) := ⟨_, rfl⟩
    rw [← hv]
    have HV := Lib.hid hv
    clear hv
    go_enter Try.func19, Try.ntmps19
    go_wp2_with fail
    have hr0 : Blk ((w.alloc (.cells (setRow zeroF) 24)).alloc (.cells (setRow zeroF) 24)) w.heap.size (setRow zeroF) 24 := (Blk.new w _ _).alloc _
    have hk0 : Keep Nb w ((w.alloc (.cells (setRow zeroF) 24)).alloc (.cells (setRow zeroF) 24)) := Keep.alloc (Keep.alloc (Keep.refl _ _) _) _
    refine (with_r (zeroF) 0 31 (by decide) (by decide) _).mono ?_
    rintro e w1 ⟨rfl, hkn⟩
    have hr1 := hr0.keep hkn id
    have hk1 := hk0.trans hkn (fun _ _ h => h)
    clear hkn
    simp only [setRow]
    go_wp2_with fail
    refine (with_r (withF (zeroF) 0 31) 127 127 (by decide) (by decide) _).mono ?_
    rintro e w2 ⟨rfl, hkn⟩
    have hr2 := hr1.keep hkn id
    have hk2 := hk1.trans hkn (fun _ _ h => h)
    clear hkn
    simp only [setRow]
    go_wp2_with (refine wpList_store_row rfl 24 (.tmp 2) (.tmp 49) rfl w.heap.size _ rfl rfl 24 _ hr2 sizeS2 rfl (by simp [Value.oneCell']) ?_)
    have hr9 : Blk (w2.setRow w.heap.size (setRow (withF (withF (zeroF) 0 31) 127 127))) w.heap.size (setRow (withF (withF (zeroF) 0 31) 127 127)) 24 := hr2.setRow _
    refine bodyPost_ret (results_ct Try.results19 _ _ w.heap.size 24 _ (0, 0) _ rfl hr9 Try.underlying24 rfl sizeS2) rfl ⟨by rw [HV.out]; rfl, Keep.setRow hk2 (Or.inl (Nat.le_refl _)) _⟩
  have m8 : (s.toList == [99, 110, 116, 114, 108]) = false := by simpa using e8
  have E8 := Lib.hid e8
  clear e8
  by_cases e9 : s.toList = [112, 114, 105, 110, 116]
  · have m9 : (s.toList == [112, 114, 105, 110, 116]) = true := by simpa using e9
    have E9 := Lib.hid e9
    clear e9
    have hcls : clsP s.toList = [(32, 126)] := by rw [clsP, if_neg E0.out, if_neg E1.out, if_neg E2.out, if_neg E3.out, if_neg E4.out, if_neg E5.out, if_neg E6.out, if_neg E7.out, if_neg E8.out, if_pos E9.out]
    rw [hcls]
    clear hcls
    obtain ⟨v, hv⟩ : ∃ v, v = setRow (foldC zeroF [(32, 126)]) := ⟨_, rfl⟩
    rw [← hv]
    have HV := Lib.hid hv
    clear hv
    go_enter Try.func19, Try.ntmps19
    go_wp2_with fail
    have hr0 : Blk ((w.alloc (.cells (setRow zeroF) 24)).alloc (.cells (setRow zeroF) 24)) w.heap.size (setRow zeroF) 24 := (Blk.new w _ _).alloc _
    have hk0 : Keep Nb w ((w.alloc (.cells (setRow zeroF) 24)).alloc (.cells (setRow zeroF) 24)) := Keep.alloc (Keep.alloc (Keep.refl _ _) _) _
    refine (with_r (zeroF) 32 126 (by decide) (by decide) _).mono ?_
    rintro e w1 ⟨rfl, hkn⟩
    have hr1 := hr0.keep hkn id
    have hk1 := hk0.trans hkn (fun _ _ h => h)
    clear hkn
    simp only [setRow]
    go_wp2_with (refine wpList_store_row rfl 24 (.tmp 2) (.tmp 53) rfl w.heap.size _ rfl rfl 24 _ hr1 sizeS2 rfl (by simp [Value.oneCell']) ?_)
    have hr9 : Blk (w1.setRow w.heap.size (setRow (withF (zeroF) 32 126))) w.heap.size (setRow (withF (zeroF) 32 126)) 24 := hr1.setRow _
    refine bodyPost_ret (results_ct Try.results19 _ _ w.heap.size 24 _ (0, 0) _ rfl hr9 Try.underlying24 rfl sizeS2) rfl ⟨by rw [HV.out]; rfl, Keep.setRow hk1 (Or.inl (Nat.le_refl _)) _⟩
  have m9 : (s.toList == [112, 114, 105, 110, 116]) = false := by simpa using e9
  have E9 := Lib.hid e9
  clear e9
  by_cases e10 : s.toList = [103, 114, 97, 112, 104]
  · have m10 : (s.toList == [103, 114, 97, 112, 104]) = true := by simpa using e10
    have E10 := Lib.hid e10
    clear e10
    have hcls : clsP s.toList = [(33, 126)] := by rw [clsP, if_neg E0.out, if_neg E1.out, if_neg E2.out, if_neg E3.out, if_neg E4.out, if_neg E5.out, if_neg E6.out, if_neg E7.out, if_neg E8.out, if_neg E9.out, if_pos E10.out]
    rw [hcls]
    clear hcls
    obtain ⟨v, hv⟩ : ∃ v, v = setRow (foldC zeroF [(33, 126)]) := ⟨_, rfl⟩
    rw [← hv]
    have HV := Lib.hid hv
    clear hv
    go_enter Try.func19, Try.ntmps19
    go_wp2_with fail
    have hr0 : Blk ((w.alloc (.cells (setRow zeroF) 24)).alloc (.cells (setRow zeroF) 24)) w.heap.size (setRow zeroF) 24 := (Blk.new w _ _).alloc _
    have hk0 : Keep Nb w ((w.alloc (.cells (setRow zeroF) 24)).alloc (.cells (setRow zeroF) 24)) := Keep.alloc (Keep.alloc (Keep.refl _ _) _) _
    refine (with_r (zeroF) 33 126 (by decide) (by decide) _).mono ?_
    rintro e w1 ⟨rfl, hkn⟩
    have hr1 := hr0.keep hkn id
    have hk1 := hk0.trans hkn (fun _ _ h => h)
    clear hkn
    simp only [setRow]
    go_wp2_with (refine wpList_store_row rfl 24 (.tmp 2) (.tmp 57) rfl w.heap.size _ rfl rfl 24 _ hr1 sizeS2 rfl (by simp [Value.oneCell']) ?_)
    have hr9 : Blk (w1.setRow w.heap.size (setRow (withF (zeroF) 33 126))) w.heap.size (setRow (withF (zeroF) 33 126)) 24 := hr1.setRow _
    refine bodyPost_ret (results_ct Try.results19 _ _ w.heap.size 24 _ (0, 0) _ rfl hr9 Try.underlying24 rfl sizeS2) rfl ⟨by rw [HV.out]; rfl, Keep.setRow hk1 (Or.inl (Nat.le_refl _)) _⟩
  have m10 : (s.toList == [103, 114, 97, 112, 104]) = false := by simpa using e10
  have E10 := Lib.hid e10
  clear e10
  by_cases e11 : s.toList = [112, 117, 110, 99, 116]
  · have m11 : (s.toList == [112, 117, 110, 99, 116]) = true := by simpa using e11
    have E11 := Lib.hid e11
    clear e11
    have hcls : clsP s.toList = [(33, 47), (58, 64), (91, 96), (123, 126)] := by rw [clsP, if_neg E0.out, if_neg E1.out, if_neg E2.out, if_neg E3.out, if_neg E4.out, if_neg E5.out, if_neg E6.out, if_neg E7.out, if_neg E8.out, if_neg E9.out, if_neg E10.out, if_pos E11.out]
    rw [hcls]
    clear hcls
    obtain ⟨v, hv⟩ : ∃ v, v = setRow (foldC zeroF [(33, 47), (58, 64), (91, 96), (123, 126)]) := ⟨_, rfl⟩
    rw [← hv]
    have HV := Lib.hid hv
    clear hv
    go_enter Try.func19, Try.ntmps19
    go_wp2_with fail
    have hr0 : Blk ((w.alloc (.cells (setRow zeroF) 24)).alloc (.cells (setRow zeroF) 24)) w.heap.size (setRow zeroF) 24 := (Blk.new w _ _).alloc _
    have hk0 : Keep Nb w ((w.alloc (.cells (setRow zeroF) 24)).alloc (.cells (setRow zeroF) 24)) := Keep.alloc (Keep.alloc (Keep.refl _ _) _) _
    refine (with_r (zeroF) 33 47 (by decide) (by decide) _).mono ?_
    rintro e w1 ⟨rfl, hkn⟩
    have hr1 := hr0.keep hkn id
    have hk1 := hk0.trans hkn (fun _ _ h => h)
    clear hkn
    simp only [setRow]
    go_wp2_with fail
    refine (with_r (withF (zeroF) 33 47) 58 64 (by decide) (by decide) _).mono ?_
    rintro e w2 ⟨rfl, hkn⟩
    have hr2 := hr1.keep hkn id
    have hk2 := hk1.trans hkn (fun _ _ h => h)
    clear hkn
    simp only [setRow]
    go_wp2_with fail
    refine (with_r (withF (withF (zeroF) 33 47) 58 64) 91 96 (by decide) (by decide) _).mono ?_
    rintro e w3 ⟨rfl, hkn⟩
    have hr3 := hr2.keep hkn id
    have hk3 := hk2.trans hkn (fun _ _ h => h)
    clear hkn
    simp only [setRow]
    go_wp2_with fail
    refine (with_r (withF (withF (withF (zeroF) 33 47) 58 64) 91 96) 123 126 (by decide) (by decide) _).mono ?_
    rintro e w4 ⟨rfl, hkn⟩
    have hr4 := hr3.keep hkn id
    have hk4 := hk3.trans hkn (fun _ _ h => h)
    clear hkn
    simp only [setRow]
    go_wp2_with (refine wpList_store_row rfl 24 (.tmp 2) (.tmp 64) rfl w.heap.size _ rfl rfl 24 _ hr4 sizeS2 rfl (by simp [Value.oneCell']) ?_)
    have hr9 : Blk (w4.setRow w.heap.size (setRow (withF (withF (withF (withF (zeroF) 33 47) 58 64) 91 96) 123 126))) w.heap.size (setRow (withF (withF (withF (withF (zeroF) 33 47) 58 64) 91 96) 123 126)) 24 := hr4.setRow _
    refine bodyPost_ret (results_ct Try.results19 _ _ w.heap.size 24 _ (0, 0) _ rfl hr9 Try.underlying24 rfl sizeS2) rfl ⟨by rw [HV.out]; rfl, Keep.setRow hk4 (Or.inl (Nat.le_refl _)) _⟩
  have m11 : (s.toList == [112, 117, 110, 99, 116]) = false := by simpa using e11
  have E11 := Lib.hid e11
  clear e11
  have hcls : clsP s.toList = [] := by rw [clsP, if_neg E0.out, if_neg E1.out, if_neg E2.out, if_neg E3.out, if_neg E4.out, if_neg E5.out, if_neg E6.out, if_neg E7.out, if_neg E8.out, if_neg E9.out, if_neg E10.out, if_neg E11.out]
  rw [hcls]
  clear hcls
  go_enter Try.func19, Try.ntmps19
  go_wp2_with fail
  have hr0 : Blk ((w.alloc (.cells (setRow zeroF) 24)).alloc (.cells (setRow zeroF) 24)) w.heap.size (setRow zeroF) 24 := (Blk.new w _ _).alloc _
  have hk0 : Keep Nb w ((w.alloc (.cells (setRow zeroF) 24)).alloc (.cells (setRow zeroF) 24)) := Keep.alloc (Keep.alloc (Keep.refl _ _) _) _
  refine bodyPost_ret (results_ct Try.results19 _ _ w.heap.size 24 _ (0, 0) _ rfl hr0 Try.underlying24 rfl sizeS2) rfl ⟨rfl, hk0⟩

end Go.Proofs.Ytfjipiibkmapkaa
