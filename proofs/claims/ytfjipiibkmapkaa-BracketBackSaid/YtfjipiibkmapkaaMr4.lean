/- The reference: a member of a bracket expression. -/
import Derived.Test.YtfjipiibkmapkaaMr3
namespace Go.Proofs.Ytfjipiibkmapkaa
set_option linter.unusedVariables false
set_option linter.unusedSimpArgs false
open Go.RowKit

set_option maxRecDepth 100000 in
set_option maxHeartbeats 4000000 in
theorem mr_none1 (s : ByteArray) (a : Nat) (ha : a ≤ s.size) (hz : s.size ≤ 1000000) (p1 : preB [91, 58] (s.toList.drop a) = false) (p2 : preB [91, 61] (s.toList.drop a) = false) (hw1 : s.size ≤ a + 1) (hS : singleF (s.toList.drop a) = none) (w : World) :
    Calls Try.prog 29 #[.string s, .int .i64 (a : Int)] w fun e w' => MemR (memberF (s.toList.drop a)) a e ∧ Keep Nb w w' := by
  have HMF := Lib.hid (show memberF (s.toList.drop a) = (match singleF (s.toList.drop a) with
    | none => none
    | some (x, n) => rangeF x n (s.toList.drop a)) by rw [memberF, if_neg (by rw [p1]; simp), if_neg (by rw [p2]; simp)]; rfl)
  have P1 := Lib.hid p1
  have P2 := Lib.hid p2
  have HC := Lib.hid (fun wx => single_r s a ha hz wx)
  have HD := Lib.hid (fun (q : Nat) (hq : q + 1 ≤ s.size) wx => single_r s (q + 1) hq hz wx)
  have HS := Lib.hid hS
  clear hS
  clear p1 p2
  obtain ⟨m, hm⟩ : ∃ m, s.size = a + m := ⟨s.size - a, by omega⟩
  have HM := Lib.hid hm
  have Hhsub := Lib.hid (show wrap64 ((s.size : Int) - (a : Int)) = (m : Int) by unfold wrap64; omega)
  have h0 : (0 : Int) ≤ (a : Int) := by omega
  have HW2 := Lib.hid (show wrap64 ((a : Int) + 2) = (a : Int) + 2 by unfold wrap64; omega)
  have HW5 := Lib.hid (show wrap64 ((a : Int) + 5) = (a : Int) + 5 by unfold wrap64; omega)
  have HW1 := Lib.hid (show wrap64 ((a : Int) + 1) = (a : Int) + 1 by unfold wrap64; omega)
  clear hm
  go_enter Try.func29, Try.ntmps29
  go_upto_region 2 with fail
  have hr0 : Blk ((w.alloc (.cells (setRow zeroF) 24)).alloc (.cells (setRow zeroF) 24)) w.heap.size (setRow zeroF) 24 := (Blk.new w _ _).alloc _
  have hn0 : Blk ((w.alloc (.cells (setRow zeroF) 24)).alloc (.cells (setRow zeroF) 24)) (w.heap.size + 1) (setRow zeroF) 24 := Blk.new' (by simp) _ _
  have hk0 : Keep Nb w ((w.alloc (.cells (setRow zeroF) 24)).alloc (.cells (setRow zeroF) 24)) := Keep.alloc (Keep.alloc (Keep.refl _ _) _) _
  simp only [setRow, zeroF] at hr0 hn0 hk0
  generalize ((w.alloc (.cells #[.int .u64 0, .int .u64 0, .int .u64 0, .int .u64 0] 24)).alloc (.cells #[.int .u64 0, .int .u64 0, .int .u64 0, .int .u64 0] 24)) = w0 at hr0 hn0 hk0 ⊢
  have s0 := hn0.lt
  have hne : w.heap.size ≠ w.heap.size + 1 := by omega
  have N1 := Lib.hid hne
  have z0 := hn0.cell 0 (u := .int .u64 0) rfl
  have z1 := hn0.cell 1 (u := .int .u64 0) rfl
  have z2 := hn0.cell 2 (u := .int .u64 0) rfl
  have z3 := hn0.cell 3 (u := .int .u64 0) rfl
  clear hne
  have t1 : decide ((2 : Int) ≤ (s.size : Int) - (a : Int)) = false := by simp; omega
  have t2 : decide (2 ≤ m) = false := by have := HM.out; simp; omega
  have t2i : decide ((2 : Int) ≤ (m : Int)) = false := by have := HM.out; simp; omega
  have hsub := Hhsub.out
  have W1 := HW1.out
  have W2 := HW2.out
  have W5 := HW5.out
  go_upto_region 14 with fail
  clear hsub W1 W2 W5 t1 t2 t2i
  have HC2 := HC.out
  rw [HS.out] at HC2
  simp only [singleV] at HC2
  have HC3 := Lib.hid HC2
  clear HC2
  go_wp2_with fail
  refine (HC3.out _).mono ?_
  rintro e w1 ⟨rfl, hkn⟩
  replace hr0 := hr0.keep hkn id
  replace hn0 := hn0.keep hkn id
  replace hk0 := hk0.trans hkn (fun _ _ h => h)
  clear hkn z0 z1 z2 z3
  have HR := hr0
  have HR9 := Lib.hid (hr0.setRow (setRow zeroF))
  have HK9 := Lib.hid (Keep.setRow hk0 (Or.inl (Nat.le_refl _)) (setRow zeroF))
  go_wp2_with (first | (refine wpList_store_row rfl 24 (.tmp 4) (.tmp 124) rfl w.heap.size _ rfl rfl 24 _ HR sizeS2 rfl (by simp [setRow, Value.oneCell']) ?_) | (refine wpList_load_row rfl 24 (.tmp 7) rfl (w.heap.size + 1) rfl 24 _ (0, 0) _ hn0 Try.underlying24 rfl sizeS2 ?_))
  refine bodyPost_ret (results_ctt Try.results29 _ _ w.heap.size 24 _ (0, 0) _ rfl HR9.out Try.underlying24 rfl sizeS2) rfl ⟨MemR.bad zeroF (by rw [HMF.out, HS.out]), HK9.out⟩

set_option maxRecDepth 100000 in
set_option maxHeartbeats 4000000 in
theorem mr_none2 (s : ByteArray) (a : Nat) (ha : a ≤ s.size) (hz : s.size ≤ 1000000) (p1 : preB [91, 58] (s.toList.drop a) = false) (p2 : preB [91, 61] (s.toList.drop a) = false) (hw1 : a + 2 ≤ s.size) (c0 : UInt8) (hc0 : s.toList[a]? = some c0) (hk91 : ¬ c0 = 91) (hS : singleF (s.toList.drop a) = none) (w : World) :
    Calls Try.prog 29 #[.string s, .int .i64 (a : Int)] w fun e w' => MemR (memberF (s.toList.drop a)) a e ∧ Keep Nb w w' := by
  have HMF := Lib.hid (show memberF (s.toList.drop a) = (match singleF (s.toList.drop a) with
    | none => none
    | some (x, n) => rangeF x n (s.toList.drop a)) by rw [memberF, if_neg (by rw [p1]; simp), if_neg (by rw [p2]; simp)]; rfl)
  have P1 := Lib.hid p1
  have P2 := Lib.hid p2
  have HC := Lib.hid (fun wx => single_r s a ha hz wx)
  have HD := Lib.hid (fun (q : Nat) (hq : q + 1 ≤ s.size) wx => single_r s (q + 1) hq hz wx)
  have HS := Lib.hid hS
  clear hS
  clear p1 p2
  obtain ⟨m, hm⟩ : ∃ m, s.size = a + m := ⟨s.size - a, by omega⟩
  have HM := Lib.hid hm
  have Hhsub := Lib.hid (show wrap64 ((s.size : Int) - (a : Int)) = (m : Int) by unfold wrap64; omega)
  have h0 : (0 : Int) ≤ (a : Int) := by omega
  have HW2 := Lib.hid (show wrap64 ((a : Int) + 2) = (a : Int) + 2 by unfold wrap64; omega)
  have HW5 := Lib.hid (show wrap64 ((a : Int) + 5) = (a : Int) + 5 by unfold wrap64; omega)
  have HW1 := Lib.hid (show wrap64 ((a : Int) + 1) = (a : Int) + 1 by unfold wrap64; omega)
  clear hm
  go_enter Try.func29, Try.ntmps29
  go_upto_region 2 with fail
  have hr0 : Blk ((w.alloc (.cells (setRow zeroF) 24)).alloc (.cells (setRow zeroF) 24)) w.heap.size (setRow zeroF) 24 := (Blk.new w _ _).alloc _
  have hn0 : Blk ((w.alloc (.cells (setRow zeroF) 24)).alloc (.cells (setRow zeroF) 24)) (w.heap.size + 1) (setRow zeroF) 24 := Blk.new' (by simp) _ _
  have hk0 : Keep Nb w ((w.alloc (.cells (setRow zeroF) 24)).alloc (.cells (setRow zeroF) 24)) := Keep.alloc (Keep.alloc (Keep.refl _ _) _) _
  simp only [setRow, zeroF] at hr0 hn0 hk0
  generalize ((w.alloc (.cells #[.int .u64 0, .int .u64 0, .int .u64 0, .int .u64 0] 24)).alloc (.cells #[.int .u64 0, .int .u64 0, .int .u64 0, .int .u64 0] 24)) = w0 at hr0 hn0 hk0 ⊢
  have s0 := hn0.lt
  have hne : w.heap.size ≠ w.heap.size + 1 := by omega
  have N1 := Lib.hid hne
  have z0 := hn0.cell 0 (u := .int .u64 0) rfl
  have z1 := hn0.cell 1 (u := .int .u64 0) rfl
  have z2 := hn0.cell 2 (u := .int .u64 0) rfl
  have z3 := hn0.cell 3 (u := .int .u64 0) rfl
  clear hne
  have t1 : decide ((2 : Int) ≤ (s.size : Int) - (a : Int)) = true := by simp; omega
  have t2 : decide (2 ≤ m) = true := by have := HM.out; simp; omega
  have t2i : decide ((2 : Int) ≤ (m : Int)) = true := by have := HM.out; simp; omega
  obtain ⟨b0, e0⟩ := byte_at hc0
  have m0 : ((c0.toNat : Int) == 91) = false := u8_ne (n := 91) (by omega) hk91
  have g1 : (a : Int) < (s.size : Int) := by omega
  clear hc0 hk91
  have hsub := Hhsub.out
  have W1 := HW1.out
  have W2 := HW2.out
  have W5 := HW5.out
  go_upto_region 14 with fail
  clear hsub W1 W2 W5 t1 t2 t2i b0 e0 m0 g1
  have HC2 := HC.out
  rw [HS.out] at HC2
  simp only [singleV] at HC2
  have HC3 := Lib.hid HC2
  clear HC2
  go_wp2_with fail
  refine (HC3.out _).mono ?_
  rintro e w1 ⟨rfl, hkn⟩
  replace hr0 := hr0.keep hkn id
  replace hn0 := hn0.keep hkn id
  replace hk0 := hk0.trans hkn (fun _ _ h => h)
  clear hkn z0 z1 z2 z3
  have HR := hr0
  have HR9 := Lib.hid (hr0.setRow (setRow zeroF))
  have HK9 := Lib.hid (Keep.setRow hk0 (Or.inl (Nat.le_refl _)) (setRow zeroF))
  go_wp2_with (first | (refine wpList_store_row rfl 24 (.tmp 4) (.tmp 124) rfl w.heap.size _ rfl rfl 24 _ HR sizeS2 rfl (by simp [setRow, Value.oneCell']) ?_) | (refine wpList_load_row rfl 24 (.tmp 7) rfl (w.heap.size + 1) rfl 24 _ (0, 0) _ hn0 Try.underlying24 rfl sizeS2 ?_))
  refine bodyPost_ret (results_ctt Try.results29 _ _ w.heap.size 24 _ (0, 0) _ rfl HR9.out Try.underlying24 rfl sizeS2) rfl ⟨MemR.bad zeroF (by rw [HMF.out, HS.out]), HK9.out⟩

set_option maxRecDepth 100000 in
set_option maxHeartbeats 4000000 in
theorem mr_none3 (s : ByteArray) (a : Nat) (ha : a ≤ s.size) (hz : s.size ≤ 1000000) (p1 : preB [91, 58] (s.toList.drop a) = false) (p2 : preB [91, 61] (s.toList.drop a) = false) (hw1 : a + 2 ≤ s.size) (hc0 : s.toList[a]? = some 91) (hS : singleF (s.toList.drop a) = none) (w : World) :
    Calls Try.prog 29 #[.string s, .int .i64 (a : Int)] w fun e w' => MemR (memberF (s.toList.drop a)) a e ∧ Keep Nb w w' := by
  have HMF := Lib.hid (show memberF (s.toList.drop a) = (match singleF (s.toList.drop a) with
    | none => none
    | some (x, n) => rangeF x n (s.toList.drop a)) by rw [memberF, if_neg (by rw [p1]; simp), if_neg (by rw [p2]; simp)]; rfl)
  have P1 := Lib.hid p1
  have P2 := Lib.hid p2
  have HC := Lib.hid (fun wx => single_r s a ha hz wx)
  have HD := Lib.hid (fun (q : Nat) (hq : q + 1 ≤ s.size) wx => single_r s (q + 1) hq hz wx)
  have HS := Lib.hid hS
  clear hS
  clear p1 p2
  obtain ⟨m, hm⟩ : ∃ m, s.size = a + m := ⟨s.size - a, by omega⟩
  have HM := Lib.hid hm
  have Hhsub := Lib.hid (show wrap64 ((s.size : Int) - (a : Int)) = (m : Int) by unfold wrap64; omega)
  have h0 : (0 : Int) ≤ (a : Int) := by omega
  have HW2 := Lib.hid (show wrap64 ((a : Int) + 2) = (a : Int) + 2 by unfold wrap64; omega)
  have HW5 := Lib.hid (show wrap64 ((a : Int) + 5) = (a : Int) + 5 by unfold wrap64; omega)
  have HW1 := Lib.hid (show wrap64 ((a : Int) + 1) = (a : Int) + 1 by unfold wrap64; omega)
  clear hm
  go_enter Try.func29, Try.ntmps29
  go_upto_region 2 with fail
  have hr0 : Blk ((w.alloc (.cells (setRow zeroF) 24)).alloc (.cells (setRow zeroF) 24)) w.heap.size (setRow zeroF) 24 := (Blk.new w _ _).alloc _
  have hn0 : Blk ((w.alloc (.cells (setRow zeroF) 24)).alloc (.cells (setRow zeroF) 24)) (w.heap.size + 1) (setRow zeroF) 24 := Blk.new' (by simp) _ _
  have hk0 : Keep Nb w ((w.alloc (.cells (setRow zeroF) 24)).alloc (.cells (setRow zeroF) 24)) := Keep.alloc (Keep.alloc (Keep.refl _ _) _) _
  simp only [setRow, zeroF] at hr0 hn0 hk0
  generalize ((w.alloc (.cells #[.int .u64 0, .int .u64 0, .int .u64 0, .int .u64 0] 24)).alloc (.cells #[.int .u64 0, .int .u64 0, .int .u64 0, .int .u64 0] 24)) = w0 at hr0 hn0 hk0 ⊢
  have s0 := hn0.lt
  have hne : w.heap.size ≠ w.heap.size + 1 := by omega
  have N1 := Lib.hid hne
  have z0 := hn0.cell 0 (u := .int .u64 0) rfl
  have z1 := hn0.cell 1 (u := .int .u64 0) rfl
  have z2 := hn0.cell 2 (u := .int .u64 0) rfl
  have z3 := hn0.cell 3 (u := .int .u64 0) rfl
  clear hne
  have t1 : decide ((2 : Int) ≤ (s.size : Int) - (a : Int)) = true := by simp; omega
  have t2 : decide (2 ≤ m) = true := by have := HM.out; simp; omega
  have t2i : decide ((2 : Int) ≤ (m : Int)) = true := by have := HM.out; simp; omega
  obtain ⟨b0, e0⟩ := byte_at hc0
  obtain ⟨c1, hc1⟩ : ∃ c, s.toList[a + 1]? = some c := ⟨_, List.getElem?_eq_getElem (by rw [toList_len]; omega)⟩
  obtain ⟨b1, e1⟩ := byte_at hc1
  have k61 : ¬ c1 = 61 := fun h => by
    have := P2.out
    rw [pre2_eq hc0 hc1, h] at this
    simp at this
  have k58 : ¬ c1 = 58 := fun h => by
    have := P1.out
    rw [pre2_eq hc0 hc1, h] at this
    simp at this
  have m61 : ((c1.toNat : Int) == 61) = false := u8_ne (n := 61) (by omega) k61
  have m58 : ((c1.toNat : Int) == 58) = false := u8_ne (n := 58) (by omega) k58
  have g1 : (a : Int) < (s.size : Int) := by omega
  have g2 : (a : Int) + 1 < (s.size : Int) := by omega
  have g3 : (0 : Int) ≤ (a : Int) + 1 := by omega
  clear hc0 hc1 k61 k58
  have hsub := Hhsub.out
  have W1 := HW1.out
  have W2 := HW2.out
  have W5 := HW5.out
  go_upto_region 14 with fail
  clear hsub W1 W2 W5 t1 t2 t2i b0 e0 b1 e1 m61 m58 g1 g2 g3
  have HC2 := HC.out
  rw [HS.out] at HC2
  simp only [singleV] at HC2
  have HC3 := Lib.hid HC2
  clear HC2
  go_wp2_with fail
  refine (HC3.out _).mono ?_
  rintro e w1 ⟨rfl, hkn⟩
  replace hr0 := hr0.keep hkn id
  replace hn0 := hn0.keep hkn id
  replace hk0 := hk0.trans hkn (fun _ _ h => h)
  clear hkn z0 z1 z2 z3
  have HR := hr0
  have HR9 := Lib.hid (hr0.setRow (setRow zeroF))
  have HK9 := Lib.hid (Keep.setRow hk0 (Or.inl (Nat.le_refl _)) (setRow zeroF))
  go_wp2_with (first | (refine wpList_store_row rfl 24 (.tmp 4) (.tmp 124) rfl w.heap.size _ rfl rfl 24 _ HR sizeS2 rfl (by simp [setRow, Value.oneCell']) ?_) | (refine wpList_load_row rfl 24 (.tmp 7) rfl (w.heap.size + 1) rfl 24 _ (0, 0) _ hn0 Try.underlying24 rfl sizeS2 ?_))
  refine bodyPost_ret (results_ctt Try.results29 _ _ w.heap.size 24 _ (0, 0) _ rfl HR9.out Try.underlying24 rfl sizeS2) rfl ⟨MemR.bad zeroF (by rw [HMF.out, HS.out]), HK9.out⟩

set_option maxRecDepth 100000 in
set_option maxHeartbeats 4000000 in
theorem mr_one1 (s : ByteArray) (a : Nat) (ha : a ≤ s.size) (hz : s.size ≤ 1000000) (p1 : preB [91, 58] (s.toList.drop a) = false) (p2 : preB [91, 61] (s.toList.drop a) = false) (hw1 : s.size ≤ a + 1) (x : UInt8) (n q : Nat) (hS : singleF (s.toList.drop a) = some (x, n)) (hq : q = a + n) (hR : rangeB s.toList q = false) (w : World) :
    Calls Try.prog 29 #[.string s, .int .i64 (a : Int)] w fun e w' => MemR (memberF (s.toList.drop a)) a e ∧ Keep Nb w w' := by
  have HMF := Lib.hid (show memberF (s.toList.drop a) = (match singleF (s.toList.drop a) with
    | none => none
    | some (x, n) => rangeF x n (s.toList.drop a)) by rw [memberF, if_neg (by rw [p1]; simp), if_neg (by rw [p2]; simp)]; rfl)
  have P1 := Lib.hid p1
  have P2 := Lib.hid p2
  have HC := Lib.hid (fun wx => single_r s a ha hz wx)
  have HD := Lib.hid (fun (q : Nat) (hq : q + 1 ≤ s.size) wx => single_r s (q + 1) hq hz wx)
  have HS := Lib.hid hS
  have HQL := Lib.hid (show q ≤ s.size by have hnl := singleF_len hS; rw [List.length_drop, toList_len] at hnl; omega)
  have HQ := Lib.hid hq
  have HMR := Lib.hid (show memberF (s.toList.drop a) = rangeF x n (s.toList.drop a) by rw [HMF.out, hS])
  have HR0 := Lib.hid hR
  clear hS hq hR
  clear p1 p2
  obtain ⟨m, hm⟩ : ∃ m, s.size = a + m := ⟨s.size - a, by omega⟩
  have HM := Lib.hid hm
  have Hhsub := Lib.hid (show wrap64 ((s.size : Int) - (a : Int)) = (m : Int) by unfold wrap64; omega)
  have h0 : (0 : Int) ≤ (a : Int) := by omega
  have HW2 := Lib.hid (show wrap64 ((a : Int) + 2) = (a : Int) + 2 by unfold wrap64; omega)
  have HW5 := Lib.hid (show wrap64 ((a : Int) + 5) = (a : Int) + 5 by unfold wrap64; omega)
  have HW1 := Lib.hid (show wrap64 ((a : Int) + 1) = (a : Int) + 1 by unfold wrap64; omega)
  clear hm
  go_enter Try.func29, Try.ntmps29
  go_upto_region 2 with fail
  have hr0 : Blk ((w.alloc (.cells (setRow zeroF) 24)).alloc (.cells (setRow zeroF) 24)) w.heap.size (setRow zeroF) 24 := (Blk.new w _ _).alloc _
  have hn0 : Blk ((w.alloc (.cells (setRow zeroF) 24)).alloc (.cells (setRow zeroF) 24)) (w.heap.size + 1) (setRow zeroF) 24 := Blk.new' (by simp) _ _
  have hk0 : Keep Nb w ((w.alloc (.cells (setRow zeroF) 24)).alloc (.cells (setRow zeroF) 24)) := Keep.alloc (Keep.alloc (Keep.refl _ _) _) _
  simp only [setRow, zeroF] at hr0 hn0 hk0
  generalize ((w.alloc (.cells #[.int .u64 0, .int .u64 0, .int .u64 0, .int .u64 0] 24)).alloc (.cells #[.int .u64 0, .int .u64 0, .int .u64 0, .int .u64 0] 24)) = w0 at hr0 hn0 hk0 ⊢
  have s0 := hn0.lt
  have hne : w.heap.size ≠ w.heap.size + 1 := by omega
  have N1 := Lib.hid hne
  have z0 := hn0.cell 0 (u := .int .u64 0) rfl
  have z1 := hn0.cell 1 (u := .int .u64 0) rfl
  have z2 := hn0.cell 2 (u := .int .u64 0) rfl
  have z3 := hn0.cell 3 (u := .int .u64 0) rfl
  clear hne
  have t1 : decide ((2 : Int) ≤ (s.size : Int) - (a : Int)) = false := by simp; omega
  have t2 : decide (2 ≤ m) = false := by have := HM.out; simp; omega
  have t2i : decide ((2 : Int) ≤ (m : Int)) = false := by have := HM.out; simp; omega
  have hsub := Hhsub.out
  have W1 := HW1.out
  have W2 := HW2.out
  have W5 := HW5.out
  go_upto_region 14 with fail
  clear hsub W1 W2 W5 t1 t2 t2i
  have HC2 := HC.out
  rw [HS.out] at HC2
  simp only [singleV] at HC2
  rw [← HQ.out] at HC2
  have HC3 := Lib.hid HC2
  obtain ⟨m2, hm2⟩ : ∃ m2, s.size = q + m2 := ⟨s.size - q, by have := HQL.out; omega⟩
  have HM2 := Lib.hid hm2
  have q0 : (0 : Int) ≤ (q : Int) := by omega
  clear HC2 hm2
  go_wp2_with fail
  refine (HC3.out _).mono ?_
  rintro e w1 ⟨rfl, hkn⟩
  replace hr0 := hr0.keep hkn id
  replace hn0 := hn0.keep hkn id
  replace hk0 := hk0.trans hkn (fun _ _ h => h)
  clear hkn z0 z1 z2 z3
  have z0 := hn0.cell 0 (u := .int .u64 0) rfl
  have z1 := hn0.cell 1 (u := .int .u64 0) rfl
  have z2 := hn0.cell 2 (u := .int .u64 0) rfl
  have z3 := hn0.cell 3 (u := .int .u64 0) rfl
  have HS2 := Lib.hid (show wrap64 ((s.size : Int) - (q : Int)) = (m2 : Int) by have := HM2.out; unfold wrap64; omega)
  go_upto_region 17 with fail
  go_cut [142] (fun c wx => c = .bool (!rangeB s.toList q) ∧ w1 = wx)
  case first =>
    have hm := HM2.out
    have HI4 := Lib.hid (show wrap64 ((q : Int) + 1) = (q : Int) + 1 by unfold wrap64; omega)
    by_cases h2 : m2 < 2
    · have t1 : decide ((s.size : Int) - (q : Int) < 2) = true := by simp; omega
      have t2 : decide (m2 < 2) = true := by simp; omega
      have t2i : decide ((m2 : Int) < 2) = true := by simp; omega
      have HB := Lib.hid (show (!rangeB s.toList q) = true by rw [rangeB, show decide (q + 1 < s.toList.length) = false by rw [toList_len]; simp; omega]; simp)
      clear h2 hm
      have i4 := HI4.out
      have hsub2 := HS2.out
      go_wp2_with fail
      go_meet
      exact ⟨by rw [HB.out], rfl⟩

    have t1 : decide ((s.size : Int) - (q : Int) < 2) = false := by simp; omega
    have t2 : decide (m2 < 2) = false := by simp; omega
    have t2i : decide ((m2 : Int) < 2) = false := by simp; omega
    obtain ⟨c0, hc0⟩ : ∃ c, s.toList[q]? = some c := ⟨_, List.getElem?_eq_getElem (by rw [toList_len]; omega)⟩
    obtain ⟨c1, hc1⟩ : ∃ c, s.toList[q + 1]? = some c := ⟨_, List.getElem?_eq_getElem (by rw [toList_len]; omega)⟩
    obtain ⟨b0, e0⟩ := byte_at hc0
    obtain ⟨b1, e1⟩ := byte_at hc1
    have i1 : (q : Int) < (s.size : Int) := by omega
    have i2 : (q : Int) + 1 < (s.size : Int) := by omega
    have i3 : (0 : Int) ≤ (q : Int) + 1 := by omega
    have hB : rangeB s.toList q = (decide (c0 = 45) && !(decide (c0 = 45) && decide (c1 = 93))) := by
      rw [rangeB, pre1_eq hc0, pre2_eq hc0 hc1, show decide (q + 1 < s.toList.length) = true by rw [toList_len]; simp; omega]; simp
    by_cases km0 : c0 = 45
    · have m0 : ((c0.toNat : Int) == 45) = true := by rw [km0]; rfl
      have m0' : ((c0.toNat : Int) != 45) = false := by rw [km0]; rfl
      by_cases km1 : c1 = 93
      · have m1 : ((c1.toNat : Int) == 93) = true := by rw [km1]; rfl
        have m1' : ((c1.toNat : Int) != 93) = false := by rw [km1]; rfl
        have HB := Lib.hid (show (!rangeB s.toList q) = true by rw [hB, km0, km1]; rfl)
        clear hB hc0 hc1 km0 km1 h2 hm
        have i4 := HI4.out
        have hsub2 := HS2.out
        go_wp2_with fail
        go_meet
        exact ⟨by rw [HB.out], rfl⟩

      · have m1 : ((c1.toNat : Int) == 93) = false := u8_ne (n := 93) (by omega) km1
        have m1' : ((c1.toNat : Int) != 93) = true := by rw [bne, m1]; rfl
        have HB := Lib.hid (show (!rangeB s.toList q) = false by rw [hB, km0]; simp [km1])
        clear hB hc0 hc1 km0 km1 h2 hm
        have i4 := HI4.out
        have hsub2 := HS2.out
        go_wp2_with fail
        go_meet
        exact ⟨by rw [HB.out], rfl⟩

    · have m0 : ((c0.toNat : Int) == 45) = false := u8_ne (n := 45) (by omega) km0
      have m0' : ((c0.toNat : Int) != 45) = true := by rw [bne, m0]; rfl
      have HB := Lib.hid (show (!rangeB s.toList q) = true by rw [hB]; simp [km0])
      clear hB hc0 hc1 km0 h2 hm
      have i4 := HI4.out
      have hsub2 := HS2.out
      go_wp2_with fail
      go_meet
      exact ⟨by rw [HB.out], rfl⟩

  case rest =>
  obtain ⟨rfl, rfl⟩ := hcut
  have HV := Lib.hid (range_one (x := x) HQ.out HR0.out)
  rw [HR0.out]
  simp only [Bool.not_false]
  go_wp2_with fail
  refine (with_r zeroF x.toNat x.toNat (UInt8.toNat_lt x) (UInt8.toNat_lt x) _).mono ?_
  rintro e w9 ⟨rfl, hkn⟩
  have hr9 := hr0.keep hkn id
  have hk9 := hk0.trans hkn (fun _ _ h => h)
  clear hkn
  have HR := hr9
  have HR9 := Lib.hid (hr9.setRow (setRow (withF zeroF x.toNat x.toNat)))
  have HK9 := Lib.hid (Keep.setRow hk9 (Or.inl (Nat.le_refl _)) (setRow (withF zeroF x.toNat x.toNat)))
  simp only [setRow]
  go_wp2_with (refine wpList_store_row rfl 24 (.tmp 4) (.tmp 146) rfl w.heap.size _ rfl rfl 24 _ HR sizeS2 rfl (by simp [setRow, Value.oneCell']) ?_)
  refine bodyPost_ret (results_ctt Try.results29 _ _ w.heap.size 24 _ (0, 0) _ rfl HR9.out Try.underlying24 rfl sizeS2) rfl ⟨MemR.ok' (t := withF zeroF x.toNat x.toNat) (k := n) (by rw [HMR.out, HV.out]) (by rw [HQ.out]), HK9.out⟩

set_option maxRecDepth 100000 in
set_option maxHeartbeats 4000000 in
theorem mr_rnone2 (s : ByteArray) (a : Nat) (ha : a ≤ s.size) (hz : s.size ≤ 1000000) (p1 : preB [91, 58] (s.toList.drop a) = false) (p2 : preB [91, 61] (s.toList.drop a) = false) (hw1 : a + 2 ≤ s.size) (c0 : UInt8) (hc0 : s.toList[a]? = some c0) (hk91 : ¬ c0 = 91) (x : UInt8) (n q : Nat) (hS : singleF (s.toList.drop a) = some (x, n)) (hq : q = a + n) (hR : rangeB s.toList q = true) (hT : singleF (s.toList.drop (q + 1)) = none) (w : World) :
    Calls Try.prog 29 #[.string s, .int .i64 (a : Int)] w fun e w' => MemR (memberF (s.toList.drop a)) a e ∧ Keep Nb w w' := by
  have HMF := Lib.hid (show memberF (s.toList.drop a) = (match singleF (s.toList.drop a) with
    | none => none
    | some (x, n) => rangeF x n (s.toList.drop a)) by rw [memberF, if_neg (by rw [p1]; simp), if_neg (by rw [p2]; simp)]; rfl)
  have P1 := Lib.hid p1
  have P2 := Lib.hid p2
  have HC := Lib.hid (fun wx => single_r s a ha hz wx)
  have HD := Lib.hid (fun (q : Nat) (hq : q + 1 ≤ s.size) wx => single_r s (q + 1) hq hz wx)
  have HV := Lib.hid (range_none (x := x) hq hR hT)
  have HT := Lib.hid hT
  clear hT
  have HS := Lib.hid hS
  have HQL := Lib.hid (show q ≤ s.size by have hnl := singleF_len hS; rw [List.length_drop, toList_len] at hnl; omega)
  have HQ := Lib.hid hq
  have HMR := Lib.hid (show memberF (s.toList.drop a) = rangeF x n (s.toList.drop a) by rw [HMF.out, hS])
  have HR0 := Lib.hid hR
  clear hS hq hR
  clear p1 p2
  obtain ⟨m, hm⟩ : ∃ m, s.size = a + m := ⟨s.size - a, by omega⟩
  have HM := Lib.hid hm
  have Hhsub := Lib.hid (show wrap64 ((s.size : Int) - (a : Int)) = (m : Int) by unfold wrap64; omega)
  have h0 : (0 : Int) ≤ (a : Int) := by omega
  have HW2 := Lib.hid (show wrap64 ((a : Int) + 2) = (a : Int) + 2 by unfold wrap64; omega)
  have HW5 := Lib.hid (show wrap64 ((a : Int) + 5) = (a : Int) + 5 by unfold wrap64; omega)
  have HW1 := Lib.hid (show wrap64 ((a : Int) + 1) = (a : Int) + 1 by unfold wrap64; omega)
  clear hm
  go_enter Try.func29, Try.ntmps29
  go_upto_region 2 with fail
  have hr0 : Blk ((w.alloc (.cells (setRow zeroF) 24)).alloc (.cells (setRow zeroF) 24)) w.heap.size (setRow zeroF) 24 := (Blk.new w _ _).alloc _
  have hn0 : Blk ((w.alloc (.cells (setRow zeroF) 24)).alloc (.cells (setRow zeroF) 24)) (w.heap.size + 1) (setRow zeroF) 24 := Blk.new' (by simp) _ _
  have hk0 : Keep Nb w ((w.alloc (.cells (setRow zeroF) 24)).alloc (.cells (setRow zeroF) 24)) := Keep.alloc (Keep.alloc (Keep.refl _ _) _) _
  simp only [setRow, zeroF] at hr0 hn0 hk0
  generalize ((w.alloc (.cells #[.int .u64 0, .int .u64 0, .int .u64 0, .int .u64 0] 24)).alloc (.cells #[.int .u64 0, .int .u64 0, .int .u64 0, .int .u64 0] 24)) = w0 at hr0 hn0 hk0 ⊢
  have s0 := hn0.lt
  have hne : w.heap.size ≠ w.heap.size + 1 := by omega
  have N1 := Lib.hid hne
  have z0 := hn0.cell 0 (u := .int .u64 0) rfl
  have z1 := hn0.cell 1 (u := .int .u64 0) rfl
  have z2 := hn0.cell 2 (u := .int .u64 0) rfl
  have z3 := hn0.cell 3 (u := .int .u64 0) rfl
  clear hne
  have t1 : decide ((2 : Int) ≤ (s.size : Int) - (a : Int)) = true := by simp; omega
  have t2 : decide (2 ≤ m) = true := by have := HM.out; simp; omega
  have t2i : decide ((2 : Int) ≤ (m : Int)) = true := by have := HM.out; simp; omega
  obtain ⟨b0, e0⟩ := byte_at hc0
  have m0 : ((c0.toNat : Int) == 91) = false := u8_ne (n := 91) (by omega) hk91
  have g1 : (a : Int) < (s.size : Int) := by omega
  clear hc0 hk91
  have hsub := Hhsub.out
  have W1 := HW1.out
  have W2 := HW2.out
  have W5 := HW5.out
  go_upto_region 14 with fail
  clear hsub W1 W2 W5 t1 t2 t2i b0 e0 m0 g1
  have HC2 := HC.out
  rw [HS.out] at HC2
  simp only [singleV] at HC2
  rw [← HQ.out] at HC2
  have HC3 := Lib.hid HC2
  obtain ⟨m2, hm2⟩ : ∃ m2, s.size = q + m2 := ⟨s.size - q, by have := HQL.out; omega⟩
  have HM2 := Lib.hid hm2
  have q0 : (0 : Int) ≤ (q : Int) := by omega
  clear HC2 hm2
  go_wp2_with fail
  refine (HC3.out _).mono ?_
  rintro e w1 ⟨rfl, hkn⟩
  replace hr0 := hr0.keep hkn id
  replace hn0 := hn0.keep hkn id
  replace hk0 := hk0.trans hkn (fun _ _ h => h)
  clear hkn z0 z1 z2 z3
  have z0 := hn0.cell 0 (u := .int .u64 0) rfl
  have z1 := hn0.cell 1 (u := .int .u64 0) rfl
  have z2 := hn0.cell 2 (u := .int .u64 0) rfl
  have z3 := hn0.cell 3 (u := .int .u64 0) rfl
  have hg := range_get HR0.out
  have hgl := hg.2
  rw [toList_len] at hgl
  have hm := HM2.out
  have Q1 := Lib.hid hgl
  have s1 : decide ((s.size : Int) - (q : Int) < 2) = false := by simp; omega
  have s2 : decide (m2 < 2) = false := by simp; omega
  have s3 : decide ((m2 : Int) < 2) = false := by simp; omega
  obtain ⟨c1, hc1⟩ : ∃ c, s.toList[q + 1]? = some c := ⟨_, List.getElem?_eq_getElem (by rw [toList_len]; omega)⟩
  have h45 := hg.1
  obtain ⟨b0, e0⟩ := byte_at h45
  obtain ⟨b1, e1⟩ := byte_at hc1
  have i1 : (q : Int) < (s.size : Int) := by omega
  have i2 : (q : Int) + 1 < (s.size : Int) := by omega
  have i3 : (0 : Int) ≤ (q : Int) + 1 := by omega
  have k93 : ¬ c1 = 93 := fun h => by
    have hr := HR0.out
    rw [rangeB, pre2_eq h45 hc1, h] at hr
    simp at hr
  have m93 : ((c1.toNat : Int) == 93) = false := u8_ne (n := 93) (by omega) k93
  have HV1 := Lib.hid (show wrap64 ((q : Int) + 1) = (q : Int) + 1 by unfold wrap64; omega)
  have HS2 := Lib.hid (show wrap64 ((s.size : Int) - (q : Int)) = (m2 : Int) by unfold wrap64; omega)
  clear hg hgl hm hc1 k93 h45
  have HD2 := HD.out q (Nat.le_of_lt Q1.out)
  rw [HT.out] at HD2
  simp only [singleV, show ((q + 1 : Nat) : Int) = (q : Int) + 1 from rfl] at HD2
  have HD3 := Lib.hid HD2
  clear HD2
  have V1 := HV1.out
  have hsub2 := HS2.out
  go_wp2_with fail
  refine (HD3.out _).mono ?_
  rintro e w2 ⟨rfl, hkn⟩
  clear V1 hsub2
  replace hr0 := hr0.keep hkn id
  replace hn0 := hn0.keep hkn id
  replace hk0 := hk0.trans hkn (fun _ _ h => h)
  clear hkn z0 z1 z2 z3
  clear s1 s2 s3 b0 e0 b1 e1 i1 i2 i3 m93
  have HR := hr0
  have HR9 := Lib.hid (hr0.setRow (setRow zeroF))
  have HK9 := Lib.hid (Keep.setRow hk0 (Or.inl (Nat.le_refl _)) (setRow zeroF))
  go_wp2_with (first | (refine wpList_store_row rfl 24 (.tmp 4) (.tmp 211) rfl w.heap.size _ rfl rfl 24 _ HR sizeS2 rfl (by simp [setRow, Value.oneCell']) ?_) | (refine wpList_load_row rfl 24 (.tmp 7) rfl (w.heap.size + 1) rfl 24 _ (0, 0) _ hn0 Try.underlying24 rfl sizeS2 ?_))
  refine bodyPost_ret (results_ctt Try.results29 _ _ w.heap.size 24 _ (0, 0) _ rfl HR9.out Try.underlying24 rfl sizeS2) rfl ⟨MemR.bad zeroF (by rw [HMR.out, HV.out]), HK9.out⟩

set_option maxRecDepth 100000 in
set_option maxHeartbeats 4000000 in
theorem mr_rnone3 (s : ByteArray) (a : Nat) (ha : a ≤ s.size) (hz : s.size ≤ 1000000) (p1 : preB [91, 58] (s.toList.drop a) = false) (p2 : preB [91, 61] (s.toList.drop a) = false) (hw1 : a + 2 ≤ s.size) (hc0 : s.toList[a]? = some 91) (x : UInt8) (n q : Nat) (hS : singleF (s.toList.drop a) = some (x, n)) (hq : q = a + n) (hR : rangeB s.toList q = true) (hT : singleF (s.toList.drop (q + 1)) = none) (w : World) :
    Calls Try.prog 29 #[.string s, .int .i64 (a : Int)] w fun e w' => MemR (memberF (s.toList.drop a)) a e ∧ Keep Nb w w' := by
  have HMF := Lib.hid (show memberF (s.toList.drop a) = (match singleF (s.toList.drop a) with
    | none => none
    | some (x, n) => rangeF x n (s.toList.drop a)) by rw [memberF, if_neg (by rw [p1]; simp), if_neg (by rw [p2]; simp)]; rfl)
  have P1 := Lib.hid p1
  have P2 := Lib.hid p2
  have HC := Lib.hid (fun wx => single_r s a ha hz wx)
  have HD := Lib.hid (fun (q : Nat) (hq : q + 1 ≤ s.size) wx => single_r s (q + 1) hq hz wx)
  have HV := Lib.hid (range_none (x := x) hq hR hT)
  have HT := Lib.hid hT
  clear hT
  have HS := Lib.hid hS
  have HQL := Lib.hid (show q ≤ s.size by have hnl := singleF_len hS; rw [List.length_drop, toList_len] at hnl; omega)
  have HQ := Lib.hid hq
  have HMR := Lib.hid (show memberF (s.toList.drop a) = rangeF x n (s.toList.drop a) by rw [HMF.out, hS])
  have HR0 := Lib.hid hR
  clear hS hq hR
  clear p1 p2
  obtain ⟨m, hm⟩ : ∃ m, s.size = a + m := ⟨s.size - a, by omega⟩
  have HM := Lib.hid hm
  have Hhsub := Lib.hid (show wrap64 ((s.size : Int) - (a : Int)) = (m : Int) by unfold wrap64; omega)
  have h0 : (0 : Int) ≤ (a : Int) := by omega
  have HW2 := Lib.hid (show wrap64 ((a : Int) + 2) = (a : Int) + 2 by unfold wrap64; omega)
  have HW5 := Lib.hid (show wrap64 ((a : Int) + 5) = (a : Int) + 5 by unfold wrap64; omega)
  have HW1 := Lib.hid (show wrap64 ((a : Int) + 1) = (a : Int) + 1 by unfold wrap64; omega)
  clear hm
  go_enter Try.func29, Try.ntmps29
  go_upto_region 2 with fail
  have hr0 : Blk ((w.alloc (.cells (setRow zeroF) 24)).alloc (.cells (setRow zeroF) 24)) w.heap.size (setRow zeroF) 24 := (Blk.new w _ _).alloc _
  have hn0 : Blk ((w.alloc (.cells (setRow zeroF) 24)).alloc (.cells (setRow zeroF) 24)) (w.heap.size + 1) (setRow zeroF) 24 := Blk.new' (by simp) _ _
  have hk0 : Keep Nb w ((w.alloc (.cells (setRow zeroF) 24)).alloc (.cells (setRow zeroF) 24)) := Keep.alloc (Keep.alloc (Keep.refl _ _) _) _
  simp only [setRow, zeroF] at hr0 hn0 hk0
  generalize ((w.alloc (.cells #[.int .u64 0, .int .u64 0, .int .u64 0, .int .u64 0] 24)).alloc (.cells #[.int .u64 0, .int .u64 0, .int .u64 0, .int .u64 0] 24)) = w0 at hr0 hn0 hk0 ⊢
  have s0 := hn0.lt
  have hne : w.heap.size ≠ w.heap.size + 1 := by omega
  have N1 := Lib.hid hne
  have z0 := hn0.cell 0 (u := .int .u64 0) rfl
  have z1 := hn0.cell 1 (u := .int .u64 0) rfl
  have z2 := hn0.cell 2 (u := .int .u64 0) rfl
  have z3 := hn0.cell 3 (u := .int .u64 0) rfl
  clear hne
  have t1 : decide ((2 : Int) ≤ (s.size : Int) - (a : Int)) = true := by simp; omega
  have t2 : decide (2 ≤ m) = true := by have := HM.out; simp; omega
  have t2i : decide ((2 : Int) ≤ (m : Int)) = true := by have := HM.out; simp; omega
  obtain ⟨b0, e0⟩ := byte_at hc0
  obtain ⟨c1, hc1⟩ : ∃ c, s.toList[a + 1]? = some c := ⟨_, List.getElem?_eq_getElem (by rw [toList_len]; omega)⟩
  obtain ⟨b1, e1⟩ := byte_at hc1
  have k61 : ¬ c1 = 61 := fun h => by
    have := P2.out
    rw [pre2_eq hc0 hc1, h] at this
    simp at this
  have k58 : ¬ c1 = 58 := fun h => by
    have := P1.out
    rw [pre2_eq hc0 hc1, h] at this
    simp at this
  have m61 : ((c1.toNat : Int) == 61) = false := u8_ne (n := 61) (by omega) k61
  have m58 : ((c1.toNat : Int) == 58) = false := u8_ne (n := 58) (by omega) k58
  have g1 : (a : Int) < (s.size : Int) := by omega
  have g2 : (a : Int) + 1 < (s.size : Int) := by omega
  have g3 : (0 : Int) ≤ (a : Int) + 1 := by omega
  clear hc0 hc1 k61 k58
  have hsub := Hhsub.out
  have W1 := HW1.out
  have W2 := HW2.out
  have W5 := HW5.out
  go_upto_region 14 with fail
  clear hsub W1 W2 W5 t1 t2 t2i b0 e0 b1 e1 m61 m58 g1 g2 g3
  have HC2 := HC.out
  rw [HS.out] at HC2
  simp only [singleV] at HC2
  rw [← HQ.out] at HC2
  have HC3 := Lib.hid HC2
  obtain ⟨m2, hm2⟩ : ∃ m2, s.size = q + m2 := ⟨s.size - q, by have := HQL.out; omega⟩
  have HM2 := Lib.hid hm2
  have q0 : (0 : Int) ≤ (q : Int) := by omega
  clear HC2 hm2
  go_wp2_with fail
  refine (HC3.out _).mono ?_
  rintro e w1 ⟨rfl, hkn⟩
  replace hr0 := hr0.keep hkn id
  replace hn0 := hn0.keep hkn id
  replace hk0 := hk0.trans hkn (fun _ _ h => h)
  clear hkn z0 z1 z2 z3
  have z0 := hn0.cell 0 (u := .int .u64 0) rfl
  have z1 := hn0.cell 1 (u := .int .u64 0) rfl
  have z2 := hn0.cell 2 (u := .int .u64 0) rfl
  have z3 := hn0.cell 3 (u := .int .u64 0) rfl
  have hg := range_get HR0.out
  have hgl := hg.2
  rw [toList_len] at hgl
  have hm := HM2.out
  have Q1 := Lib.hid hgl
  have s1 : decide ((s.size : Int) - (q : Int) < 2) = false := by simp; omega
  have s2 : decide (m2 < 2) = false := by simp; omega
  have s3 : decide ((m2 : Int) < 2) = false := by simp; omega
  obtain ⟨c1, hc1⟩ : ∃ c, s.toList[q + 1]? = some c := ⟨_, List.getElem?_eq_getElem (by rw [toList_len]; omega)⟩
  have h45 := hg.1
  obtain ⟨b0, e0⟩ := byte_at h45
  obtain ⟨b1, e1⟩ := byte_at hc1
  have i1 : (q : Int) < (s.size : Int) := by omega
  have i2 : (q : Int) + 1 < (s.size : Int) := by omega
  have i3 : (0 : Int) ≤ (q : Int) + 1 := by omega
  have k93 : ¬ c1 = 93 := fun h => by
    have hr := HR0.out
    rw [rangeB, pre2_eq h45 hc1, h] at hr
    simp at hr
  have m93 : ((c1.toNat : Int) == 93) = false := u8_ne (n := 93) (by omega) k93
  have HV1 := Lib.hid (show wrap64 ((q : Int) + 1) = (q : Int) + 1 by unfold wrap64; omega)
  have HS2 := Lib.hid (show wrap64 ((s.size : Int) - (q : Int)) = (m2 : Int) by unfold wrap64; omega)
  clear hg hgl hm hc1 k93 h45
  have HD2 := HD.out q (Nat.le_of_lt Q1.out)
  rw [HT.out] at HD2
  simp only [singleV, show ((q + 1 : Nat) : Int) = (q : Int) + 1 from rfl] at HD2
  have HD3 := Lib.hid HD2
  clear HD2
  have V1 := HV1.out
  have hsub2 := HS2.out
  go_wp2_with fail
  refine (HD3.out _).mono ?_
  rintro e w2 ⟨rfl, hkn⟩
  clear V1 hsub2
  replace hr0 := hr0.keep hkn id
  replace hn0 := hn0.keep hkn id
  replace hk0 := hk0.trans hkn (fun _ _ h => h)
  clear hkn z0 z1 z2 z3
  clear s1 s2 s3 b0 e0 b1 e1 i1 i2 i3 m93
  have HR := hr0
  have HR9 := Lib.hid (hr0.setRow (setRow zeroF))
  have HK9 := Lib.hid (Keep.setRow hk0 (Or.inl (Nat.le_refl _)) (setRow zeroF))
  go_wp2_with (first | (refine wpList_store_row rfl 24 (.tmp 4) (.tmp 211) rfl w.heap.size _ rfl rfl 24 _ HR sizeS2 rfl (by simp [setRow, Value.oneCell']) ?_) | (refine wpList_load_row rfl 24 (.tmp 7) rfl (w.heap.size + 1) rfl 24 _ (0, 0) _ hn0 Try.underlying24 rfl sizeS2 ?_))
  refine bodyPost_ret (results_ctt Try.results29 _ _ w.heap.size 24 _ (0, 0) _ rfl HR9.out Try.underlying24 rfl sizeS2) rfl ⟨MemR.bad zeroF (by rw [HMR.out, HV.out]), HK9.out⟩

end Go.Proofs.Ytfjipiibkmapkaa
