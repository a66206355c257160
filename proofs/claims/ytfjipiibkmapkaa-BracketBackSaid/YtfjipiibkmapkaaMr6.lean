/- The reference: a member of a bracket expression. -/
import Derived.Test.YtfjipiibkmapkaaMr3
namespace Go.Proofs.Ytfjipiibkmapkaa
set_option linter.unusedVariables false
set_option linter.unusedSimpArgs false
open Go.RowKit

set_option maxRecDepth 100000 in
set_option maxHeartbeats 4000000 in
theorem mr_rngB2 (s : ByteArray) (a : Nat) (ha : a ≤ s.size) (hz : s.size ≤ 1000000) (p1 : preB [91, 58] (s.toList.drop a) = false) (p2 : preB [91, 61] (s.toList.drop a) = false) (hw1 : a + 2 ≤ s.size) (c0 : UInt8) (hc0 : s.toList[a]? = some c0) (hk91 : ¬ c0 = 91) (x : UInt8) (n q : Nat) (hS : singleF (s.toList.drop a) = some (x, n)) (hq : q = a + n) (hR : rangeB s.toList q = true) (y : UInt8) (k r : Nat) (hT : singleF (s.toList.drop (q + 1)) = some (y, k)) (hr : r = q + 1 + k) (hw : q + 3 ≤ s.size ∧ s.toList[q + 1]? = some 91) (w : World) :
    Calls Try.prog 29 #[.string s, .int .i64 (a : Int)] w fun e w' => MemR (memberF (s.toList.drop a)) a e ∧ Keep Nb w w' := by
  have HMF := Lib.hid (show memberF (s.toList.drop a) = (match singleF (s.toList.drop a) with
    | none => none
    | some (x, n) => rangeF x n (s.toList.drop a)) by rw [memberF, if_neg (by rw [p1]; simp), if_neg (by rw [p2]; simp)]; rfl)
  have P1 := Lib.hid p1
  have P2 := Lib.hid p2
  have HC := Lib.hid (fun wx => single_r s a ha hz wx)
  have HD := Lib.hid (fun (q : Nat) (hq : q + 1 ≤ s.size) wx => single_r s (q + 1) hq hz wx)
  have HBAD := Lib.hid (fun h => range_bad (x := x) hq hR hT h)
  have HOK := Lib.hid (fun h => range_ok (x := x) hq hR hT h)
  rw [← hr] at HBAD HOK
  have HRL := Lib.hid (show r ≤ s.size by have hnl := singleF_len hT; rw [List.length_drop, toList_len] at hnl; omega)
  have HT := Lib.hid hT
  have HRR := Lib.hid hr
  have HWAY := Lib.hid hw
  clear hT hr hw
  have HS := Lib.hid hS
  have HQL := Lib.hid (show q ≤ s.size by have hnl := singleF_len hS; rw [List.length_drop, toList_len] at hnl; omega)
  have HQ := Lib.hid hq
  have HMR := Lib.hid (show memberF (s.toList.drop a) = rangeF x n (s.toList.drop a) by rw [HMF.out, hS])
  have HR0 := Lib.hid hR
  clear hS hq hR
  clear p1 p2
  obtain ⟨m, hm⟩ : ∃ m, s.size = a + m := ⟨s.size - a, by omega⟩
  have HM := Lib.hid hm
  have Hhsub := Lib.hid (show wrap64 ((s.size : Int) - (a : Int)) = (m : Int) by unfold wrap64; omega)
  have h0 : (0 : Int) ≤ (a : Int) := by omega
  have HW2 := Lib.hid (show wrap64 ((a : Int) + 2) = (a : Int) + 2 by unfold wrap64; omega)
  have HW5 := Lib.hid (show wrap64 ((a : Int) + 5) = (a : Int) + 5 by unfold wrap64; omega)
  have HW1 := Lib.hid (show wrap64 ((a : Int) + 1) = (a : Int) + 1 by unfold wrap64; omega)
  clear hm
  go_enter Try.func29, Try.ntmps29
  go_upto_region 2 with fail
  have hr0 : Blk ((w.alloc (.cells (setRow zeroF) 24)).alloc (.cells (setRow zeroF) 24)) w.heap.size (setRow zeroF) 24 := (Blk.new w _ _).alloc _
  have hn0 : Blk ((w.alloc (.cells (setRow zeroF) 24)).alloc (.cells (setRow zeroF) 24)) (w.heap.size + 1) (setRow zeroF) 24 := Blk.new' (by simp) _ _
  have hk0 : Keep Nb w ((w.alloc (.cells (setRow zeroF) 24)).alloc (.cells (setRow zeroF) 24)) := Keep.alloc (Keep.alloc (Keep.refl _ _) _) _
  simp only [setRow, zeroF] at hr0 hn0 hk0
  generalize ((w.alloc (.cells #[.int .u64 0, .int .u64 0, .int .u64 0, .int .u64 0] 24)).alloc (.cells #[.int .u64 0, .int .u64 0, .int .u64 0, .int .u64 0] 24)) = w0 at hr0 hn0 hk0 ⊢
  have s0 := hn0.lt
  have hne : w.heap.size ≠ w.heap.size + 1 := by omega
  have N1 := Lib.hid hne
  have z0 := hn0.cell 0 (u := .int .u64 0) rfl
  have z1 := hn0.cell 1 (u := .int .u64 0) rfl
  have z2 := hn0.cell 2 (u := .int .u64 0) rfl
  have z3 := hn0.cell 3 (u := .int .u64 0) rfl
  clear hne
  have t1 : decide ((2 : Int) ≤ (s.size : Int) - (a : Int)) = true := by simp; omega
  have t2 : decide (2 ≤ m) = true := by have := HM.out; simp; omega
  have t2i : decide ((2 : Int) ≤ (m : Int)) = true := by have := HM.out; simp; omega
  obtain ⟨b0, e0⟩ := byte_at hc0
  have m0 : ((c0.toNat : Int) == 91) = false := u8_ne (n := 91) (by omega) hk91
  have g1 : (a : Int) < (s.size : Int) := by omega
  clear hc0 hk91
  have hsub := Hhsub.out
  have W1 := HW1.out
  have W2 := HW2.out
  have W5 := HW5.out
  go_upto_region 14 with fail
  clear hsub W1 W2 W5 t1 t2 t2i b0 e0 m0 g1
  have HC2 := HC.out
  rw [HS.out] at HC2
  simp only [singleV] at HC2
  rw [← HQ.out] at HC2
  have HC3 := Lib.hid HC2
  obtain ⟨m2, hm2⟩ : ∃ m2, s.size = q + m2 := ⟨s.size - q, by have := HQL.out; omega⟩
  have HM2 := Lib.hid hm2
  have q0 : (0 : Int) ≤ (q : Int) := by omega
  clear HC2 hm2
  go_wp2_with fail
  refine (HC3.out _).mono ?_
  rintro e w1 ⟨rfl, hkn⟩
  replace hr0 := hr0.keep hkn id
  replace hn0 := hn0.keep hkn id
  replace hk0 := hk0.trans hkn (fun _ _ h => h)
  clear hkn z0 z1 z2 z3
  have z0 := hn0.cell 0 (u := .int .u64 0) rfl
  have z1 := hn0.cell 1 (u := .int .u64 0) rfl
  have z2 := hn0.cell 2 (u := .int .u64 0) rfl
  have z3 := hn0.cell 3 (u := .int .u64 0) rfl
  have hg := range_get HR0.out
  have hgl := hg.2
  rw [toList_len] at hgl
  have hm := HM2.out
  have Q1 := Lib.hid hgl
  have s1 : decide ((s.size : Int) - (q : Int) < 2) = false := by simp; omega
  have s2 : decide (m2 < 2) = false := by simp; omega
  have s3 : decide ((m2 : Int) < 2) = false := by simp; omega
  obtain ⟨c1, hc1⟩ : ∃ c, s.toList[q + 1]? = some c := ⟨_, List.getElem?_eq_getElem (by rw [toList_len]; omega)⟩
  have h45 := hg.1
  obtain ⟨b0, e0⟩ := byte_at h45
  obtain ⟨b1, e1⟩ := byte_at hc1
  have i1 : (q : Int) < (s.size : Int) := by omega
  have i2 : (q : Int) + 1 < (s.size : Int) := by omega
  have i3 : (0 : Int) ≤ (q : Int) + 1 := by omega
  have k93 : ¬ c1 = 93 := fun h => by
    have hr := HR0.out
    rw [rangeB, pre2_eq h45 hc1, h] at hr
    simp at hr
  have m93 : ((c1.toNat : Int) == 93) = false := u8_ne (n := 93) (by omega) k93
  have HV1 := Lib.hid (show wrap64 ((q : Int) + 1) = (q : Int) + 1 by unfold wrap64; omega)
  have HS2 := Lib.hid (show wrap64 ((s.size : Int) - (q : Int)) = (m2 : Int) by unfold wrap64; omega)
  clear hg hgl hm hc1 k93 h45
  have HD2 := HD.out q (Nat.le_of_lt Q1.out)
  rw [HT.out] at HD2
  simp only [singleV] at HD2
  rw [← HRR.out] at HD2
  simp only [show ((q + 1 : Nat) : Int) = (q : Int) + 1 from rfl] at HD2
  have HD3 := Lib.hid HD2
  clear HD2
  obtain ⟨m3, hm3⟩ : ∃ m3, s.size = r + m3 := ⟨s.size - r, by have := HRL.out; omega⟩
  have HM3 := Lib.hid hm3
  have r0 : (0 : Int) ≤ (r : Int) := by omega
  clear hm3
  have V1 := HV1.out
  have hsub2 := HS2.out
  go_wp2_with fail
  refine (HD3.out _).mono ?_
  rintro e w2 ⟨rfl, hkn⟩
  clear V1 hsub2
  replace hr0 := hr0.keep hkn id
  replace hn0 := hn0.keep hkn id
  replace hk0 := hk0.trans hkn (fun _ _ h => h)
  clear hkn z0 z1 z2 z3
  clear s1 s2 s3 b0 e0 b1 e1 i1 i2 i3 m93
  have z0 := hn0.cell 0 (u := .int .u64 0) rfl
  have z1 := hn0.cell 1 (u := .int .u64 0) rfl
  have z2 := hn0.cell 2 (u := .int .u64 0) rfl
  have z3 := hn0.cell 3 (u := .int .u64 0) rfl
  go_upto_region 20 with fail
  have HS3 := Lib.hid (show wrap64 ((s.size : Int) - (r : Int)) = (m3 : Int) by have := HM3.out; unfold wrap64; omega)
  go_cut [210] (fun c wx => c = .bool (badB s.toList q r x y) ∧ w2 = wx)
  case first =>
    have hm := HM2.out
    have hm3 := HM3.out
    obtain ⟨c1, hc1⟩ : ∃ c, s.toList[q + 1]? = some c := ⟨_, List.getElem?_eq_getElem (by rw [toList_len]; have := Q1.out; omega)⟩
    obtain ⟨b1, e1⟩ := byte_at hc1
    have i2 : (q : Int) + 1 < (s.size : Int) := by have := Q1.out; omega
    have i3 : (0 : Int) ≤ (q : Int) + 1 := by omega
    have HW5 := Lib.hid (show wrap64 ((q : Int) + 2) = (q : Int) + 2 by unfold wrap64; omega)
    have HW2 := HS2
    have HW3 := HS3
    have HW4 := HV1
    have i6 : (0 : Int) ≤ (r : Int) := by omega
    have hB : badB s.toList q r x y = ((preB [91, 61] (s.toList.drop (q + 1)) || preB [91, 58] (s.toList.drop (q + 1))) || decide (y.toNat < x.toNat) || (decide (c1 = 45) && !preB [93] (s.toList.drop r))) := by rw [badB, pre1_eq hc1]

    have h3 := HWAY.out.1
    have t1 : decide ((3 : Int) ≤ (s.size : Int) - (q : Int)) = true := by simp; omega
    have t2 : decide (3 ≤ m2) = true := by simp; omega
    have t2i : decide ((3 : Int) ≤ (m2 : Int)) = true := by simp; omega
    obtain ⟨c2, hc2⟩ : ∃ c, s.toList[q + 1 + 1]? = some c := ⟨_, List.getElem?_eq_getElem (by rw [toList_len]; omega)⟩
    have f1 := pre2_eq (x := 91) (y := 61) hc1 hc2
    have f2 := pre2_eq (x := 91) (y := 58) hc1 hc2
    obtain ⟨b2, e2⟩ := byte_at hc2
    have b2' : q + 2 < s.size := b2
    have e2' : s[q + 2] = c2 := e2
    have i7 : (q : Int) + 2 < (s.size : Int) := by omega
    have i8 : (0 : Int) ≤ (q : Int) + 2 := by omega
    clear e2 b2

    have km1 : c1 = 91 := by have := HWAY.out.2; rw [hc1] at this; exact Option.some.inj this
    have m1 : ((c1.toNat : Int) == 91) = true := by rw [km1]; rfl
    have m1' : ((c1.toNat : Int) != 91) = false := by rw [km1]; rfl
    by_cases km2 : c2 = 61
    · have m2 : ((c2.toNat : Int) == 61) = true := by rw [km2]; rfl
      have m2' : ((c2.toNat : Int) != 61) = false := by rw [km2]; rfl
      have HB := Lib.hid (show badB s.toList q r x y = true by rw [hB, f1, km1, km2]; simp)
      clear km1 km2 f1 f2 h3 hc2 hm hm3 hc1 hB
      have i4 := HW4.out
      have i5 := HW5.out
      have hsub2 := HW2.out
      have hsub3 := HW3.out
      go_wp2_with fail
      go_meet
      exact ⟨by rw [HB.out], rfl⟩

    have m2 : ((c2.toNat : Int) == 61) = false := u8_ne (n := 61) (by omega) km2
    have m2' : ((c2.toNat : Int) != 61) = true := by rw [bne, m2]; rfl
    by_cases km4 : c2 = 58
    · have m4 : ((c2.toNat : Int) == 58) = true := by rw [km4]; rfl
      have m4' : ((c2.toNat : Int) != 58) = false := by rw [km4]; rfl
      have HB := Lib.hid (show badB s.toList q r x y = true by rw [hB, f2, km1, km4]; simp)
      clear km1 km2 km4 f1 f2 h3 hc2 hm hm3 hc1 hB
      have i4 := HW4.out
      have i5 := HW5.out
      have hsub2 := HW2.out
      have hsub3 := HW3.out
      go_wp2_with fail
      go_meet
      exact ⟨by rw [HB.out], rfl⟩

    have m4 : ((c2.toNat : Int) == 58) = false := u8_ne (n := 58) (by omega) km4
    have m4' : ((c2.toNat : Int) != 58) = true := by rw [bne, m4]; rfl
    have f1' : preB [91, 61] (s.toList.drop (q + 1)) = false := by rw [f1]; simp [km2]
    have f2' : preB [91, 58] (s.toList.drop (q + 1)) = false := by rw [f2]; simp [km4]
    have kk5 : ¬ c1 = 45 := by rw [km1]; decide
    have m5 : ((c1.toNat : Int) == 45) = false := u8_ne (n := 45) (by omega) kk5
    have m5' : ((c1.toNat : Int) != 45) = true := by rw [bne, m5]; rfl
    have m9 : c1 = 91 := km1
    by_cases kg : y.toNat < x.toNat
    · have g1 : decide ((y.toNat : Int) < (x.toNat : Int)) = true := by simp; omega
      have g2 : decide (y.toNat < x.toNat) = true := by simp; omega
      have HB := Lib.hid (show badB s.toList q r x y = true by rw [hB]; simp [kg])
      clear kg hm hm3 hc1 hB f1' f2' f1 f2 h3 hc2 km1 km2 km4 kk5 m9
      have i4 := HW4.out
      have i5 := HW5.out
      have hsub2 := HW2.out
      have hsub3 := HW3.out
      go_wp2_with fail
      go_meet
      exact ⟨by rw [HB.out], rfl⟩

    have g1 : decide ((y.toNat : Int) < (x.toNat : Int)) = false := by simp; omega
    have g2 : decide (y.toNat < x.toNat) = false := by simp; omega
    have HB := Lib.hid (show badB s.toList q r x y = false by rw [hB, f1', f2']; simp [kg, km1])
    clear kg hm hm3 hc1 hB f1' f2' f1 f2 h3 hc2 km1 km2 km4 kk5 m9
    have i4 := HW4.out
    have i5 := HW5.out
    have hsub2 := HW2.out
    have hsub3 := HW3.out
    go_wp2_with fail
    go_meet
    exact ⟨by rw [HB.out], rfl⟩

  case rest =>
  obtain ⟨rfl, rfl⟩ := hcut
  cases hB : badB s.toList q r x y with
  | true =>
    have HV := Lib.hid (HBAD.out hB)
    clear hB
    clear z0 z1 z2 z3
    have HR := hr0
    have HR9 := Lib.hid (hr0.setRow (setRow zeroF))
    have HK9 := Lib.hid (Keep.setRow hk0 (Or.inl (Nat.le_refl _)) (setRow zeroF))
    go_wp2_with (first | (refine wpList_store_row rfl 24 (.tmp 4) (.tmp 211) rfl w.heap.size _ rfl rfl 24 _ HR sizeS2 rfl (by simp [setRow, Value.oneCell']) ?_) | (refine wpList_load_row rfl 24 (.tmp 7) rfl (w.heap.size + 1) rfl 24 _ (0, 0) _ hn0 Try.underlying24 rfl sizeS2 ?_))
    refine bodyPost_ret (results_ctt Try.results29 _ _ w.heap.size 24 _ (0, 0) _ rfl HR9.out Try.underlying24 rfl sizeS2) rfl ⟨MemR.bad zeroF (by rw [HMR.out, HV.out]), HK9.out⟩
  | false =>
    have HV := Lib.hid (HOK.out hB)
    clear hB
    go_wp2_with fail
    refine (with_r zeroF x.toNat y.toNat (UInt8.toNat_lt x) (UInt8.toNat_lt y) _).mono ?_
    rintro e w9 ⟨rfl, hkn⟩
    have hr9 := hr0.keep hkn id
    have hk9 := hk0.trans hkn (fun _ _ h => h)
    clear hkn
    have HR := hr9
    have HR9 := Lib.hid (hr9.setRow (setRow (withF zeroF x.toNat y.toNat)))
    have HK9 := Lib.hid (Keep.setRow hk9 (Or.inl (Nat.le_refl _)) (setRow (withF zeroF x.toNat y.toNat)))
    simp only [setRow]
    go_wp2_with (refine wpList_store_row rfl 24 (.tmp 4) (.tmp 215) rfl w.heap.size _ rfl rfl 24 _ HR sizeS2 rfl (by simp [setRow, Value.oneCell']) ?_)
    refine bodyPost_ret (results_ctt Try.results29 _ _ w.heap.size 24 _ (0, 0) _ rfl HR9.out Try.underlying24 rfl sizeS2) rfl ⟨MemR.ok' (t := withF zeroF x.toNat y.toNat) (k := n + 1 + k) (by rw [HMR.out, HV.out]) (by rw [HRR.out, HQ.out]; omega), HK9.out⟩

set_option maxRecDepth 100000 in
set_option maxHeartbeats 4000000 in
theorem mr_rngB3 (s : ByteArray) (a : Nat) (ha : a ≤ s.size) (hz : s.size ≤ 1000000) (p1 : preB [91, 58] (s.toList.drop a) = false) (p2 : preB [91, 61] (s.toList.drop a) = false) (hw1 : a + 2 ≤ s.size) (hc0 : s.toList[a]? = some 91) (x : UInt8) (n q : Nat) (hS : singleF (s.toList.drop a) = some (x, n)) (hq : q = a + n) (hR : rangeB s.toList q = true) (y : UInt8) (k r : Nat) (hT : singleF (s.toList.drop (q + 1)) = some (y, k)) (hr : r = q + 1 + k) (hw : q + 3 ≤ s.size ∧ s.toList[q + 1]? = some 91) (w : World) :
    Calls Try.prog 29 #[.string s, .int .i64 (a : Int)] w fun e w' => MemR (memberF (s.toList.drop a)) a e ∧ Keep Nb w w' := by
  have HMF := Lib.hid (show memberF (s.toList.drop a) = (match singleF (s.toList.drop a) with
    | none => none
    | some (x, n) => rangeF x n (s.toList.drop a)) by rw [memberF, if_neg (by rw [p1]; simp), if_neg (by rw [p2]; simp)]; rfl)
  have P1 := Lib.hid p1
  have P2 := Lib.hid p2
  have HC := Lib.hid (fun wx => single_r s a ha hz wx)
  have HD := Lib.hid (fun (q : Nat) (hq : q + 1 ≤ s.size) wx => single_r s (q + 1) hq hz wx)
  have HBAD := Lib.hid (fun h => range_bad (x := x) hq hR hT h)
  have HOK := Lib.hid (fun h => range_ok (x := x) hq hR hT h)
  rw [← hr] at HBAD HOK
  have HRL := Lib.hid (show r ≤ s.size by have hnl := singleF_len hT; rw [List.length_drop, toList_len] at hnl; omega)
  have HT := Lib.hid hT
  have HRR := Lib.hid hr
  have HWAY := Lib.hid hw
  clear hT hr hw
  have HS := Lib.hid hS
  have HQL := Lib.hid (show q ≤ s.size by have hnl := singleF_len hS; rw [List.length_drop, toList_len] at hnl; omega)
  have HQ := Lib.hid hq
  have HMR := Lib.hid (show memberF (s.toList.drop a) = rangeF x n (s.toList.drop a) by rw [HMF.out, hS])
  have HR0 := Lib.hid hR
  clear hS hq hR
  clear p1 p2
  obtain ⟨m, hm⟩ : ∃ m, s.size = a + m := ⟨s.size - a, by omega⟩
  have HM := Lib.hid hm
  have Hhsub := Lib.hid (show wrap64 ((s.size : Int) - (a : Int)) = (m : Int) by unfold wrap64; omega)
  have h0 : (0 : Int) ≤ (a : Int) := by omega
  have HW2 := Lib.hid (show wrap64 ((a : Int) + 2) = (a : Int) + 2 by unfold wrap64; omega)
  have HW5 := Lib.hid (show wrap64 ((a : Int) + 5) = (a : Int) + 5 by unfold wrap64; omega)
  have HW1 := Lib.hid (show wrap64 ((a : Int) + 1) = (a : Int) + 1 by unfold wrap64; omega)
  clear hm
  go_enter Try.func29, Try.ntmps29
  go_upto_region 2 with fail
  have hr0 : Blk ((w.alloc (.cells (setRow zeroF) 24)).alloc (.cells (setRow zeroF) 24)) w.heap.size (setRow zeroF) 24 := (Blk.new w _ _).alloc _
  have hn0 : Blk ((w.alloc (.cells (setRow zeroF) 24)).alloc (.cells (setRow zeroF) 24)) (w.heap.size + 1) (setRow zeroF) 24 := Blk.new' (by simp) _ _
  have hk0 : Keep Nb w ((w.alloc (.cells (setRow zeroF) 24)).alloc (.cells (setRow zeroF) 24)) := Keep.alloc (Keep.alloc (Keep.refl _ _) _) _
  simp only [setRow, zeroF] at hr0 hn0 hk0
  generalize ((w.alloc (.cells #[.int .u64 0, .int .u64 0, .int .u64 0, .int .u64 0] 24)).alloc (.cells #[.int .u64 0, .int .u64 0, .int .u64 0, .int .u64 0] 24)) = w0 at hr0 hn0 hk0 ⊢
  have s0 := hn0.lt
  have hne : w.heap.size ≠ w.heap.size + 1 := by omega
  have N1 := Lib.hid hne
  have z0 := hn0.cell 0 (u := .int .u64 0) rfl
  have z1 := hn0.cell 1 (u := .int .u64 0) rfl
  have z2 := hn0.cell 2 (u := .int .u64 0) rfl
  have z3 := hn0.cell 3 (u := .int .u64 0) rfl
  clear hne
  have t1 : decide ((2 : Int) ≤ (s.size : Int) - (a : Int)) = true := by simp; omega
  have t2 : decide (2 ≤ m) = true := by have := HM.out; simp; omega
  have t2i : decide ((2 : Int) ≤ (m : Int)) = true := by have := HM.out; simp; omega
  obtain ⟨b0, e0⟩ := byte_at hc0
  obtain ⟨c1, hc1⟩ : ∃ c, s.toList[a + 1]? = some c := ⟨_, List.getElem?_eq_getElem (by rw [toList_len]; omega)⟩
  obtain ⟨b1, e1⟩ := byte_at hc1
  have k61 : ¬ c1 = 61 := fun h => by
    have := P2.out
    rw [pre2_eq hc0 hc1, h] at this
    simp at this
  have k58 : ¬ c1 = 58 := fun h => by
    have := P1.out
    rw [pre2_eq hc0 hc1, h] at this
    simp at this
  have m61 : ((c1.toNat : Int) == 61) = false := u8_ne (n := 61) (by omega) k61
  have m58 : ((c1.toNat : Int) == 58) = false := u8_ne (n := 58) (by omega) k58
  have g1 : (a : Int) < (s.size : Int) := by omega
  have g2 : (a : Int) + 1 < (s.size : Int) := by omega
  have g3 : (0 : Int) ≤ (a : Int) + 1 := by omega
  clear hc0 hc1 k61 k58
  have hsub := Hhsub.out
  have W1 := HW1.out
  have W2 := HW2.out
  have W5 := HW5.out
  go_upto_region 14 with fail
  clear hsub W1 W2 W5 t1 t2 t2i b0 e0 b1 e1 m61 m58 g1 g2 g3
  have HC2 := HC.out
  rw [HS.out] at HC2
  simp only [singleV] at HC2
  rw [← HQ.out] at HC2
  have HC3 := Lib.hid HC2
  obtain ⟨m2, hm2⟩ : ∃ m2, s.size = q + m2 := ⟨s.size - q, by have := HQL.out; omega⟩
  have HM2 := Lib.hid hm2
  have q0 : (0 : Int) ≤ (q : Int) := by omega
  clear HC2 hm2
  go_wp2_with fail
  refine (HC3.out _).mono ?_
  rintro e w1 ⟨rfl, hkn⟩
  replace hr0 := hr0.keep hkn id
  replace hn0 := hn0.keep hkn id
  replace hk0 := hk0.trans hkn (fun _ _ h => h)
  clear hkn z0 z1 z2 z3
  have z0 := hn0.cell 0 (u := .int .u64 0) rfl
  have z1 := hn0.cell 1 (u := .int .u64 0) rfl
  have z2 := hn0.cell 2 (u := .int .u64 0) rfl
  have z3 := hn0.cell 3 (u := .int .u64 0) rfl
  have hg := range_get HR0.out
  have hgl := hg.2
  rw [toList_len] at hgl
  have hm := HM2.out
  have Q1 := Lib.hid hgl
  have s1 : decide ((s.size : Int) - (q : Int) < 2) = false := by simp; omega
  have s2 : decide (m2 < 2) = false := by simp; omega
  have s3 : decide ((m2 : Int) < 2) = false := by simp; omega
  obtain ⟨c1, hc1⟩ : ∃ c, s.toList[q + 1]? = some c := ⟨_, List.getElem?_eq_getElem (by rw [toList_len]; omega)⟩
  have h45 := hg.1
  obtain ⟨b0, e0⟩ := byte_at h45
  obtain ⟨b1, e1⟩ := byte_at hc1
  have i1 : (q : Int) < (s.size : Int) := by omega
  have i2 : (q : Int) + 1 < (s.size : Int) := by omega
  have i3 : (0 : Int) ≤ (q : Int) + 1 := by omega
  have k93 : ¬ c1 = 93 := fun h => by
    have hr := HR0.out
    rw [rangeB, pre2_eq h45 hc1, h] at hr
    simp at hr
  have m93 : ((c1.toNat : Int) == 93) = false := u8_ne (n := 93) (by omega) k93
  have HV1 := Lib.hid (show wrap64 ((q : Int) + 1) = (q : Int) + 1 by unfold wrap64; omega)
  have HS2 := Lib.hid (show wrap64 ((s.size : Int) - (q : Int)) = (m2 : Int) by unfold wrap64; omega)
  clear hg hgl hm hc1 k93 h45
  have HD2 := HD.out q (Nat.le_of_lt Q1.out)
  rw [HT.out] at HD2
  simp only [singleV] at HD2
  rw [← HRR.out] at HD2
  simp only [show ((q + 1 : Nat) : Int) = (q : Int) + 1 from rfl] at HD2
  have HD3 := Lib.hid HD2
  clear HD2
  obtain ⟨m3, hm3⟩ : ∃ m3, s.size = r + m3 := ⟨s.size - r, by have := HRL.out; omega⟩
  have HM3 := Lib.hid hm3
  have r0 : (0 : Int) ≤ (r : Int) := by omega
  clear hm3
  have V1 := HV1.out
  have hsub2 := HS2.out
  go_wp2_with fail
  refine (HD3.out _).mono ?_
  rintro e w2 ⟨rfl, hkn⟩
  clear V1 hsub2
  replace hr0 := hr0.keep hkn id
  replace hn0 := hn0.keep hkn id
  replace hk0 := hk0.trans hkn (fun _ _ h => h)
  clear hkn z0 z1 z2 z3
  clear s1 s2 s3 b0 e0 b1 e1 i1 i2 i3 m93
  have z0 := hn0.cell 0 (u := .int .u64 0) rfl
  have z1 := hn0.cell 1 (u := .int .u64 0) rfl
  have z2 := hn0.cell 2 (u := .int .u64 0) rfl
  have z3 := hn0.cell 3 (u := .int .u64 0) rfl
  go_upto_region 20 with fail
  have HS3 := Lib.hid (show wrap64 ((s.size : Int) - (r : Int)) = (m3 : Int) by have := HM3.out; unfold wrap64; omega)
  go_cut [210] (fun c wx => c = .bool (badB s.toList q r x y) ∧ w2 = wx)
  case first =>
    have hm := HM2.out
    have hm3 := HM3.out
    obtain ⟨c1, hc1⟩ : ∃ c, s.toList[q + 1]? = some c := ⟨_, List.getElem?_eq_getElem (by rw [toList_len]; have := Q1.out; omega)⟩
    obtain ⟨b1, e1⟩ := byte_at hc1
    have i2 : (q : Int) + 1 < (s.size : Int) := by have := Q1.out; omega
    have i3 : (0 : Int) ≤ (q : Int) + 1 := by omega
    have HW5 := Lib.hid (show wrap64 ((q : Int) + 2) = (q : Int) + 2 by unfold wrap64; omega)
    have HW2 := HS2
    have HW3 := HS3
    have HW4 := HV1
    have i6 : (0 : Int) ≤ (r : Int) := by omega
    have hB : badB s.toList q r x y = ((preB [91, 61] (s.toList.drop (q + 1)) || preB [91, 58] (s.toList.drop (q + 1))) || decide (y.toNat < x.toNat) || (decide (c1 = 45) && !preB [93] (s.toList.drop r))) := by rw [badB, pre1_eq hc1]

    have h3 := HWAY.out.1
    have t1 : decide ((3 : Int) ≤ (s.size : Int) - (q : Int)) = true := by simp; omega
    have t2 : decide (3 ≤ m2) = true := by simp; omega
    have t2i : decide ((3 : Int) ≤ (m2 : Int)) = true := by simp; omega
    obtain ⟨c2, hc2⟩ : ∃ c, s.toList[q + 1 + 1]? = some c := ⟨_, List.getElem?_eq_getElem (by rw [toList_len]; omega)⟩
    have f1 := pre2_eq (x := 91) (y := 61) hc1 hc2
    have f2 := pre2_eq (x := 91) (y := 58) hc1 hc2
    obtain ⟨b2, e2⟩ := byte_at hc2
    have b2' : q + 2 < s.size := b2
    have e2' : s[q + 2] = c2 := e2
    have i7 : (q : Int) + 2 < (s.size : Int) := by omega
    have i8 : (0 : Int) ≤ (q : Int) + 2 := by omega
    clear e2 b2

    have km1 : c1 = 91 := by have := HWAY.out.2; rw [hc1] at this; exact Option.some.inj this
    have m1 : ((c1.toNat : Int) == 91) = true := by rw [km1]; rfl
    have m1' : ((c1.toNat : Int) != 91) = false := by rw [km1]; rfl
    by_cases km2 : c2 = 61
    · have m2 : ((c2.toNat : Int) == 61) = true := by rw [km2]; rfl
      have m2' : ((c2.toNat : Int) != 61) = false := by rw [km2]; rfl
      have HB := Lib.hid (show badB s.toList q r x y = true by rw [hB, f1, km1, km2]; simp)
      clear km1 km2 f1 f2 h3 hc2 hm hm3 hc1 hB
      have i4 := HW4.out
      have i5 := HW5.out
      have hsub2 := HW2.out
      have hsub3 := HW3.out
      go_wp2_with fail
      go_meet
      exact ⟨by rw [HB.out], rfl⟩

    have m2 : ((c2.toNat : Int) == 61) = false := u8_ne (n := 61) (by omega) km2
    have m2' : ((c2.toNat : Int) != 61) = true := by rw [bne, m2]; rfl
    by_cases km4 : c2 = 58
    · have m4 : ((c2.toNat : Int) == 58) = true := by rw [km4]; rfl
      have m4' : ((c2.toNat : Int) != 58) = false := by rw [km4]; rfl
      have HB := Lib.hid (show badB s.toList q r x y = true by rw [hB, f2, km1, km4]; simp)
      clear km1 km2 km4 f1 f2 h3 hc2 hm hm3 hc1 hB
      have i4 := HW4.out
      have i5 := HW5.out
      have hsub2 := HW2.out
      have hsub3 := HW3.out
      go_wp2_with fail
      go_meet
      exact ⟨by rw [HB.out], rfl⟩

    have m4 : ((c2.toNat : Int) == 58) = false := u8_ne (n := 58) (by omega) km4
    have m4' : ((c2.toNat : Int) != 58) = true := by rw [bne, m4]; rfl
    have f1' : preB [91, 61] (s.toList.drop (q + 1)) = false := by rw [f1]; simp [km2]
    have f2' : preB [91, 58] (s.toList.drop (q + 1)) = false := by rw [f2]; simp [km4]
    have kk5 : ¬ c1 = 45 := by rw [km1]; decide
    have m5 : ((c1.toNat : Int) == 45) = false := u8_ne (n := 45) (by omega) kk5
    have m5' : ((c1.toNat : Int) != 45) = true := by rw [bne, m5]; rfl
    have m9 : c1 = 91 := km1
    by_cases kg : y.toNat < x.toNat
    · have g1 : decide ((y.toNat : Int) < (x.toNat : Int)) = true := by simp; omega
      have g2 : decide (y.toNat < x.toNat) = true := by simp; omega
      have HB := Lib.hid (show badB s.toList q r x y = true by rw [hB]; simp [kg])
      clear kg hm hm3 hc1 hB f1' f2' f1 f2 h3 hc2 km1 km2 km4 kk5 m9
      have i4 := HW4.out
      have i5 := HW5.out
      have hsub2 := HW2.out
      have hsub3 := HW3.out
      go_wp2_with fail
      go_meet
      exact ⟨by rw [HB.out], rfl⟩

    have g1 : decide ((y.toNat : Int) < (x.toNat : Int)) = false := by simp; omega
    have g2 : decide (y.toNat < x.toNat) = false := by simp; omega
    have HB := Lib.hid (show badB s.toList q r x y = false by rw [hB, f1', f2']; simp [kg, km1])
    clear kg hm hm3 hc1 hB f1' f2' f1 f2 h3 hc2 km1 km2 km4 kk5 m9
    have i4 := HW4.out
    have i5 := HW5.out
    have hsub2 := HW2.out
    have hsub3 := HW3.out
    go_wp2_with fail
    go_meet
    exact ⟨by rw [HB.out], rfl⟩

  case rest =>
  obtain ⟨rfl, rfl⟩ := hcut
  cases hB : badB s.toList q r x y with
  | true =>
    have HV := Lib.hid (HBAD.out hB)
    clear hB
    clear z0 z1 z2 z3
    have HR := hr0
    have HR9 := Lib.hid (hr0.setRow (setRow zeroF))
    have HK9 := Lib.hid (Keep.setRow hk0 (Or.inl (Nat.le_refl _)) (setRow zeroF))
    go_wp2_with (first | (refine wpList_store_row rfl 24 (.tmp 4) (.tmp 211) rfl w.heap.size _ rfl rfl 24 _ HR sizeS2 rfl (by simp [setRow, Value.oneCell']) ?_) | (refine wpList_load_row rfl 24 (.tmp 7) rfl (w.heap.size + 1) rfl 24 _ (0, 0) _ hn0 Try.underlying24 rfl sizeS2 ?_))
    refine bodyPost_ret (results_ctt Try.results29 _ _ w.heap.size 24 _ (0, 0) _ rfl HR9.out Try.underlying24 rfl sizeS2) rfl ⟨MemR.bad zeroF (by rw [HMR.out, HV.out]), HK9.out⟩
  | false =>
    have HV := Lib.hid (HOK.out hB)
    clear hB
    go_wp2_with fail
    refine (with_r zeroF x.toNat y.toNat (UInt8.toNat_lt x) (UInt8.toNat_lt y) _).mono ?_
    rintro e w9 ⟨rfl, hkn⟩
    have hr9 := hr0.keep hkn id
    have hk9 := hk0.trans hkn (fun _ _ h => h)
    clear hkn
    have HR := hr9
    have HR9 := Lib.hid (hr9.setRow (setRow (withF zeroF x.toNat y.toNat)))
    have HK9 := Lib.hid (Keep.setRow hk9 (Or.inl (Nat.le_refl _)) (setRow (withF zeroF x.toNat y.toNat)))
    simp only [setRow]
    go_wp2_with (refine wpList_store_row rfl 24 (.tmp 4) (.tmp 215) rfl w.heap.size _ rfl rfl 24 _ HR sizeS2 rfl (by simp [setRow, Value.oneCell']) ?_)
    refine bodyPost_ret (results_ctt Try.results29 _ _ w.heap.size 24 _ (0, 0) _ rfl HR9.out Try.underlying24 rfl sizeS2) rfl ⟨MemR.ok' (t := withF zeroF x.toNat y.toNat) (k := n + 1 + k) (by rw [HMR.out, HV.out]) (by rw [HRR.out, HQ.out]; omega), HK9.out⟩

end Go.Proofs.Ytfjipiibkmapkaa
