/- The reference: a member of a bracket expression. -/
import Derived.Test.YtfjipiibkmapkaaMr1
import Derived.Test.YtfjipiibkmapkaaParse
namespace Go.Proofs.Ytfjipiibkmapkaa
set_option linter.unusedVariables false
set_option linter.unusedSimpArgs false
open Go.RowKit


theorem cut_here {L : List UInt8} {n : Nat} {c0 c1 : UInt8} (h0 : L[n]? = some c0) (h1 : L[n + 1]? = some c1) : cutF (L.drop n) = if c0 = 58 ∧ c1 = 93 then some 0 else (cutF (L.drop (n + 1))).map (· + 1) := by
  have hp := pre2_eq (x := 58) (y := 93) h0 h1
  obtain ⟨g0, e0⟩ := List.getElem?_eq_some_iff.1 h0
  rw [List.drop_eq_getElem_cons g0] at hp ⊢
  rw [cutF, hp]
  simp
theorem cut_short {L : List UInt8} {n : Nat} (h : L.length ≤ n + 1) : cutF (L.drop n) = none := by
  cases hc : cutF (L.drop n) with
  | none => rfl
  | some i => have := cutF_len hc; rw [List.length_drop] at this; omega
theorem cut_step {L : List UInt8} {a n : Nat} (ha : a ≤ n) (h : cutF (L.drop a) = (cutF (L.drop n)).map (· + (n - a))) (hs : cutF (L.drop n) = (cutF (L.drop (n + 1))).map (· + 1)) : cutF (L.drop a) = (cutF (L.drop (n + 1))).map (· + (n + 1 - a)) := by
  rw [h, hs, Option.map_map]
  congr 1
  funext i
  simp only [Function.comp]
  omega
theorem class_of {l : List UInt8} {i : Nat} (h : cutF l = some i) : classF l = if clsP (l.take i) = [] then none else some (foldC zeroF (clsP (l.take i)), i + 4) := by
  rw [classF, h]

set_option maxRecDepth 100000 in
set_option maxHeartbeats 4000000 in
theorem mr_cls (s : ByteArray) (a : Nat) (ha : a ≤ s.size) (hz : s.size ≤ 1000000) (p1 : preB [91, 58] (s.toList.drop a) = true) (w : World) :
    Calls Try.prog 29 #[.string s, .int .i64 (a : Int)] w fun e w' => MemR (memberF (s.toList.drop a)) a e ∧ Keep Nb w w' := by
  have HMF := Lib.hid (show memberF (s.toList.drop a) = classF (s.toList.drop (a + 2)) by rw [memberF, if_pos p1, List.drop_drop])
  have HP2 := Lib.hid p1
  have HC := Lib.hid (fun (t : ByteArray) wx => class_r t wx)
  clear p1
  obtain ⟨m, hm⟩ : ∃ m, s.size = a + m := ⟨s.size - a, by omega⟩
  have HM := Lib.hid hm
  have hsub : wrap64 ((s.size : Int) - (a : Int)) = (m : Int) := by unfold wrap64; omega
  have h0 : (0 : Int) ≤ (a : Int) := by omega
  have W2 : wrap64 ((a : Int) + 2) = (a : Int) + 2 := by unfold wrap64; omega
  have W5 : wrap64 ((a : Int) + 5) = (a : Int) + 5 := by unfold wrap64; omega
  have W1 : wrap64 ((a : Int) + 1) = (a : Int) + 1 := by unfold wrap64; omega
  clear hm
  go_enter Try.func29, Try.ntmps29
  go_upto_region 2 with fail
  have hr0 : Blk ((w.alloc (.cells (setRow zeroF) 24)).alloc (.cells (setRow zeroF) 24)) w.heap.size (setRow zeroF) 24 := (Blk.new w _ _).alloc _
  have hn0 : Blk ((w.alloc (.cells (setRow zeroF) 24)).alloc (.cells (setRow zeroF) 24)) (w.heap.size + 1) (setRow zeroF) 24 := Blk.new' (by simp) _ _
  have hk0 : Keep Nb w ((w.alloc (.cells (setRow zeroF) 24)).alloc (.cells (setRow zeroF) 24)) := Keep.alloc (Keep.alloc (Keep.refl _ _) _) _
  simp only [setRow, zeroF] at hr0 hn0 hk0
  generalize ((w.alloc (.cells #[.int .u64 0, .int .u64 0, .int .u64 0, .int .u64 0] 24)).alloc (.cells #[.int .u64 0, .int .u64 0, .int .u64 0, .int .u64 0] 24)) = w0 at hr0 hn0 hk0 ⊢
  have s0 := hn0.lt
  have hne : w.heap.size ≠ w.heap.size + 1 := by omega
  have N1 := Lib.hid hne
  have z0 := hn0.cell 0 (u := .int .u64 0) rfl
  have z1 := hn0.cell 1 (u := .int .u64 0) rfl
  have z2 := hn0.cell 2 (u := .int .u64 0) rfl
  have z3 := hn0.cell 3 (u := .int .u64 0) rfl
  clear hne
  obtain ⟨q0, q1, ql⟩ := pre2_get HP2.out
  rw [toList_len] at ql
  obtain ⟨b0, e0⟩ := byte_at q0
  obtain ⟨b1, e1⟩ := byte_at q1
  have g0 : (a : Int) < (s.size : Int) := by omega
  have g1 : (a : Int) + 1 < (s.size : Int) := by omega
  have g2 : (0 : Int) ≤ (a : Int) + 1 := by omega
  have t1 : decide ((2 : Int) ≤ (s.size : Int) - (a : Int)) = true := by simp; omega
  have t2 : decide (2 ≤ m) = true := by have := HM.out; simp; omega
  have QL := Lib.hid ql
  clear q0 q1 ql
  go_wp2_with fail
  clear t1 t2 b0 b1 e0 e1 g1 g0 g2 W5 W1 hsub
  go_loop [8] (fun i => ∃ n : Nat, i = .int .i64 (n : Int) ∧ Hid (a + 2 ≤ n ∧ n ≤ s.size) ∧ Hid (cutF (s.toList.drop (a + 2)) = (cutF (s.toList.drop n)).map (· + (n - (a + 2))))) (fun i => s.size - (intOf i).toNat)
  case atStart => exact ⟨a + 2, by go_num, Lib.hid ⟨Nat.le_refl _, QL.out⟩, Lib.hid (by rw [Nat.sub_self]; simp)⟩
  case round =>
    obtain ⟨n, rfl, hN, hC⟩ := hrel
    have hn := hN.out
    have k0 : (0 : Int) ≤ (n : Int) := by omega
    have k1 : wrap64 ((n : Int) + 1) = (n : Int) + 1 := by unfold wrap64; omega
    have k2 : wrap64 ((n : Int) + 2) = (n : Int) + 2 := by unfold wrap64; omega
    by_cases hlt : n + 1 < s.size
    · obtain ⟨c0, hc0⟩ : ∃ c, s.toList[n]? = some c := ⟨_, List.getElem?_eq_getElem (by rw [toList_len]; omega)⟩
      obtain ⟨c1, hc1⟩ : ∃ c, s.toList[n + 1]? = some c := ⟨_, List.getElem?_eq_getElem (by rw [toList_len]; omega)⟩
      have hh := cut_here hc0 hc1
      have i1 : (n : Int) + 1 < (s.size : Int) := by omega
      have i2 : (n : Int) + 2 ≤ (s.size : Int) := by omega
      have i3 : n + 2 ≤ s.size := by omega
      have i4 : (n : Int) ≤ (n : Int) + 2 := by omega
      have i5 : (0 : Int) ≤ (n : Int) + 2 := by omega
      have hsl : (s.extract n (n + 2)).toList = [c0, c1] := by
        rw [ext_toList, show n + 2 - n = 2 by omega]; exact take_two hc0 hc1
      by_cases hk : c0 = 58 ∧ c1 = 93
      · have hs : ((s.extract n (n + 2)).toList == [58, 93]) = true := by rw [hsl, hk.1, hk.2]; rfl
        have hi : cutF (s.toList.drop (a + 2)) = some (n - (a + 2)) := by rw [hC.out, hh, if_pos hk]; simp
        have hcl := class_of hi
        have hX : (s.extract (a + 2) n).toList = (s.toList.drop (a + 2)).take (n - (a + 2)) := ext_toList s _ _
        rw [← hX] at hcl
        have HC2 := Lib.hid (fun wx => HC.out (s.extract (a + 2) n) wx)
        generalize clsP (s.extract (a + 2) n).toList = cl at hcl HC2
        have j1 : (a : Int) + 2 ≤ (n : Int) := by omega
        have j2 : (n : Int) ≤ (s.size : Int) := by omega
        have j3 : (0 : Int) ≤ (a : Int) + 2 := by omega
        have HI := Lib.hid (show a + 2 ≤ n from hn.1)
        by_cases hcn : cl = []
        all_goals
          first
          | (rw [if_pos hcn] at hcl
             have HD := Lib.hid (show decide (cl ≠ []) = false by simpa using hcn))
          | (rw [if_neg hcn] at hcl
             have HD := Lib.hid (show decide (cl ≠ []) = true by simpa using hcn))
          have HCL := Lib.hid hcl
          rw [HD.out] at HC2
          clear hc0 hc1 hh hk hi hX hsl hcn hcl hn hlt i3
          generalize foldC zeroF cl = f at HCL HC2
          simp only [setRow] at HC2
          have HC3 := Lib.hid HC2.out
          clear HC2
          go_wp2_with fail
          refine (HC3.out _).mono ?_
          rintro e w1 ⟨rfl, hkn⟩
          have hr1 := hr0.keep hkn id
          have hk1 := hk0.trans hkn (fun _ _ h => h)
          have hr2 := hr1.alloc (.cells (setRow f) 24)
          have hk2 := hk1.alloc (.cells (setRow f) 24)
          have hf2 : Blk (w1.alloc (.cells (setRow f) 24)) w1.heap.size (setRow f) 24 := Blk.new w1 _ _
          simp only [setRow] at hr2 hk2 hf2
          clear hkn hr1 hk1 hr0 hk0
          have HR := hr2
          have HR9 := Lib.hid (hr2.setRow (setRow f))
          have HK9 := Lib.hid (Keep.setRow hk2 (Or.inl (Nat.le_refl _)) (setRow f))
          clear hk2
          go_wp2_with (first | (refine wpList_store_row rfl 24 (.tmp 4) (.tmp 110) rfl w.heap.size _ rfl rfl 24 _ HR sizeS2 rfl (by simp [setRow, Value.oneCell']) ?_) | (refine wpList_load_row rfl 24 (.tmp 9) rfl w1.heap.size rfl 24 _ (0, 0) _ hf2 Try.underlying24 rfl sizeS2 ?_))
          refine bodyPost_ret (results_ctt Try.results29 _ _ w.heap.size 24 _ (0, 0) _ rfl HR9.out Try.underlying24 rfl sizeS2) rfl ⟨?_, HK9.out⟩
          first
          | exact MemR.bad f (by rw [HMF.out, HCL.out])
          | exact MemR.ok' (t := f) (k := n - (a + 2) + 4) (by rw [HMF.out, HCL.out]) (by have := HI.out; omega)
      · have hs : ((s.extract n (n + 2)).toList == [58, 93]) = false := by
          rw [hsl]; refine beq_eq_false_iff_ne.2 fun h => hk ?_
          simp at h; exact h
        rw [if_neg hk] at hh
        have HC2 := Lib.hid (cut_step (by omega) hC.out hh)
        have HN2 := Lib.hid (show a + 2 ≤ n + 1 ∧ n + 1 ≤ s.size by omega)
        clear hc0 hc1 hh hk hsl hC hn
        go_wp2_with fail
        go_round
        case rel => exact ⟨n + 1, by go_num, HN2.out, HC2.out⟩
        case measure => simp [intOf]; omega
    · have hno : cutF (s.toList.drop (a + 2)) = none := by rw [hC.out, cut_short (by rw [toList_len]; omega)]; rfl
      have i1 : ¬ (n : Int) + 1 < (s.size : Int) := by omega
      have i2 : decide ((n : Int) + 1 < (s.size : Int)) = false := by simp; omega
      have HV := Lib.hid hno
      clear hno hn hC
      have HR := hr0
      have HR9 := Lib.hid (hr0.setRow (setRow zeroF))
      have HK9 := Lib.hid (Keep.setRow hk0 (Or.inl (Nat.le_refl _)) (setRow zeroF))
      go_wp2_with (first | (refine wpList_store_row rfl 24 (.tmp 4) (.tmp 114) rfl w.heap.size _ rfl rfl 24 _ HR sizeS2 rfl (by simp [setRow, Value.oneCell']) ?_) | (refine wpList_load_row rfl 24 (.tmp 7) rfl (w.heap.size + 1) rfl 24 _ (0, 0) _ hn0 Try.underlying24 rfl sizeS2 ?_))
      refine bodyPost_ret (results_ctt Try.results29 _ _ w.heap.size 24 _ (0, 0) _ rfl HR9.out Try.underlying24 rfl sizeS2) rfl ⟨MemR.bad zeroF (by rw [HMF.out, classF, HV.out]), HK9.out⟩
end Go.Proofs.Ytfjipiibkmapkaa
