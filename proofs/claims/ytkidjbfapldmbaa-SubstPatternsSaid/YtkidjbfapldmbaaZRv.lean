import Derived.Test.YtkidjbfapldmbaaZRs
import Derived.Deep.CutBlock
import Derived.Deep.DeepCutAuto
set_option linter.unusedVariables false
set_option linter.unusedSimpArgs false
namespace Go.Proofs.Ytkidjbfapldmbaa
open Go.RowKit P8
set_option maxRecDepth 100000 in
set_option maxHeartbeats 8000000 in
theorem member_3a (s : ByteArray) (a : Nat) (w : World) (ha : a < s.size) (hs : s.size ≤ 600) (h2 : s.size < a + 2) :
  Calls Try.prog 125 #[.string s, .int .i64 (a : Int)] w fun e w' => MemberR s a e ∧ Keep Nb w w' := by
 have i0 : (0 : Int) ≤ (a : Int) := by omega
 have i1 : (a : Int) < (s.size : Int) := by omega
 have HS := Lib.hid hs
 have HA := Lib.hid ha
 have W0 : IntKind.i64.wrap ((s.size : Int) - (a : Int)) = (s.size : Int) - (a : Int) := wr_small (by omega) (by omega)
 have W1 : IntKind.i64.wrap ((a : Int) + 1) = (a : Int) + 1 := wr_small (by omega) (by omega)
 have j2 : decide (2 ≤ (s.size : Int) - (a : Int)) = false := by simp; omega
 clear hs ha h2
 go_enter Try.func125, Try.ntmps125
 go_upto_region 2 with fail
 have hr0 : Blk ((w.alloc (.cells (setW fun _ => 0) 24)).alloc (.cells (setW fun _ => 0) 24)) w.heap.size (setW fun _ => 0) 24 := (Blk.new w _ _).alloc _
 have hz0 : Blk ((w.alloc (.cells (setW fun _ => 0) 24)).alloc (.cells (setW fun _ => 0) 24)) (w.heap.size + 1) (setW fun _ => 0) 24 := Blk.new' (by simp) _ _
 have hk0 : Keep Nb w ((w.alloc (.cells (setW fun _ => 0) 24)).alloc (.cells (setW fun _ => 0) 24)) := Keep.alloc (Keep.alloc (Keep.refl _ _) _) _
 have hx : (w.alloc (.cells #[.int .u64 0, .int .u64 0, .int .u64 0, .int .u64 0] 24)).alloc (.cells #[.int .u64 0, .int .u64 0, .int .u64 0, .int .u64 0] 24) = (w.alloc (.cells (setW fun _ => 0) 24)).alloc (.cells (setW fun _ => 0) 24) := rfl
 rw [hx]; clear hx
 generalize (w.alloc (.cells (setW fun _ => 0) 24)).alloc (.cells (setW fun _ => 0) 24) = w1 at hr0 hz0 hk0 ⊢
 go_wp2_with fail
 refine (single_e s a w1 HA.out HS.out).mono ?_
 rintro e w2 ⟨⟨c, q, ok, he, hc, hq⟩, kd⟩
 subst he
 have hr2 := hr0.keep kd (fun h => h)
 have hz2 := hz0.keep kd (fun h => h)
 have hk2 := Keep.trans hk0 kd (fun _ _ h => h)
 have HCC := Lib.hid hc
 clear kd hr0 hz0 hk0 hc W0 W1 j2 i1
 cases ok with
 | false =>
  clear hq
  go_wp2_with (first
   | (refine wpList_load_row rfl 24 (.tmp 7) rfl (w.heap.size + 1) rfl 24 _ (0, 0) _ hz2 Try.underlying24 rfl sizeW ?_)
   | (refine wpList_store_row rfl 24 (.tmp 4) (.tmp _) rfl w.heap.size _ rfl rfl 24 _ hr2 sizeW rfl (by simp [setW, Value.oneCell']) ?_))
  exact bodyPost_ret (results_sww Try.results125 _ _ w.heap.size (fun _ => 0) rfl (by exact hr2.setRow _)) rfl ⟨MemberR.no _ _, Keep.setRow hk2 (Or.inl (Nat.le_refl _)) _⟩
 | true =>
 obtain ⟨k, rfl, hk1, hk2'⟩ := hq rfl
 have HK : Hid (a < k ∧ k ≤ s.size) := Lib.hid ⟨hk1, hk2'⟩
 have W0 : IntKind.i64.wrap ((s.size : Int) - (k : Int)) = (s.size : Int) - (k : Int) := wr_small (by have := HS.out; omega) (by have := HS.out; omega)
 have W1 : IntKind.i64.wrap ((k : Int) + 1) = (k : Int) + 1 := wr_small (by have := HS.out; omega) (by have := HS.out; omega)
 clear hq hk1 hk2' i0
 have i0 : (0 : Int) ≤ (k : Int) := by omega
 by_cases h2 : k + 2 ≤ s.size
 rotate_left
 ·have j2 : decide ((s.size : Int) - (k : Int) < 2) = true := by simp; omega
  clear h2
  go_wp2_with (first
   | (refine wpList_load_row rfl 24 (.tmp 7) rfl (w.heap.size + 1) rfl 24 _ (0, 0) _ hz2 Try.underlying24 rfl sizeW ?_)
   | (go_at_call 129; refine (with_z (fun _ => 0) _ _ HCC.out HCC.out _).mono ?_; rintro e w3 ⟨g, rfl, kd⟩; replace hr2 := hr2.keep kd (fun h => h); replace hk2 := Keep.trans hk2 kd (fun _ _ h => h); clear kd)
   | (refine wpList_store_row rfl 24 (.tmp 4) (.tmp _) rfl w.heap.size _ rfl rfl 24 _ hr2 sizeW rfl (by simp [setW, Value.oneCell']) ?_))
  exact bodyPost_ret (results_sww Try.results125 _ _ w.heap.size _ rfl (by exact hr2.setRow (setW g))) rfl ⟨MemberR.yes _ k _ rfl HK.out, Keep.setRow hk2 (Or.inl (Nat.le_refl _)) _⟩
 obtain ⟨d0, b0, e0⟩ := byte_of (show k < s.size by omega)
 obtain ⟨d1, b1, e1⟩ := byte_of (show k + 1 < s.size by omega)
 have i1 : (k : Int) < (s.size : Int) := by omega
 have j0 : (0 : Int) ≤ (k : Int) + 1 := by omega
 have j1 : (k : Int) + 1 < (s.size : Int) := by omega
 have j2 : decide ((s.size : Int) - (k : Int) < 2) = false := by simp; omega
 have j3 : ((k : Int) + 1).toNat = k + 1 := by omega
 have H2 := Lib.hid h2
 clear h2
 by_cases h0 : d0.toNat = 45
 rotate_left
 ·have t0 : ((d0.toNat : Int) == 45) = false := beq_eq_false_iff_ne.2 (by omega)
  have t1 : ((d0.toNat : Int) != 45) = true := by simp; omega
  clear h0
  go_wp2_with (first
   | (refine wpList_load_row rfl 24 (.tmp 7) rfl (w.heap.size + 1) rfl 24 _ (0, 0) _ hz2 Try.underlying24 rfl sizeW ?_)
   | (go_at_call 129; refine (with_z (fun _ => 0) _ _ HCC.out HCC.out _).mono ?_; rintro e w3 ⟨g, rfl, kd⟩; replace hr2 := hr2.keep kd (fun h => h); replace hk2 := Keep.trans hk2 kd (fun _ _ h => h); clear kd)
   | (refine wpList_store_row rfl 24 (.tmp 4) (.tmp _) rfl w.heap.size _ rfl rfl 24 _ hr2 sizeW rfl (by simp [setW, Value.oneCell']) ?_))
  exact bodyPost_ret (results_sww Try.results125 _ _ w.heap.size _ rfl (by exact hr2.setRow (setW g))) rfl ⟨MemberR.yes _ k _ rfl HK.out, Keep.setRow hk2 (Or.inl (Nat.le_refl _)) _⟩
 have t0 : ((d0.toNat : Int) == 45) = true := by simp [h0]
 have t1 : ((d0.toNat : Int) != 45) = false := by simp [h0]
 clear h0
 by_cases h1 : d1.toNat = 93
 ·have t2 : ((d1.toNat : Int) == 93) = true := by simp [h1]
  have t3 : ((d1.toNat : Int) != 93) = false := by simp [h1]
  clear h1
  go_wp2_with (first
   | (refine wpList_load_row rfl 24 (.tmp 7) rfl (w.heap.size + 1) rfl 24 _ (0, 0) _ hz2 Try.underlying24 rfl sizeW ?_)
   | (go_at_call 129; refine (with_z (fun _ => 0) _ _ HCC.out HCC.out _).mono ?_; rintro e w3 ⟨g, rfl, kd⟩; replace hr2 := hr2.keep kd (fun h => h); replace hk2 := Keep.trans hk2 kd (fun _ _ h => h); clear kd)
   | (refine wpList_store_row rfl 24 (.tmp 4) (.tmp _) rfl w.heap.size _ rfl rfl 24 _ hr2 sizeW rfl (by simp [setW, Value.oneCell']) ?_))
  exact bodyPost_ret (results_sww Try.results125 _ _ w.heap.size _ rfl (by exact hr2.setRow (setW g))) rfl ⟨MemberR.yes _ k _ rfl HK.out, Keep.setRow hk2 (Or.inl (Nat.le_refl _)) _⟩
 have t2 : ((d1.toNat : Int) == 93) = false := beq_eq_false_iff_ne.2 (by omega)
 have t3 : ((d1.toNat : Int) != 93) = true := by simp; omega
 clear h1
 go_wp2_with fail
 refine (single_e s (k + 1) w2 (by have := H2.out; omega) HS.out).mono ?_
 rintro e w3 ⟨⟨c2, q2, ok2, he, hc2, hq2⟩, kd⟩
 subst he
 have hr3 := hr2.keep kd (fun h => h)
 have hz3 := hz2.keep kd (fun h => h)
 have hk3 := Keep.trans hk2 kd (fun _ _ h => h)
 have HC2 := Lib.hid hc2
 have HQ2 := Lib.hid hq2
 clear kd hr2 hz2 hk2 hc2 hq2
 go_upto_region 20 with fail
 go_cut [210] (fun y wx => ∃ β : Bool, y = .bool β ∧ Hid (β = false → ok2 = true) ∧ wx = w3)
 case first =>
  cases ok2 with
  | false =>
   clear HQ2
   go_wp2_with fail
   go_meet
   exact ⟨true, rfl, Lib.hid (by simp), rfl⟩
  | true =>
   obtain ⟨k2, rfl, hk1, hk2'⟩ := HQ2.out rfl
   clear HQ2 hk1
   refine r20_any s k k2 c c2 HS.out H2.out hk2' _ _ _ _ _ _ _ _ _ _ _ _ _ _ _ _ _ _ _ _ _ _ _ _ _ _ _ _ _ _ _ _ _ _ _ _ _ _ _ _ _ _ _ _ _ _ _ _ _ _ _ _ _ _ _ _ _ _ _ _ _ _ _ _ _ _ _ _ _ _ _ _ _ _ _ _ _ _ _ _ _ _ _ _ _ _ _ _ _ _ _ _ _ _ _ _ _ _ _ _ _ _ _ _ _ _ _ _ _ _ _ _ _ _ _ _ _ _ _ _ _ _ _ _ _ _ _ _ _ _ _ _ _ _ _ _ _ _ _ _ _ _ _ _ _ _ _ _ _ _ _ _ _ _ _ _ _ _ _ _ _ _ _ _ _ _ _ _ _ _ _ _ _ _ _ _ _ _ _ _ _ _ _ _ _ _ _ _ _ _ _ _ _ _ _ _ _ _ _ _ _ _ _ _ _ _ _ _ _ _ _ _ _ _ ?_
   intro β v156 v157 v158 v159 v160 v161 v162 v163 v164 v165 v166 v167 v168 v169 v170 v171 v172 v173 v174 v175 v176 v177 v178 v179 v180 v181 v182 v183 v184 v185 v186 v187 v188 v189 v190 v191 v192 v193 v194 v195 v196 v197 v198 v199 v200 v201 v202 v203 v204 v205 v206 v207 v208 v209
   go_wp2_with fail
   go_meet
   exact ⟨β, rfl, Lib.hid (fun _ => rfl), rfl⟩
 case rest =>
 obtain ⟨β, rfl, HB, rfl⟩ := hcut
 cases β with
 | true =>
  clear HB HQ2
  go_wp2_with (first
   | (refine wpList_load_row rfl 24 (.tmp 7) rfl (w.heap.size + 1) rfl 24 _ (0, 0) _ hz3 Try.underlying24 rfl sizeW ?_)
   | (refine wpList_store_row rfl 24 (.tmp 4) (.tmp _) rfl w.heap.size _ rfl rfl 24 _ hr3 sizeW rfl (by simp [setW, Value.oneCell']) ?_))
  exact bodyPost_ret (results_sww Try.results125 _ _ w.heap.size (fun _ => 0) rfl (by exact hr3.setRow _)) rfl ⟨MemberR.no _ _, Keep.setRow hk3 (Or.inl (Nat.le_refl _)) _⟩
 | false =>
  obtain rfl := HB.out rfl
  obtain ⟨k2, rfl, hk1, hk2'⟩ := HQ2.out rfl
  have HK2 : Hid (a < k2 ∧ k2 ≤ s.size) := Lib.hid ⟨by have := HK.out; omega, hk2'⟩
  clear HB HQ2 hk1 hk2'
  go_wp2_with (first
   | (refine wpList_load_row rfl 24 (.tmp 7) rfl (w.heap.size + 1) rfl 24 _ (0, 0) _ hz3 Try.underlying24 rfl sizeW ?_)
   | (go_at_call 129; refine (with_z (fun _ => 0) _ _ HCC.out HC2.out _).mono ?_; rintro e w4 ⟨g, rfl, kd⟩; replace hr3 := hr3.keep kd (fun h => h); replace hk3 := Keep.trans hk3 kd (fun _ _ h => h); clear kd)
   | (refine wpList_store_row rfl 24 (.tmp 4) (.tmp _) rfl w.heap.size _ rfl rfl 24 _ hr3 sizeW rfl (by simp [setW, Value.oneCell']) ?_))
  exact bodyPost_ret (results_sww Try.results125 _ _ w.heap.size _ rfl (by exact hr3.setRow (setW g))) rfl ⟨MemberR.yes _ k2 _ rfl HK2.out, Keep.setRow hk3 (Or.inl (Nat.le_refl _)) _⟩
set_option maxRecDepth 100000 in
set_option maxHeartbeats 8000000 in
theorem member_3b (s : ByteArray) (a : Nat) (w : World) (ha : a < s.size) (hs : s.size ≤ 600) (h2 : a + 2 ≤ s.size) (d0 : UInt8) (b0 : a < s.size) (e0 : s[a] = d0) (h0 : d0.toNat ≠ 91) :
  Calls Try.prog 125 #[.string s, .int .i64 (a : Int)] w fun e w' => MemberR s a e ∧ Keep Nb w w' := by
 have i0 : (0 : Int) ≤ (a : Int) := by omega
 have i1 : (a : Int) < (s.size : Int) := by omega
 have HS := Lib.hid hs
 have HA := Lib.hid ha
 have W0 : IntKind.i64.wrap ((s.size : Int) - (a : Int)) = (s.size : Int) - (a : Int) := wr_small (by omega) (by omega)
 have W1 : IntKind.i64.wrap ((a : Int) + 1) = (a : Int) + 1 := wr_small (by omega) (by omega)
 have j2 : decide (2 ≤ (s.size : Int) - (a : Int)) = true := by simp; omega
 have m0 : ((d0.toNat : Int) == 91) = false := beq_eq_false_iff_ne.2 (by omega)
 clear hs ha h2 h0
 go_enter Try.func125, Try.ntmps125
 go_upto_region 2 with fail
 have hr0 : Blk ((w.alloc (.cells (setW fun _ => 0) 24)).alloc (.cells (setW fun _ => 0) 24)) w.heap.size (setW fun _ => 0) 24 := (Blk.new w _ _).alloc _
 have hz0 : Blk ((w.alloc (.cells (setW fun _ => 0) 24)).alloc (.cells (setW fun _ => 0) 24)) (w.heap.size + 1) (setW fun _ => 0) 24 := Blk.new' (by simp) _ _
 have hk0 : Keep Nb w ((w.alloc (.cells (setW fun _ => 0) 24)).alloc (.cells (setW fun _ => 0) 24)) := Keep.alloc (Keep.alloc (Keep.refl _ _) _) _
 have hx : (w.alloc (.cells #[.int .u64 0, .int .u64 0, .int .u64 0, .int .u64 0] 24)).alloc (.cells #[.int .u64 0, .int .u64 0, .int .u64 0, .int .u64 0] 24) = (w.alloc (.cells (setW fun _ => 0) 24)).alloc (.cells (setW fun _ => 0) 24) := rfl
 rw [hx]; clear hx
 generalize (w.alloc (.cells (setW fun _ => 0) 24)).alloc (.cells (setW fun _ => 0) 24) = w1 at hr0 hz0 hk0 ⊢
 go_wp2_with fail
 refine (single_e s a w1 HA.out HS.out).mono ?_
 rintro e w2 ⟨⟨c, q, ok, he, hc, hq⟩, kd⟩
 subst he
 have hr2 := hr0.keep kd (fun h => h)
 have hz2 := hz0.keep kd (fun h => h)
 have hk2 := Keep.trans hk0 kd (fun _ _ h => h)
 have HCC := Lib.hid hc
 clear kd hr0 hz0 hk0 hc W0 W1 j2 i1 b0 e0 m0
 cases ok with
 | false =>
  clear hq
  go_wp2_with (first
   | (refine wpList_load_row rfl 24 (.tmp 7) rfl (w.heap.size + 1) rfl 24 _ (0, 0) _ hz2 Try.underlying24 rfl sizeW ?_)
   | (refine wpList_store_row rfl 24 (.tmp 4) (.tmp _) rfl w.heap.size _ rfl rfl 24 _ hr2 sizeW rfl (by simp [setW, Value.oneCell']) ?_))
  exact bodyPost_ret (results_sww Try.results125 _ _ w.heap.size (fun _ => 0) rfl (by exact hr2.setRow _)) rfl ⟨MemberR.no _ _, Keep.setRow hk2 (Or.inl (Nat.le_refl _)) _⟩
 | true =>
 obtain ⟨k, rfl, hk1, hk2'⟩ := hq rfl
 have HK : Hid (a < k ∧ k ≤ s.size) := Lib.hid ⟨hk1, hk2'⟩
 have W0 : IntKind.i64.wrap ((s.size : Int) - (k : Int)) = (s.size : Int) - (k : Int) := wr_small (by have := HS.out; omega) (by have := HS.out; omega)
 have W1 : IntKind.i64.wrap ((k : Int) + 1) = (k : Int) + 1 := wr_small (by have := HS.out; omega) (by have := HS.out; omega)
 clear hq hk1 hk2' i0
 have i0 : (0 : Int) ≤ (k : Int) := by omega
 by_cases h2 : k + 2 ≤ s.size
 rotate_left
 ·have j2 : decide ((s.size : Int) - (k : Int) < 2) = true := by simp; omega
  clear h2
  go_wp2_with (first
   | (refine wpList_load_row rfl 24 (.tmp 7) rfl (w.heap.size + 1) rfl 24 _ (0, 0) _ hz2 Try.underlying24 rfl sizeW ?_)
   | (go_at_call 129; refine (with_z (fun _ => 0) _ _ HCC.out HCC.out _).mono ?_; rintro e w3 ⟨g, rfl, kd⟩; replace hr2 := hr2.keep kd (fun h => h); replace hk2 := Keep.trans hk2 kd (fun _ _ h => h); clear kd)
   | (refine wpList_store_row rfl 24 (.tmp 4) (.tmp _) rfl w.heap.size _ rfl rfl 24 _ hr2 sizeW rfl (by simp [setW, Value.oneCell']) ?_))
  exact bodyPost_ret (results_sww Try.results125 _ _ w.heap.size _ rfl (by exact hr2.setRow (setW g))) rfl ⟨MemberR.yes _ k _ rfl HK.out, Keep.setRow hk2 (Or.inl (Nat.le_refl _)) _⟩
 obtain ⟨d0, b0, e0⟩ := byte_of (show k < s.size by omega)
 obtain ⟨d1, b1, e1⟩ := byte_of (show k + 1 < s.size by omega)
 have i1 : (k : Int) < (s.size : Int) := by omega
 have j0 : (0 : Int) ≤ (k : Int) + 1 := by omega
 have j1 : (k : Int) + 1 < (s.size : Int) := by omega
 have j2 : decide ((s.size : Int) - (k : Int) < 2) = false := by simp; omega
 have j3 : ((k : Int) + 1).toNat = k + 1 := by omega
 have H2 := Lib.hid h2
 clear h2
 by_cases h0 : d0.toNat = 45
 rotate_left
 ·have t0 : ((d0.toNat : Int) == 45) = false := beq_eq_false_iff_ne.2 (by omega)
  have t1 : ((d0.toNat : Int) != 45) = true := by simp; omega
  clear h0
  go_wp2_with (first
   | (refine wpList_load_row rfl 24 (.tmp 7) rfl (w.heap.size + 1) rfl 24 _ (0, 0) _ hz2 Try.underlying24 rfl sizeW ?_)
   | (go_at_call 129; refine (with_z (fun _ => 0) _ _ HCC.out HCC.out _).mono ?_; rintro e w3 ⟨g, rfl, kd⟩; replace hr2 := hr2.keep kd (fun h => h); replace hk2 := Keep.trans hk2 kd (fun _ _ h => h); clear kd)
   | (refine wpList_store_row rfl 24 (.tmp 4) (.tmp _) rfl w.heap.size _ rfl rfl 24 _ hr2 sizeW rfl (by simp [setW, Value.oneCell']) ?_))
  exact bodyPost_ret (results_sww Try.results125 _ _ w.heap.size _ rfl (by exact hr2.setRow (setW g))) rfl ⟨MemberR.yes _ k _ rfl HK.out, Keep.setRow hk2 (Or.inl (Nat.le_refl _)) _⟩
 have t0 : ((d0.toNat : Int) == 45) = true := by simp [h0]
 have t1 : ((d0.toNat : Int) != 45) = false := by simp [h0]
 clear h0
 by_cases h1 : d1.toNat = 93
 ·have t2 : ((d1.toNat : Int) == 93) = true := by simp [h1]
  have t3 : ((d1.toNat : Int) != 93) = false := by simp [h1]
  clear h1
  go_wp2_with (first
   | (refine wpList_load_row rfl 24 (.tmp 7) rfl (w.heap.size + 1) rfl 24 _ (0, 0) _ hz2 Try.underlying24 rfl sizeW ?_)
   | (go_at_call 129; refine (with_z (fun _ => 0) _ _ HCC.out HCC.out _).mono ?_; rintro e w3 ⟨g, rfl, kd⟩; replace hr2 := hr2.keep kd (fun h => h); replace hk2 := Keep.trans hk2 kd (fun _ _ h => h); clear kd)
   | (refine wpList_store_row rfl 24 (.tmp 4) (.tmp _) rfl w.heap.size _ rfl rfl 24 _ hr2 sizeW rfl (by simp [setW, Value.oneCell']) ?_))
  exact bodyPost_ret (results_sww Try.results125 _ _ w.heap.size _ rfl (by exact hr2.setRow (setW g))) rfl ⟨MemberR.yes _ k _ rfl HK.out, Keep.setRow hk2 (Or.inl (Nat.le_refl _)) _⟩
 have t2 : ((d1.toNat : Int) == 93) = false := beq_eq_false_iff_ne.2 (by omega)
 have t3 : ((d1.toNat : Int) != 93) = true := by simp; omega
 clear h1
 go_wp2_with fail
 refine (single_e s (k + 1) w2 (by have := H2.out; omega) HS.out).mono ?_
 rintro e w3 ⟨⟨c2, q2, ok2, he, hc2, hq2⟩, kd⟩
 subst he
 have hr3 := hr2.keep kd (fun h => h)
 have hz3 := hz2.keep kd (fun h => h)
 have hk3 := Keep.trans hk2 kd (fun _ _ h => h)
 have HC2 := Lib.hid hc2
 have HQ2 := Lib.hid hq2
 clear kd hr2 hz2 hk2 hc2 hq2
 go_upto_region 20 with fail
 go_cut [210] (fun y wx => ∃ β : Bool, y = .bool β ∧ Hid (β = false → ok2 = true) ∧ wx = w3)
 case first =>
  cases ok2 with
  | false =>
   clear HQ2
   go_wp2_with fail
   go_meet
   exact ⟨true, rfl, Lib.hid (by simp), rfl⟩
  | true =>
   obtain ⟨k2, rfl, hk1, hk2'⟩ := HQ2.out rfl
   clear HQ2 hk1
   refine r20_any s k k2 c c2 HS.out H2.out hk2' _ _ _ _ _ _ _ _ _ _ _ _ _ _ _ _ _ _ _ _ _ _ _ _ _ _ _ _ _ _ _ _ _ _ _ _ _ _ _ _ _ _ _ _ _ _ _ _ _ _ _ _ _ _ _ _ _ _ _ _ _ _ _ _ _ _ _ _ _ _ _ _ _ _ _ _ _ _ _ _ _ _ _ _ _ _ _ _ _ _ _ _ _ _ _ _ _ _ _ _ _ _ _ _ _ _ _ _ _ _ _ _ _ _ _ _ _ _ _ _ _ _ _ _ _ _ _ _ _ _ _ _ _ _ _ _ _ _ _ _ _ _ _ _ _ _ _ _ _ _ _ _ _ _ _ _ _ _ _ _ _ _ _ _ _ _ _ _ _ _ _ _ _ _ _ _ _ _ _ _ _ _ _ _ _ _ _ _ _ _ _ _ _ _ _ _ _ _ _ _ _ _ _ _ _ _ _ _ _ _ _ _ _ _ ?_
   intro β v156 v157 v158 v159 v160 v161 v162 v163 v164 v165 v166 v167 v168 v169 v170 v171 v172 v173 v174 v175 v176 v177 v178 v179 v180 v181 v182 v183 v184 v185 v186 v187 v188 v189 v190 v191 v192 v193 v194 v195 v196 v197 v198 v199 v200 v201 v202 v203 v204 v205 v206 v207 v208 v209
   go_wp2_with fail
   go_meet
   exact ⟨β, rfl, Lib.hid (fun _ => rfl), rfl⟩
 case rest =>
 obtain ⟨β, rfl, HB, rfl⟩ := hcut
 cases β with
 | true =>
  clear HB HQ2
  go_wp2_with (first
   | (refine wpList_load_row rfl 24 (.tmp 7) rfl (w.heap.size + 1) rfl 24 _ (0, 0) _ hz3 Try.underlying24 rfl sizeW ?_)
   | (refine wpList_store_row rfl 24 (.tmp 4) (.tmp _) rfl w.heap.size _ rfl rfl 24 _ hr3 sizeW rfl (by simp [setW, Value.oneCell']) ?_))
  exact bodyPost_ret (results_sww Try.results125 _ _ w.heap.size (fun _ => 0) rfl (by exact hr3.setRow _)) rfl ⟨MemberR.no _ _, Keep.setRow hk3 (Or.inl (Nat.le_refl _)) _⟩
 | false =>
  obtain rfl := HB.out rfl
  obtain ⟨k2, rfl, hk1, hk2'⟩ := HQ2.out rfl
  have HK2 : Hid (a < k2 ∧ k2 ≤ s.size) := Lib.hid ⟨by have := HK.out; omega, hk2'⟩
  clear HB HQ2 hk1 hk2'
  go_wp2_with (first
   | (refine wpList_load_row rfl 24 (.tmp 7) rfl (w.heap.size + 1) rfl 24 _ (0, 0) _ hz3 Try.underlying24 rfl sizeW ?_)
   | (go_at_call 129; refine (with_z (fun _ => 0) _ _ HCC.out HC2.out _).mono ?_; rintro e w4 ⟨g, rfl, kd⟩; replace hr3 := hr3.keep kd (fun h => h); replace hk3 := Keep.trans hk3 kd (fun _ _ h => h); clear kd)
   | (refine wpList_store_row rfl 24 (.tmp 4) (.tmp _) rfl w.heap.size _ rfl rfl 24 _ hr3 sizeW rfl (by simp [setW, Value.oneCell']) ?_))
  exact bodyPost_ret (results_sww Try.results125 _ _ w.heap.size _ rfl (by exact hr3.setRow (setW g))) rfl ⟨MemberR.yes _ k2 _ rfl HK2.out, Keep.setRow hk3 (Or.inl (Nat.le_refl _)) _⟩
set_option maxRecDepth 100000 in
set_option maxHeartbeats 8000000 in
theorem member_3c (s : ByteArray) (a : Nat) (w : World) (ha : a < s.size) (hs : s.size ≤ 600) (h2 : a + 2 ≤ s.size) (d0 d1 : UInt8) (b0 : a < s.size) (e0 : s[a] = d0) (b1 : a + 1 < s.size) (e1 : s[a + 1] = d1) (h0 : d0.toNat = 91) (h1 : d1.toNat ≠ 61) (h3 : d1.toNat ≠ 58) :
  Calls Try.prog 125 #[.string s, .int .i64 (a : Int)] w fun e w' => MemberR s a e ∧ Keep Nb w w' := by
 have i0 : (0 : Int) ≤ (a : Int) := by omega
 have i1 : (a : Int) < (s.size : Int) := by omega
 have HS := Lib.hid hs
 have HA := Lib.hid ha
 have W0 : IntKind.i64.wrap ((s.size : Int) - (a : Int)) = (s.size : Int) - (a : Int) := wr_small (by omega) (by omega)
 have W1 : IntKind.i64.wrap ((a : Int) + 1) = (a : Int) + 1 := wr_small (by omega) (by omega)
 have j0 : (0 : Int) ≤ (a : Int) + 1 := by omega
 have j1 : (a : Int) + 1 < (s.size : Int) := by omega
 have j2 : decide (2 ≤ (s.size : Int) - (a : Int)) = true := by simp; omega
 have j3 : ((a : Int) + 1).toNat = a + 1 := by omega
 have m0 : ((d0.toNat : Int) == 91) = true := by simp [h0]
 have m1 : ((d1.toNat : Int) == 61) = false := beq_eq_false_iff_ne.2 (by omega)
 have m2 : ((d1.toNat : Int) == 58) = false := beq_eq_false_iff_ne.2 (by omega)
 clear hs ha h2 h0 h1 h3
 go_enter Try.func125, Try.ntmps125
 go_upto_region 2 with fail
 have hr0 : Blk ((w.alloc (.cells (setW fun _ => 0) 24)).alloc (.cells (setW fun _ => 0) 24)) w.heap.size (setW fun _ => 0) 24 := (Blk.new w _ _).alloc _
 have hz0 : Blk ((w.alloc (.cells (setW fun _ => 0) 24)).alloc (.cells (setW fun _ => 0) 24)) (w.heap.size + 1) (setW fun _ => 0) 24 := Blk.new' (by simp) _ _
 have hk0 : Keep Nb w ((w.alloc (.cells (setW fun _ => 0) 24)).alloc (.cells (setW fun _ => 0) 24)) := Keep.alloc (Keep.alloc (Keep.refl _ _) _) _
 have hx : (w.alloc (.cells #[.int .u64 0, .int .u64 0, .int .u64 0, .int .u64 0] 24)).alloc (.cells #[.int .u64 0, .int .u64 0, .int .u64 0, .int .u64 0] 24) = (w.alloc (.cells (setW fun _ => 0) 24)).alloc (.cells (setW fun _ => 0) 24) := rfl
 rw [hx]; clear hx
 generalize (w.alloc (.cells (setW fun _ => 0) 24)).alloc (.cells (setW fun _ => 0) 24) = w1 at hr0 hz0 hk0 ⊢
 go_wp2_with fail
 refine (single_e s a w1 HA.out HS.out).mono ?_
 rintro e w2 ⟨⟨c, q, ok, he, hc, hq⟩, kd⟩
 subst he
 have hr2 := hr0.keep kd (fun h => h)
 have hz2 := hz0.keep kd (fun h => h)
 have hk2 := Keep.trans hk0 kd (fun _ _ h => h)
 have HCC := Lib.hid hc
 clear kd hr0 hz0 hk0 hc W0 W1 j0 j1 j2 j3 i1 b0 e0 b1 e1 m0 m1 m2
 cases ok with
 | false =>
  clear hq
  go_wp2_with (first
   | (refine wpList_load_row rfl 24 (.tmp 7) rfl (w.heap.size + 1) rfl 24 _ (0, 0) _ hz2 Try.underlying24 rfl sizeW ?_)
   | (refine wpList_store_row rfl 24 (.tmp 4) (.tmp _) rfl w.heap.size _ rfl rfl 24 _ hr2 sizeW rfl (by simp [setW, Value.oneCell']) ?_))
  exact bodyPost_ret (results_sww Try.results125 _ _ w.heap.size (fun _ => 0) rfl (by exact hr2.setRow _)) rfl ⟨MemberR.no _ _, Keep.setRow hk2 (Or.inl (Nat.le_refl _)) _⟩
 | true =>
 obtain ⟨k, rfl, hk1, hk2'⟩ := hq rfl
 have HK : Hid (a < k ∧ k ≤ s.size) := Lib.hid ⟨hk1, hk2'⟩
 have W0 : IntKind.i64.wrap ((s.size : Int) - (k : Int)) = (s.size : Int) - (k : Int) := wr_small (by have := HS.out; omega) (by have := HS.out; omega)
 have W1 : IntKind.i64.wrap ((k : Int) + 1) = (k : Int) + 1 := wr_small (by have := HS.out; omega) (by have := HS.out; omega)
 clear hq hk1 hk2' i0
 have i0 : (0 : Int) ≤ (k : Int) := by omega
 by_cases h2 : k + 2 ≤ s.size
 rotate_left
 ·have j2 : decide ((s.size : Int) - (k : Int) < 2) = true := by simp; omega
  clear h2
  go_wp2_with (first
   | (refine wpList_load_row rfl 24 (.tmp 7) rfl (w.heap.size + 1) rfl 24 _ (0, 0) _ hz2 Try.underlying24 rfl sizeW ?_)
   | (go_at_call 129; refine (with_z (fun _ => 0) _ _ HCC.out HCC.out _).mono ?_; rintro e w3 ⟨g, rfl, kd⟩; replace hr2 := hr2.keep kd (fun h => h); replace hk2 := Keep.trans hk2 kd (fun _ _ h => h); clear kd)
   | (refine wpList_store_row rfl 24 (.tmp 4) (.tmp _) rfl w.heap.size _ rfl rfl 24 _ hr2 sizeW rfl (by simp [setW, Value.oneCell']) ?_))
  exact bodyPost_ret (results_sww Try.results125 _ _ w.heap.size _ rfl (by exact hr2.setRow (setW g))) rfl ⟨MemberR.yes _ k _ rfl HK.out, Keep.setRow hk2 (Or.inl (Nat.le_refl _)) _⟩
 obtain ⟨d0, b0, e0⟩ := byte_of (show k < s.size by omega)
 obtain ⟨d1, b1, e1⟩ := byte_of (show k + 1 < s.size by omega)
 have i1 : (k : Int) < (s.size : Int) := by omega
 have j0 : (0 : Int) ≤ (k : Int) + 1 := by omega
 have j1 : (k : Int) + 1 < (s.size : Int) := by omega
 have j2 : decide ((s.size : Int) - (k : Int) < 2) = false := by simp; omega
 have j3 : ((k : Int) + 1).toNat = k + 1 := by omega
 have H2 := Lib.hid h2
 clear h2
 by_cases h0 : d0.toNat = 45
 rotate_left
 ·have t0 : ((d0.toNat : Int) == 45) = false := beq_eq_false_iff_ne.2 (by omega)
  have t1 : ((d0.toNat : Int) != 45) = true := by simp; omega
  clear h0
  go_wp2_with (first
   | (refine wpList_load_row rfl 24 (.tmp 7) rfl (w.heap.size + 1) rfl 24 _ (0, 0) _ hz2 Try.underlying24 rfl sizeW ?_)
   | (go_at_call 129; refine (with_z (fun _ => 0) _ _ HCC.out HCC.out _).mono ?_; rintro e w3 ⟨g, rfl, kd⟩; replace hr2 := hr2.keep kd (fun h => h); replace hk2 := Keep.trans hk2 kd (fun _ _ h => h); clear kd)
   | (refine wpList_store_row rfl 24 (.tmp 4) (.tmp _) rfl w.heap.size _ rfl rfl 24 _ hr2 sizeW rfl (by simp [setW, Value.oneCell']) ?_))
  exact bodyPost_ret (results_sww Try.results125 _ _ w.heap.size _ rfl (by exact hr2.setRow (setW g))) rfl ⟨MemberR.yes _ k _ rfl HK.out, Keep.setRow hk2 (Or.inl (Nat.le_refl _)) _⟩
 have t0 : ((d0.toNat : Int) == 45) = true := by simp [h0]
 have t1 : ((d0.toNat : Int) != 45) = false := by simp [h0]
 clear h0
 by_cases h1 : d1.toNat = 93
 ·have t2 : ((d1.toNat : Int) == 93) = true := by simp [h1]
  have t3 : ((d1.toNat : Int) != 93) = false := by simp [h1]
  clear h1
  go_wp2_with (first
   | (refine wpList_load_row rfl 24 (.tmp 7) rfl (w.heap.size + 1) rfl 24 _ (0, 0) _ hz2 Try.underlying24 rfl sizeW ?_)
   | (go_at_call 129; refine (with_z (fun _ => 0) _ _ HCC.out HCC.out _).mono ?_; rintro e w3 ⟨g, rfl, kd⟩; replace hr2 := hr2.keep kd (fun h => h); replace hk2 := Keep.trans hk2 kd (fun _ _ h => h); clear kd)
   | (refine wpList_store_row rfl 24 (.tmp 4) (.tmp _) rfl w.heap.size _ rfl rfl 24 _ hr2 sizeW rfl (by simp [setW, Value.oneCell']) ?_))
  exact bodyPost_ret (results_sww Try.results125 _ _ w.heap.size _ rfl (by exact hr2.setRow (setW g))) rfl ⟨MemberR.yes _ k _ rfl HK.out, Keep.setRow hk2 (Or.inl (Nat.le_refl _)) _⟩
 have t2 : ((d1.toNat : Int) == 93) = false := beq_eq_false_iff_ne.2 (by omega)
 have t3 : ((d1.toNat : Int) != 93) = true := by simp; omega
 clear h1
 go_wp2_with fail
 refine (single_e s (k + 1) w2 (by have := H2.out; omega) HS.out).mono ?_
 rintro e w3 ⟨⟨c2, q2, ok2, he, hc2, hq2⟩, kd⟩
 subst he
 have hr3 := hr2.keep kd (fun h => h)
 have hz3 := hz2.keep kd (fun h => h)
 have hk3 := Keep.trans hk2 kd (fun _ _ h => h)
 have HC2 := Lib.hid hc2
 have HQ2 := Lib.hid hq2
 clear kd hr2 hz2 hk2 hc2 hq2
 go_upto_region 20 with fail
 go_cut [210] (fun y wx => ∃ β : Bool, y = .bool β ∧ Hid (β = false → ok2 = true) ∧ wx = w3)
 case first =>
  cases ok2 with
  | false =>
   clear HQ2
   go_wp2_with fail
   go_meet
   exact ⟨true, rfl, Lib.hid (by simp), rfl⟩
  | true =>
   obtain ⟨k2, rfl, hk1, hk2'⟩ := HQ2.out rfl
   clear HQ2 hk1
   refine r20_any s k k2 c c2 HS.out H2.out hk2' _ _ _ _ _ _ _ _ _ _ _ _ _ _ _ _ _ _ _ _ _ _ _ _ _ _ _ _ _ _ _ _ _ _ _ _ _ _ _ _ _ _ _ _ _ _ _ _ _ _ _ _ _ _ _ _ _ _ _ _ _ _ _ _ _ _ _ _ _ _ _ _ _ _ _ _ _ _ _ _ _ _ _ _ _ _ _ _ _ _ _ _ _ _ _ _ _ _ _ _ _ _ _ _ _ _ _ _ _ _ _ _ _ _ _ _ _ _ _ _ _ _ _ _ _ _ _ _ _ _ _ _ _ _ _ _ _ _ _ _ _ _ _ _ _ _ _ _ _ _ _ _ _ _ _ _ _ _ _ _ _ _ _ _ _ _ _ _ _ _ _ _ _ _ _ _ _ _ _ _ _ _ _ _ _ _ _ _ _ _ _ _ _ _ _ _ _ _ _ _ _ _ _ _ _ _ _ _ _ _ _ _ _ _ ?_
   intro β v156 v157 v158 v159 v160 v161 v162 v163 v164 v165 v166 v167 v168 v169 v170 v171 v172 v173 v174 v175 v176 v177 v178 v179 v180 v181 v182 v183 v184 v185 v186 v187 v188 v189 v190 v191 v192 v193 v194 v195 v196 v197 v198 v199 v200 v201 v202 v203 v204 v205 v206 v207 v208 v209
   go_wp2_with fail
   go_meet
   exact ⟨β, rfl, Lib.hid (fun _ => rfl), rfl⟩
 case rest =>
 obtain ⟨β, rfl, HB, rfl⟩ := hcut
 cases β with
 | true =>
  clear HB HQ2
  go_wp2_with (first
   | (refine wpList_load_row rfl 24 (.tmp 7) rfl (w.heap.size + 1) rfl 24 _ (0, 0) _ hz3 Try.underlying24 rfl sizeW ?_)
   | (refine wpList_store_row rfl 24 (.tmp 4) (.tmp _) rfl w.heap.size _ rfl rfl 24 _ hr3 sizeW rfl (by simp [setW, Value.oneCell']) ?_))
  exact bodyPost_ret (results_sww Try.results125 _ _ w.heap.size (fun _ => 0) rfl (by exact hr3.setRow _)) rfl ⟨MemberR.no _ _, Keep.setRow hk3 (Or.inl (Nat.le_refl _)) _⟩
 | false =>
  obtain rfl := HB.out rfl
  obtain ⟨k2, rfl, hk1, hk2'⟩ := HQ2.out rfl
  have HK2 : Hid (a < k2 ∧ k2 ≤ s.size) := Lib.hid ⟨by have := HK.out; omega, hk2'⟩
  clear HB HQ2 hk1 hk2'
  go_wp2_with (first
   | (refine wpList_load_row rfl 24 (.tmp 7) rfl (w.heap.size + 1) rfl 24 _ (0, 0) _ hz3 Try.underlying24 rfl sizeW ?_)
   | (go_at_call 129; refine (with_z (fun _ => 0) _ _ HCC.out HC2.out _).mono ?_; rintro e w4 ⟨g, rfl, kd⟩; replace hr3 := hr3.keep kd (fun h => h); replace hk3 := Keep.trans hk3 kd (fun _ _ h => h); clear kd)
   | (refine wpList_store_row rfl 24 (.tmp 4) (.tmp _) rfl w.heap.size _ rfl rfl 24 _ hr3 sizeW rfl (by simp [setW, Value.oneCell']) ?_))
  exact bodyPost_ret (results_sww Try.results125 _ _ w.heap.size _ rfl (by exact hr3.setRow (setW g))) rfl ⟨MemberR.yes _ k2 _ rfl HK2.out, Keep.setRow hk3 (Or.inl (Nat.le_refl _)) _⟩
set_option maxRecDepth 100000 in
set_option maxHeartbeats 8000000 in
theorem member_1 (s : ByteArray) (a : Nat) (w : World) (ha : a < s.size) (hs : s.size ≤ 600) (h2 : a + 2 ≤ s.size) (d0 d1 : UInt8) (b0 : a < s.size) (e0 : s[a] = d0) (b1 : a + 1 < s.size) (e1 : s[a + 1] = d1) (h0 : d0.toNat = 91) (h1 : d1.toNat = 61) :
  Calls Try.prog 125 #[.string s, .int .i64 (a : Int)] w fun e w' => MemberR s a e ∧ Keep Nb w w' := by
 have v0 : d0.toNat < 256 := d0.toNat_lt
 have i0 : (0 : Int) ≤ (a : Int) := by omega
 have i1 : (a : Int) < (s.size : Int) := by omega
 have HS := Lib.hid hs
 have HA := Lib.hid ha
 have W0 : IntKind.i64.wrap ((s.size : Int) - (a : Int)) = (s.size : Int) - (a : Int) := wr_small (by omega) (by omega)
 have W1 : IntKind.i64.wrap ((a : Int) + 1) = (a : Int) + 1 := wr_small (by omega) (by omega)
 have W2 : IntKind.i64.wrap ((a : Int) + 2) = (a : Int) + 2 := wr_small (by omega) (by omega)
 have W3 : IntKind.i64.wrap ((a : Int) + 3) = (a : Int) + 3 := wr_small (by omega) (by omega)
 have W5 : IntKind.i64.wrap ((a : Int) + 5) = (a : Int) + 5 := wr_small (by omega) (by omega)
 have j0 : (0 : Int) ≤ (a : Int) + 1 := by omega
 have j1 : (a : Int) + 1 < (s.size : Int) := by omega
 have j2 : decide (2 ≤ (s.size : Int) - (a : Int)) = true := by simp; omega
 have j3 : ((a : Int) + 1).toNat = a + 1 := by omega
 have m0 : ((d0.toNat : Int) == 91) = true := by simp [h0]
 have m1 : ((d1.toNat : Int) == 61) = true := by simp [h1]
 have H2 := Lib.hid h2
 clear h0 h1 h2
 clear hs ha
 go_enter Try.func125, Try.ntmps125
 go_upto_region 2 with fail
 have hr0 : Blk ((w.alloc (.cells (setW fun _ => 0) 24)).alloc (.cells (setW fun _ => 0) 24)) w.heap.size (setW fun _ => 0) 24 := (Blk.new w _ _).alloc _
 have hz0 : Blk ((w.alloc (.cells (setW fun _ => 0) 24)).alloc (.cells (setW fun _ => 0) 24)) (w.heap.size + 1) (setW fun _ => 0) 24 := Blk.new' (by simp) _ _
 have hk0 : Keep Nb w ((w.alloc (.cells (setW fun _ => 0) 24)).alloc (.cells (setW fun _ => 0) 24)) := Keep.alloc (Keep.alloc (Keep.refl _ _) _) _
 have hx : (w.alloc (.cells #[.int .u64 0, .int .u64 0, .int .u64 0, .int .u64 0] 24)).alloc (.cells #[.int .u64 0, .int .u64 0, .int .u64 0, .int .u64 0] 24) = (w.alloc (.cells (setW fun _ => 0) 24)).alloc (.cells (setW fun _ => 0) 24) := rfl
 rw [hx]; clear hx
 generalize (w.alloc (.cells (setW fun _ => 0) 24)).alloc (.cells (setW fun _ => 0) 24) = w1 at hr0 hz0 hk0 ⊢
 by_cases h5 : a + 5 ≤ s.size
 ·obtain ⟨d2, b2, e2⟩ := byte_of (show a + 2 < s.size by omega)
  have v2 : d2.toNat < 256 := d2.toNat_lt
  have k0 : (0 : Int) ≤ (a : Int) + 2 := by omega
  have k1 : (a : Int) + 2 < (s.size : Int) := by omega
  have k2 : decide ((s.size : Int) - (a : Int) < 5) = false := by simp; omega
  have k3 : ((a : Int) + 2).toNat = a + 2 := by omega
  have k4 : (0 : Int) ≤ (a : Int) + 3 := by omega
  have k5 : (a : Int) + 3 ≤ (a : Int) + 5 := by omega
  have k6 : (a : Int) + 5 ≤ (s.size : Int) := by omega
  have HF := Lib.hid h5
  clear h5
  go_upto_region 5 with (first
   | (refine wpList_load_row rfl 24 (.tmp 7) rfl (w.heap.size + 1) rfl 24 _ (0, 0) _ hz0 Try.underlying24 rfl sizeW ?_)
   | (refine wpList_store_row rfl 24 (.tmp 4) (.tmp _) rfl w.heap.size _ rfl rfl 24 _ hr0 sizeW rfl (by simp [setW, Value.oneCell']) ?_))
  all_goals first
   | exact bodyPost_ret (results_sww Try.results125 _ _ w.heap.size (fun _ => 0) rfl (by exact hr0.setRow _)) rfl ⟨MemberR.no _ _, Keep.setRow hk0 (Or.inl (Nat.le_refl _)) _⟩
   | skip
  go_wp2_with fail
  (refine wp_region_f [14] (InX (Ob w.heap.size) _) (by kernel_rfl) (InX.mk (Keep.drew (Keep.refl _ _))) (fun hI => ?_))
  have xx1 : ¬ Ob w.heap.size (w.heap.size + 1) := by unfold Ob; omega
  have hD : Keep (Ob w.heap.size) w1 w1.drew := (Keep.refl _ _).drew
  have kk : Keep Nb w w1.drew := hk0.drew
  have hR := hr0.drew
  generalize w1.drew = x0 at hI hD kk hR ⊢
  (refine wpF_takeW 0 rfl (by kernel_rfl) (fun _ _ _ _ h => h) hI rfl (.tmp 7) rfl (w.heap.size + 1) rfl _ (fun _ hS => InX.blk' hS hz0 xx1) ?_; simp only [Act.put, tk])
  (refine wpI_from 1 ?_; (iterate 8 ((first | (refine wpI_take (v := ?_) rfl (by kernel_rfl) (fun _ _ _ h => h) hI rfl ?_ ?_; rotate_left; (focus (rintro _ ⟨E, rfl⟩; go_simp; (try with_reducible rfl)))) | refine wpI_skip rfl (by kernel_rfl) (fun _ _ _ h => h) hI rfl ?_); simp only [Act.put, tk, Nat.reduceAdd])); refine wpI_till ?_)
  (refine wpI_from 10 ?_; (iterate 2 ((first | (refine wpI_take (v := ?_) rfl (by kernel_rfl) (fun _ _ _ h => h) hI rfl ?_ ?_; rotate_left; (focus (rintro _ ⟨E, rfl⟩; go_simp; (try with_reducible rfl)))) | refine wpI_skip rfl (by kernel_rfl) (fun _ _ _ h => h) hI rfl ?_); simp only [Act.put, tk, Nat.reduceAdd])); refine wpI_till ?_)
  (refine wpF_one 9 rfl (by kernel_rfl) rfl (fun K hK => ?_))
  go_simp
  refine (with_z (fun _ => 0) _ _ ⟨by omega, by omega⟩ ⟨by omega, by omega⟩ _).mono ?_
  rintro e x1 ⟨g, he, kd⟩
  subst he
  replace hR := hR.keep kd (fun h => h)
  replace hD := Keep.trans hD kd (fun _ _ h => h.elim)
  replace kk := Keep.trans kk kd (fun _ _ h => h)
  (refine hK _ _ (fun _ => InX.mk hD) (fun hI => ?_); have hI := hI (by simp); clear hK K; try simp only [Act.put, tk])
  (refine wpF_one 12 rfl (by kernel_rfl) rfl (fun K hK => ?_))
  refine wp_store_row 24 (.tmp 4) (.tmp 65) rfl w.heap.size _ rfl rfl 24 _ hR sizeW rfl (by simp [setW, Value.oneCell']) ?_
  replace hD := Keep.setRow (X := Ob w.heap.size) hD (Or.inr rfl) (setW g)
  (refine hK _ _ (fun _ => InX.mk hD) (fun hI => ?_); have hI := hI (by simp); clear hK K; try simp only [Act.put, tk])
  (refine wpF_one 13 rfl (by kernel_rfl) rfl (fun K hK => ?_))
  go_simp
  (refine hK _ _ (fun _ => InX.mk hD) (fun hI => ?_); have hI := hI (by simp); clear hK K; try simp only [Act.put, tk])
  (refine wpF_one 14 rfl (by kernel_rfl) rfl (fun K hK => ?_))
  go_simp
  (refine hK _ _ (fun h => absurd (by simp) h) (fun _ => ?_); clear hK K; try simp only [Act.put, tk])
  (refine wpF_done (by kernel_rfl) ?_ _)
  go_wp2_with fail
  exact bodyPost_ret (results_sww Try.results125 _ _ w.heap.size g rfl (by exact hR.setRow _)) rfl ⟨MemberR.yes _ (a + 5) _ (by omega) (by have := HF.out; omega), Keep.setRow kk (Or.inl (Nat.le_refl _)) _⟩
 ·have k2 : decide ((s.size : Int) - (a : Int) < 5) = true := by simp; omega
  clear h5
  go_wp2_with (first
   | (refine wpList_load_row rfl 24 (.tmp 7) rfl (w.heap.size + 1) rfl 24 _ (0, 0) _ hz0 Try.underlying24 rfl sizeW ?_)
   | (refine wpList_store_row rfl 24 (.tmp 4) (.tmp _) rfl w.heap.size _ rfl rfl 24 _ hr0 sizeW rfl (by simp [setW, Value.oneCell']) ?_))
  exact bodyPost_ret (results_sww Try.results125 _ _ w.heap.size (fun _ => 0) rfl (by exact hr0.setRow _)) rfl ⟨MemberR.no _ _, Keep.setRow hk0 (Or.inl (Nat.le_refl _)) _⟩
set_option maxRecDepth 100000 in
set_option maxHeartbeats 8000000 in
theorem member_2 (s : ByteArray) (a : Nat) (w : World) (ha : a < s.size) (hs : s.size ≤ 600) (h2 : a + 2 ≤ s.size) (d0 d1 : UInt8) (b0 : a < s.size) (e0 : s[a] = d0) (b1 : a + 1 < s.size) (e1 : s[a + 1] = d1) (h0 : d0.toNat = 91) (h1 : d1.toNat = 58) :
  Calls Try.prog 125 #[.string s, .int .i64 (a : Int)] w fun e w' => MemberR s a e ∧ Keep Nb w w' := by
 have v0 : d0.toNat < 256 := d0.toNat_lt
 have i0 : (0 : Int) ≤ (a : Int) := by omega
 have i1 : (a : Int) < (s.size : Int) := by omega
 have HS := Lib.hid hs
 have HA := Lib.hid ha
 have W0 : IntKind.i64.wrap ((s.size : Int) - (a : Int)) = (s.size : Int) - (a : Int) := wr_small (by omega) (by omega)
 have W1 : IntKind.i64.wrap ((a : Int) + 1) = (a : Int) + 1 := wr_small (by omega) (by omega)
 have W2 : IntKind.i64.wrap ((a : Int) + 2) = (a : Int) + 2 := wr_small (by omega) (by omega)
 have W3 : IntKind.i64.wrap ((a : Int) + 3) = (a : Int) + 3 := wr_small (by omega) (by omega)
 have W5 : IntKind.i64.wrap ((a : Int) + 5) = (a : Int) + 5 := wr_small (by omega) (by omega)
 have j0 : (0 : Int) ≤ (a : Int) + 1 := by omega
 have j1 : (a : Int) + 1 < (s.size : Int) := by omega
 have j2 : decide (2 ≤ (s.size : Int) - (a : Int)) = true := by simp; omega
 have j3 : ((a : Int) + 1).toNat = a + 1 := by omega
 have m0 : ((d0.toNat : Int) == 91) = true := by simp [h0]
 have m1 : ((d1.toNat : Int) == 61) = false := beq_eq_false_iff_ne.2 (by omega)
 have m2 : ((d1.toNat : Int) == 58) = true := by simp [h1]
 have H2 := Lib.hid h2
 clear h0 h1 h2
 clear hs ha
 go_enter Try.func125, Try.ntmps125
 go_upto_region 2 with fail
 have hr0 : Blk ((w.alloc (.cells (setW fun _ => 0) 24)).alloc (.cells (setW fun _ => 0) 24)) w.heap.size (setW fun _ => 0) 24 := (Blk.new w _ _).alloc _
 have hz0 : Blk ((w.alloc (.cells (setW fun _ => 0) 24)).alloc (.cells (setW fun _ => 0) 24)) (w.heap.size + 1) (setW fun _ => 0) 24 := Blk.new' (by simp) _ _
 have hk0 : Keep Nb w ((w.alloc (.cells (setW fun _ => 0) 24)).alloc (.cells (setW fun _ => 0) 24)) := Keep.alloc (Keep.alloc (Keep.refl _ _) _) _
 have hx : (w.alloc (.cells #[.int .u64 0, .int .u64 0, .int .u64 0, .int .u64 0] 24)).alloc (.cells #[.int .u64 0, .int .u64 0, .int .u64 0, .int .u64 0] 24) = (w.alloc (.cells (setW fun _ => 0) 24)).alloc (.cells (setW fun _ => 0) 24) := rfl
 rw [hx]; clear hx
 generalize (w.alloc (.cells (setW fun _ => 0) 24)).alloc (.cells (setW fun _ => 0) 24) = w1 at hr0 hz0 hk0 ⊢
 go_wp2_with fail
 go_loopw [8] (fun i wr => ∃ j : Nat, Hid (a + 2 ≤ j) ∧ Hid (j ≤ s.size) ∧ i = .int .i64 (j : Int) ∧ wr = w1) (fun i _ => s.size - (intOf i).toNat)
 case atStart => exact ⟨a + 2, Lib.hid (by omega), H2, by rw [Int.natCast_add]; rfl, rfl⟩
 case round =>
  obtain ⟨j, J1, J2, rfl, rfl⟩ := hrel
  have V1 : IntKind.i64.wrap ((j : Int) + 1) = (j : Int) + 1 := wr_small (by omega) (by have := J2.out; have := HS.out; omega)
  have V2 : IntKind.i64.wrap ((j : Int) + 2) = (j : Int) + 2 := wr_small (by omega) (by have := J2.out; have := HS.out; omega)
  by_cases hj : j + 1 < s.size
  ·have m1 : decide ((j : Int) + 1 < (s.size : Int)) = true := by simp; omega
   have n0 : (0 : Int) ≤ (j : Int) := by omega
   have n1 : (j : Int) ≤ (j : Int) + 2 := by omega
   have n2 : (j : Int) + 2 ≤ (s.size : Int) := by omega
   have n3 : (0 : Int) ≤ (a : Int) + 2 := by omega
   have n4 : (a : Int) + 2 ≤ (j : Int) := by have := J1.out; omega
   have n5 : (j : Int) ≤ (s.size : Int) := by omega
   have HJ := Lib.hid hj
   clear hj
   go_upto_region 11 with fail
   ·go_wp2_with fail
    refine (class_e _ wr).mono ?_
    rintro e w2 ⟨g, r, he, kd⟩
    subst he
    have hr2 := hr0.keep kd (fun h => h)
    have kk := Keep.trans hk0 kd (fun _ _ h => h)
    have hlt := hr2.lt
    have hne : w.heap.size ≠ w2.heap.size := by omega
    have HN := Lib.hid hne
    clear hne kd hlt
    go_wp2_with (first
     | (refine wpList_store_row rfl 24 (.tmp 9) (.tmp _) rfl w2.heap.size _ rfl rfl 24 _ (Blk.new w2 (setW fun _ => 0) 24) sizeW rfl (by simp [setW, Value.oneCell']) ?_)
     | (refine wpList_load_row rfl 24 (.tmp 9) rfl w2.heap.size rfl 24 _ (0, 0) _ ((Blk.new w2 (setW fun _ => 0) 24).setRow _) Try.underlying24 rfl sizeW ?_)
     | (refine wpList_store_row rfl 24 (.tmp 4) (.tmp _) rfl w.heap.size _ rfl rfl 24 _ ((hr2.alloc _).setRowOther HN.out _) sizeW rfl (by simp [setW, Value.oneCell']) ?_))
    exact bodyPost_ret (results_sww Try.results125 _ _ w.heap.size g rfl (by exact ((hr2.alloc _).setRowOther HN.out _).setRow _)) rfl ⟨MemberR.yes _ (j + 2) _ (by omega) (by have := HJ.out; have := J1.out; omega), Keep.setRow (Keep.setRow (Keep.alloc kk _) (Or.inl (by have := kk.size; omega)) _) (Or.inl (Nat.le_refl _)) _⟩
   ·go_wp2_with fail
    go_roundw
    case rel => exact ⟨j + 1, Lib.hid (by have := J1.out; omega), Lib.hid (by have := HJ.out; omega), by go_num, (by first | trivial | rfl)⟩
    case measure => simp [intOf]; have := HJ.out; omega
  ·have m1 : decide ((j : Int) + 1 < (s.size : Int)) = false := by simp; omega
   clear hj
   go_wp2_with (first
    | (refine wpList_load_row rfl 24 (.tmp 7) rfl (w.heap.size + 1) rfl 24 _ (0, 0) _ hz0 Try.underlying24 rfl sizeW ?_)
    | (refine wpList_store_row rfl 24 (.tmp 4) (.tmp _) rfl w.heap.size _ rfl rfl 24 _ hr0 sizeW rfl (by simp [setW, Value.oneCell']) ?_))
   exact bodyPost_ret (results_sww Try.results125 _ _ w.heap.size (fun _ => 0) rfl (by exact hr0.setRow _)) rfl ⟨MemberR.no _ _, Keep.setRow hk0 (Or.inl (Nat.le_refl _)) _⟩
theorem member_e (s : ByteArray) (hs : s.size ≤ 600) : MemberSays s := by
 intro a w ha
 obtain ⟨d0, b0, e0⟩ := byte_of ha
 by_cases h2 : a + 2 ≤ s.size
 ·obtain ⟨d1, b1, e1⟩ := byte_of (show a + 1 < s.size by omega)
  by_cases h0 : d0.toNat = 91
  ·by_cases h1 : d1.toNat = 61
   ·exact member_1 s a w ha hs h2 d0 d1 b0 e0 b1 e1 h0 h1
   ·by_cases h3 : d1.toNat = 58
    ·exact member_2 s a w ha hs h2 d0 d1 b0 e0 b1 e1 h0 h3
    ·exact member_3c s a w ha hs h2 d0 d1 b0 e0 b1 e1 h0 h1 h3
  ·exact member_3b s a w ha hs h2 d0 b0 e0 h0
 ·exact member_3a s a w ha hs (by omega)
end Go.Proofs.Ytkidjbfapldmbaa
