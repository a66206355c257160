import Derived.Test.YtkidjbfapldmbaaZPg
set_option linter.unusedVariables false
set_option linter.unusedSimpArgs false
namespace Go.Proofs.Ytkidjbfapldmbaa
open Go.RowKit P8
def takeP (L : List UInt8) (fl : Caps → List UInt8) (inn : Bool) (P : PS) (s : St) (a b : Nat) : PS :=
 if a = b then ⟨P.out ++ (if inn = true then fl (bestC s) else seg L a b) ++ seg L a (a + 1), a + 1, -1, P.tries, P.cnt, if inn = true then P.pt + 1 else P.pt⟩
 else ⟨P.out ++ (if inn = true then fl (bestC s) else seg L a b), b, b, P.tries, P.cnt, if inn = true then P.pt + 1 else P.pt⟩
set_option maxRecDepth 100000 in
set_option maxHeartbeats 8000000 in
theorem take_any (base p : Nat) (N : Nd) (S pv : Value) (T : ByteArray) (P : PS) (ps : List (Int × ByteArray)) (s : St) (a b : Nat) (inn : Bool) (w : World) (h : PtAt base p N S pv T P w) (hps : PartsAt w pv ps) (hz : sizeP ps ≤ 1000000)
  (hc : CapsOk T.size (bestC s)) (h0 : bestC s 0 = some (a, b)) (hab : a ≤ b) (hbT : b ≤ T.size) (hT : T.size ≤ 600) (hl : P.out.length ≤ 900000000) (hpt : P.pt ≤ 100000) (hb : base ≤ w.heap.size) :
  Calls Try.prog 77 #[.pointer (some ⟨p, 0, none⟩), .agg (fLit s), .bool inn] w fun e w' => e = .returned (.tuple #[]) ∧ PtAt base p N S pv T (takeP T.toList (fillF T.toList ps) inn P s a b) w' ∧ KeepU base p w w' := by
 have HPS := Lib.hid hps
 have HZ := Lib.hid hz
 have HC := Lib.hid hc
 have HT := Lib.hid hT
 have HLN := Lib.hid hl
 have HPT := Lib.hid hpt
 have HBB := Lib.hid hb
 have HAB : Hid (a ≤ b ∧ b ≤ T.size) := Lib.hid ⟨hab, hbT⟩
 have HP := Lib.hid h
 have HLOW := Lib.hid h.low
 have HFL := Lib.hid (fill_any T hT s hc ps hz pv)
 obtain ⟨A, cap, rfl, _⟩ := hps
 have v1 := fun wx => F_back (a := a) (by omega) wx
 have v2 := fun wx => F_back (a := b) (by omega) wx
 have H0 := Lib.hid h0
 clear hz hc hT hl hpt hb hab hbT h h0
 go_enter Try.func77, Try.ntmps77
 go_upto_region 1 with fail
 have hF1 : Blk (w.alloc (.cells (fLit s) 49)) w.heap.size (fLit s) 49 := Blk.new w _ _
 have k1 : Keep Nb w (w.alloc (.cells (fLit s) 49)) := Keep.alloc (Keep.refl _ _) _
 have hP1 := HP.out.keep k1 (fun _ _ h => h)
 have hS1 := HPS.out.keep k1 (fun _ _ h => h)
 generalize w.alloc (.cells (fLit s) 49) = w1 at hF1 k1 hP1 hS1 ⊢
 have HK1 := Lib.hid k1
 have HF1 := Lib.hid hF1
 have HP1 := Lib.hid hP1
 have HS1 := Lib.hid hS1
 clear k1 hP1 hS1 HP HPS
 have c0 := hF1.cell 0 (u := .complex .f64 (F a) (F b)) (by simp [fLit, H0.out, reV, imV])
 have lf := hF1.lt
 clear hF1
 (refine wp_region_f [9] (InX Nb _) (by kernel_rfl) (InX.mk (Keep.drew (Keep.refl _ _))) (fun hI => ?_))
 have xx : ∀ k, ¬ Nb k := fun _ h => h
 have hD : Keep Nb w1 w1.drew := (Keep.refl _ _).drew
 generalize w1.drew = x0 at hI hD ⊢
 (refine wpI_from 0 ?_; (iterate 9 ((first | (refine wpI_take3' (v := ?_) rfl (by kernel_rfl) (fun _ _ _ h => h) hI rfl ?_ ?_; rotate_left; (focus (rintro _ ⟨E, rfl⟩; go_simp; (try with_reducible rfl)))) | refine wpI_skip3' rfl (by kernel_rfl) (fun _ _ _ h => h) hI rfl ?_); simp only [Act.put, tk, Nat.reduceAdd])); refine wpI_till ?_)
 (refine wpF_one 9 rfl (by kernel_rfl) rfl (fun K hK => ?_))
 go_simp
 (refine hK _ _ (fun h => absurd (by simp) h) (fun _ => ?_); clear hK K; try simp only [Act.put, tk])
 (refine wpF_done (by kernel_rfl) ?_ _)
 have HF2 := Lib.hid (HF1.out.keep hD (fun h => h))
 have HP2 := Lib.hid (HP1.out.keep hD (fun _ _ h => h))
 have HS2 := Lib.hid (HS1.out.keep hD (fun _ _ h => h))
 have HK2 := Lib.hid (HK1.out.trans hD (fun _ _ h => h))
 clear HF1 HP1 HS1 HK1 hD c0 lf hI v1 v2
 cases inn with
 | true =>
  obtain ⟨q, v, hB⟩ := HP2.out
  have hBK := Lib.hid hB
  have c10 := hB.blk.cell 10 (u := .slice A ps.length cap) rfl
  have c11 := hB.blk.cell 11 (u := .string T) rfl
  have lp := hB.blk.lt
  clear hB
  go_wp2_with fail
  (refine wp_region_f [13] (InX Nb _) (by kernel_rfl) (InX.mk (Keep.drew (Keep.refl _ _))) (fun hI => ?_))
  have hD : Keep Nb x0 x0.drew := (Keep.refl _ _).drew
  generalize x0.drew = x1 at hI hD ⊢
  (refine wpI_from 0 ?_; (iterate 11 ((first | (refine wpI_take3' (v := ?_) rfl (by kernel_rfl) (fun _ _ _ h => h) hI rfl ?_ ?_; rotate_left; (focus (rintro _ ⟨E, rfl⟩; go_simp; (try with_reducible rfl)))) | refine wpI_skip3' rfl (by kernel_rfl) (fun _ _ _ h => h) hI rfl ?_); simp only [Act.put, tk, Nat.reduceAdd])); refine wpI_till ?_)
  (refine wpF_row3 11 rfl (by kernel_rfl) (fun _ _ _ _ h => h) hI rfl 49 (.tmp 4) rfl w.heap.size rfl 49 _ (0, 0) _ (fun _ hS => InX.bk hS HF2.out (fun h => h)) Try.underlying49 rfl (by kernel_rfl) ?_; simp only [Act.put, tk])
  (refine wpF_one 12 rfl (by kernel_rfl) rfl (fun K hK => ?_))
  go_simp
  refine (HFL.out x1 (HS2.out.keep hD (fun _ _ h => h))).mono ?_
  rintro e x2 ⟨rfl, kd⟩
  replace hD := Keep.trans hD kd (fun _ _ h => h)
  clear kd
  (refine hK _ _ (fun _ => InX.mk hD) (fun hI => ?_); have hI := hI (by simp); clear hK K; try simp only [Act.put, tk])
  (refine wpF_one 13 rfl (by kernel_rfl) rfl (fun K hK => ?_))
  go_simp
  have hfl : (fillF T.toList ps (bestC s)).length ≤ 1000000 := by have := fillF_len (L := T.toList) (by rw [toList_len]; exact HT.out) (bestC s) ps; have := HZ.out; omega
  refine (writeStringO_any base p 12 _ 132 q v (Lib.byteCells P.out) ⟨(fillF T.toList ps (bestC s)).toArray⟩ x2 (hBK.out.keep hD (fun h => h) (fun _ _ h => h)) lies_pt (by rw [Lib.byteCells_length]; have := HLN.out; simp [ByteArray.size]; omega) (by have := HK2.out.size; have := hD.size; have := HBB.out; omega)).mono ?_
  rintro e x3 ⟨rfl, v', hB3, hk3⟩
  (refine hK _ _ (fun h => absurd (by simp) h) (fun _ => ?_); clear hK K; try simp only [Act.put, tk])
  (refine wpF_done (by kernel_rfl) ?_ _)
  have hP3 : PtAt base p N S (.slice A ps.length cap) T { P with out := P.out ++ fillF T.toList ps (bestC s) } x3 := by
   refine ⟨.pointer (some ⟨p, 12, none⟩), v', ?_⟩
   have e : Lib.byteCells (P.out ++ fillF T.toList ps (bestC s)) = Lib.byteCells P.out ++ Lib.strCells ⟨(fillF T.toList ps (bestC s)).toArray⟩ := List.map_append
   show BoAt base p 12 _ 132 _ v' (Lib.byteCells (P.out ++ fillF T.toList ps (bestC s))) x3
   rw [e]
   exact hB3
  have HP3 := Lib.hid hP3
  have HK3 := Lib.hid (((HK2.out.trans hD (fun _ _ h => h)).u base p).trans hk3)
  have HFL2 := Lib.hid hfl
  clear hB3 hk3 c10 c11 lp hD hI hfl HP2 HS2 HF2 HK2 hBK
  obtain ⟨q3, v3, hB3⟩ := hP3
  have c18 := hB3.blk.cell 18 (u := .int .i64 (P.pt : Int)) rfl
  have f18 := hB3.blk.frozen 18
  have lp3 := hB3.blk.lt
  have W1 : IntKind.i64.wrap ((P.pt : Int) + 1) = ((P.pt : Int) + 1) := by rw [IntKind.wrap_i64]; have := HPT.out; omega
  clear hB3
  go_upto_region 6 with fail
  have hP4 : PtAt base p N S (.slice A ps.length cap) T { P with out := P.out ++ fillF T.toList ps (bestC s), pt := P.pt + 1 } (x3.setCell ⟨p, 18, none⟩ (.int .i64 ((P.pt : Int) + 1))) :=
   HP3.out.set { P with out := P.out ++ fillF T.toList ps (bestC s), pt := P.pt + 1 } 18 _ (by decide) rfl (fun _ _ => rfl)
  have hK4 : KeepU base p w (x3.setCell ⟨p, 18, none⟩ (.int .i64 ((P.pt : Int) + 1))) := HK3.out.trans (KeepU.ob (Keep.setOb _ _ _ _) HLOW.out.1)
  clear c18 f18 lp3 W1 HP3 HK3
  generalize x3.setCell ⟨p, 18, none⟩ (.int .i64 ((P.pt : Int) + 1)) = x4 at hP4 hK4 ⊢
  have HP4 := Lib.hid hP4
  have HK4 := Lib.hid hK4
  obtain ⟨q4, v4, hB4⟩ := hP4
  have c14 := hB4.blk.cell 14 (u := .int .i64 (P.pos : Int)) rfl
  have f14 := hB4.blk.frozen 14
  have c15 := hB4.blk.cell 15 (u := .int .i64 P.last) rfl
  have f15 := hB4.blk.frozen 15
  have lp4 := hB4.blk.lt
  clear hB4 hK4
  go_upto_region 7 with fail
  have hP5 : PtAt base p N S (.slice A ps.length cap) T { ({ P with out := P.out ++ fillF T.toList ps (bestC s), pt := P.pt + 1 } : PS) with pos := b, last := (b : Int) } ((x4.setCell ⟨p, 14, none⟩ (.int .i64 (b : Int))).setCell ⟨p, 15, none⟩ (.int .i64 (b : Int))) :=
   (HP4.out.set { ({ P with out := P.out ++ fillF T.toList ps (bestC s), pt := P.pt + 1 } : PS) with pos := b } 14 _ (by decide) rfl (fun _ _ => rfl)).set { ({ P with out := P.out ++ fillF T.toList ps (bestC s), pt := P.pt + 1 } : PS) with pos := b, last := (b : Int) } 15 _ (by decide) rfl (fun _ _ => rfl)
  have hK5 : KeepU base p w ((x4.setCell ⟨p, 14, none⟩ (.int .i64 (b : Int))).setCell ⟨p, 15, none⟩ (.int .i64 (b : Int))) :=
   HK4.out.trans (KeepU.ob (Keep.trans (Keep.setOb _ p 14 _) (Keep.setOb _ p 15 _) (fun _ _ h => h)) HLOW.out.1)
  have HK5 := Lib.hid hK5
  clear hK5 c14 f14 c15 f15
  generalize (x4.setCell ⟨p, 14, none⟩ (.int .i64 (b : Int))).setCell ⟨p, 15, none⟩ (.int .i64 (b : Int)) = w5 at hP5 HK5 ⊢
  by_cases hab : a = b
  ·subst hab
   go_wp2_with fail
   refine (pass_any base p N S (.slice A ps.length cap) T _ a w5 hP5 HAB.out.2 HT.out (by simp only [List.length_append]; have := HFL2.out; have := HLN.out; omega) (by have := HK5.out.size; have := HBB.out; omega)).mono ?_
   rintro e w6 ⟨rfl, hP6, hk6⟩
   go_wp2_with fail
   go_end0
   refine ⟨rfl, ?_, HK5.out.trans hk6⟩
   unfold takeP
   rw [if_pos rfl]
   exact hP6
  ·have m1 : ((a : Int) == (b : Int)) = false := beq_eq_false_iff_ne.2 (by omega)
   have m2 : (a == b) = false := beq_eq_false_iff_ne.2 hab
   have HNE := Lib.hid hab
   clear hab
   go_wp2_with fail
   go_end0
   refine ⟨rfl, ?_, HK5.out⟩
   unfold takeP
   rw [if_neg HNE.out]
   exact hP5
 | false =>
  obtain ⟨q, v, hB⟩ := HP2.out
  have hBK := Lib.hid hB
  have c11 := hB.blk.cell 11 (u := .string T) rfl
  have lp := hB.blk.lt
  have i0 : (0 : Int) ≤ (a : Int) := by omega
  have i1 : (a : Int) ≤ (b : Int) := by have := HAB.out; omega
  have i2 : (b : Int) ≤ (T.size : Int) := by have := HAB.out; omega
  clear hB
  go_wp2_with fail
  (refine wp_region_f [10] (InX Nb _) (by kernel_rfl) (InX.mk (Keep.drew (Keep.refl _ _))) (fun hI => ?_))
  have hD : Keep Nb x0 x0.drew := (Keep.refl _ _).drew
  generalize x0.drew = x1 at hI hD ⊢
  (refine wpI_from 0 ?_; (iterate 10 ((first | (refine wpI_take3' (v := ?_) rfl (by kernel_rfl) (fun _ _ _ h => h) hI rfl ?_ ?_; rotate_left; (focus (rintro _ ⟨E, rfl⟩; go_simp; (try with_reducible rfl)))) | refine wpI_skip3' rfl (by kernel_rfl) (fun _ _ _ h => h) hI rfl ?_); simp only [Act.put, tk, Nat.reduceAdd])); refine wpI_till ?_)
  (refine wpF_one 10 rfl (by kernel_rfl) rfl (fun K hK => ?_))
  go_simp
  refine (writeStringO_any base p 12 _ 132 q v (Lib.byteCells P.out) (T.extract a b) x1 (hBK.out.keep hD (fun h => h) (fun _ _ h => h)) lies_pt (by rw [Lib.byteCells_length]; have := HLN.out; have := HT.out; simp; omega) (by have := HK2.out.size; have := hD.size; have := HBB.out; omega)).mono ?_
  rintro e x3 ⟨rfl, v', hB3, hk3⟩
  (refine hK _ _ (fun h => absurd (by simp) h) (fun _ => ?_); clear hK K; try simp only [Act.put, tk])
  (refine wpF_done (by kernel_rfl) ?_ _)
  have hP4 : PtAt base p N S (.slice A ps.length cap) T { P with out := P.out ++ seg T.toList a b } x3 := by
   refine ⟨.pointer (some ⟨p, 12, none⟩), v', ?_⟩
   have e : Lib.byteCells (P.out ++ seg T.toList a b) = Lib.byteCells P.out ++ Lib.strCells (T.extract a b) := by rw [strCells_seg]; exact List.map_append
   show BoAt base p 12 _ 132 _ v' (Lib.byteCells (P.out ++ seg T.toList a b)) x3
   rw [e]
   exact hB3
  have hK4 : KeepU base p w x3 := ((HK2.out.trans hD (fun _ _ h => h)).u base p).trans hk3
  have HSG : Hid ((seg T.toList a b).length ≤ 600) := Lib.hid (by have := seg_le T.toList a b; rw [toList_len] at this; have := HT.out; omega)
  clear hB3 hk3 c11 lp hD hI HP2 HS2 HF2 HK2 hBK i0 i1 i2
  have HP4 := Lib.hid hP4
  have HK4 := Lib.hid hK4
  obtain ⟨q4, v4, hB4⟩ := hP4
  have c14 := hB4.blk.cell 14 (u := .int .i64 (P.pos : Int)) rfl
  have f14 := hB4.blk.frozen 14
  have c15 := hB4.blk.cell 15 (u := .int .i64 P.last) rfl
  have f15 := hB4.blk.frozen 15
  have lp4 := hB4.blk.lt
  clear hB4 hK4
  go_upto_region 7 with fail
  have hP5 : PtAt base p N S (.slice A ps.length cap) T { ({ P with out := P.out ++ seg T.toList a b } : PS) with pos := b, last := (b : Int) } ((x3.setCell ⟨p, 14, none⟩ (.int .i64 (b : Int))).setCell ⟨p, 15, none⟩ (.int .i64 (b : Int))) :=
   (HP4.out.set { ({ P with out := P.out ++ seg T.toList a b } : PS) with pos := b } 14 _ (by decide) rfl (fun _ _ => rfl)).set { ({ P with out := P.out ++ seg T.toList a b } : PS) with pos := b, last := (b : Int) } 15 _ (by decide) rfl (fun _ _ => rfl)
  have hK5 : KeepU base p w ((x3.setCell ⟨p, 14, none⟩ (.int .i64 (b : Int))).setCell ⟨p, 15, none⟩ (.int .i64 (b : Int))) :=
   HK4.out.trans (KeepU.ob (Keep.trans (Keep.setOb _ p 14 _) (Keep.setOb _ p 15 _) (fun _ _ h => h)) HLOW.out.1)
  have HK5 := Lib.hid hK5
  clear hK5 c14 f14 c15 f15
  generalize (x3.setCell ⟨p, 14, none⟩ (.int .i64 (b : Int))).setCell ⟨p, 15, none⟩ (.int .i64 (b : Int)) = w5 at hP5 HK5 ⊢
  by_cases hab : a = b
  ·subst hab
   go_wp2_with fail
   refine (pass_any base p N S (.slice A ps.length cap) T _ a w5 hP5 HAB.out.2 HT.out (by simp only [List.length_append]; have := HSG.out; have := HLN.out; omega) (by have := HK5.out.size; have := HBB.out; omega)).mono ?_
   rintro e w6 ⟨rfl, hP6, hk6⟩
   go_wp2_with fail
   go_end0
   refine ⟨rfl, ?_, HK5.out.trans hk6⟩
   unfold takeP
   rw [if_pos rfl]
   exact hP6
  ·have m1 : ((a : Int) == (b : Int)) = false := beq_eq_false_iff_ne.2 (by omega)
   have m2 : (a == b) = false := beq_eq_false_iff_ne.2 hab
   have HNE := Lib.hid hab
   clear hab
   go_wp2_with fail
   go_end0
   refine ⟨rfl, ?_, HK5.out⟩
   unfold takeP
   rw [if_neg HNE.out]
   exact hP5
end Go.Proofs.Ytkidjbfapldmbaa
