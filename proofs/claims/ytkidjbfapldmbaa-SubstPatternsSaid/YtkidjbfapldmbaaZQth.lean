import Derived.Test.YtkidjbfapldmbaaZQe
import Derived.Deep.DeepCutAuto
set_option linter.unusedVariables false
set_option linter.unusedSimpArgs false
set_option linter.unusedSectionVars false
namespace Go.Proofs.Ytkidjbfapldmbaa
open Go.RowKit P8
set_option maxRecDepth 100000 in
set_option maxHeartbeats 4000000 in
theorem qnode_6 (p : Nat) (T : ByteArray) (e : Env) (k : Nat) (hT : T.toList = e.L) (h6 : T.size ≤ 600) (TH : QThrSaid p T e k) (n : Nd) (r : List Tk) (q : Nat) (c : Caps) (s s' : St) (b : Nat) (S nx : Value) (w : World)
  (h : thr (k + 1) e (.node n :: r) q c s = some s') (hok : TksOk q s.tries (.node n :: r)) (hs : StOk e s) (hq : q ≤ T.size) (hc : CapsOk T.size c) (hb : QAt w p T e s) (ho : s.over = false) (hbp : b ≠ p)
  (ht : Blk w b (todoRow (.node n) S nx) 115) (hn : LiesP (Off p) w n S) (hr : TodoAt (Off p) w r nx) (hk : n.h.k = 6) :
  Calls Try.prog 67 #[.pointer (some ⟨p, 0, none⟩), .pointer (some ⟨b, 0, none⟩), .int .i64 (e.start : Int), .int .i64 (q : Int), .agg (cRow c)] w fun x w' => x = .returned (.tuple #[]) ∧ QAt w' p T e s' ∧ Keep (Ob p) w w' := by
 obtain ⟨po, rfl⟩ := hr.ptr
 have ho' : ¬ s.over = true := by rw [ho]; simp
 obtain ⟨x9, hx9, hox⟩ := kid_of hok.head (.inl hk)
 rw [thr_6 _ _ _ _ _ _ x9 ho' hk hx9] at h
 have hT1 := Lib.hid (fun wx tv hx hy => TH _ q c s s' tv wx h hs (TksOk.cons (show TkOk q s.tries (.node x9) from hox) (TksOk.cons (show TkOk q s.tries (.grp n q) from ⟨hok.head, hk, Nat.le_refl _⟩) hok.tail)) hq hc hx hy)
 obtain ⟨A, cap, rfl, _, hkids⟩ := hn.kids
 obtain ⟨b2, o2, A2, c2, rfl, hb2p, hten0, hl20⟩ := hkids 0 (by rw [hx9]; exact Nat.zero_lt_one)
 have hten : Ten w b2 o2 x9 (.slice A2 x9.l.length c2) := by simpa [hx9] using hten0
 have hl2 : LiesP (Off p) w x9 (.slice A2 x9.l.length c2) := by simpa [hx9] using hl20
 have HB2 := Lib.hid (show ¬ Ob p b2 from hb2p)
 have HT0 := Lib.hid hten
 have HX := Lib.hid hl2
 have hlen1 : n.l.length = 1 := by rw [hx9]; rfl
 have HLEN := Lib.hid hlen1
 have k6 : (n.h.k == 6) = true := beq_int hk
 have k8 : (n.h.k == 8) = false := bne_int (by omega)
 have k9 : (n.h.k == 9) = false := bne_int (by omega)
 have k10 : (n.h.k == 10) = false := bne_int (by omega)
 have lp := hb.lt
 have HCP := Lib.hid (show ¬ Ob p w.heap.size by unfold Ob; omega)
 have HQP := Lib.hid (show ¬ Ob p (w.heap.size + 1) by unfold Ob; omega)
 have HBP := Lib.hid (show ¬ Ob p b from hbp)
 have hb1 : Blk (w.alloc (.cells #[.int .i64 (fromI (c 0)), .int .i64 (fromI (c 1)), .int .i64 (fromI (c 2)), .int .i64 (fromI (c 3)), .int .i64 (fromI (c 4)), .int .i64 (fromI (c 5)), .int .i64 (fromI (c 6)), .int .i64 (fromI (c 7)), .int .i64 (fromI (c 8)), .int .i64 (fromI (c 9)), .int .i64 (toI (c 0)), .int .i64 (toI (c 1)), .int .i64 (toI (c 2)), .int .i64 (toI (c 3)), .int .i64 (toI (c 4)), .int .i64 (toI (c 5)), .int .i64 (toI (c 6)), .int .i64 (toI (c 7)), .int .i64 (toI (c 8)), .int .i64 (toI (c 9)), .bool (c 0).isSome, .bool (c 1).isSome, .bool (c 2).isSome, .bool (c 3).isSome, .bool (c 4).isSome, .bool (c 5).isSome, .bool (c 6).isSome, .bool (c 7).isSome, .bool (c 8).isSome, .bool (c 9).isSome] 118)) w.heap.size (cRow c) 118 := Blk.new w _ _
 have hbq : QAt (w.alloc (.cells #[.int .i64 (fromI (c 0)), .int .i64 (fromI (c 1)), .int .i64 (fromI (c 2)), .int .i64 (fromI (c 3)), .int .i64 (fromI (c 4)), .int .i64 (fromI (c 5)), .int .i64 (fromI (c 6)), .int .i64 (fromI (c 7)), .int .i64 (fromI (c 8)), .int .i64 (fromI (c 9)), .int .i64 (toI (c 0)), .int .i64 (toI (c 1)), .int .i64 (toI (c 2)), .int .i64 (toI (c 3)), .int .i64 (toI (c 4)), .int .i64 (toI (c 5)), .int .i64 (toI (c 6)), .int .i64 (toI (c 7)), .int .i64 (toI (c 8)), .int .i64 (toI (c 9)), .bool (c 0).isSome, .bool (c 1).isSome, .bool (c 2).isSome, .bool (c 3).isSome, .bool (c 4).isSome, .bool (c 5).isSome, .bool (c 6).isSome, .bool (c 7).isSome, .bool (c 8).isSome, .bool (c 9).isSome] 118)) p T e s := hb.alloc _
 have hk0 : Keep Nb w (w.alloc (.cells #[.int .i64 (fromI (c 0)), .int .i64 (fromI (c 1)), .int .i64 (fromI (c 2)), .int .i64 (fromI (c 3)), .int .i64 (fromI (c 4)), .int .i64 (fromI (c 5)), .int .i64 (fromI (c 6)), .int .i64 (fromI (c 7)), .int .i64 (fromI (c 8)), .int .i64 (fromI (c 9)), .int .i64 (toI (c 0)), .int .i64 (toI (c 1)), .int .i64 (toI (c 2)), .int .i64 (toI (c 3)), .int .i64 (toI (c 4)), .int .i64 (toI (c 5)), .int .i64 (toI (c 6)), .int .i64 (toI (c 7)), .int .i64 (toI (c 8)), .int .i64 (toI (c 9)), .bool (c 0).isSome, .bool (c 1).isSome, .bool (c 2).isSome, .bool (c 3).isSome, .bool (c 4).isSome, .bool (c 5).isSome, .bool (c 6).isSome, .bool (c 7).isSome, .bool (c 8).isSome, .bool (c 9).isSome] 118)) := Keep.alloc (Keep.refl _ _) _
 have htd := ht.alloc (.cells #[.int .i64 (fromI (c 0)), .int .i64 (fromI (c 1)), .int .i64 (fromI (c 2)), .int .i64 (fromI (c 3)), .int .i64 (fromI (c 4)), .int .i64 (fromI (c 5)), .int .i64 (fromI (c 6)), .int .i64 (fromI (c 7)), .int .i64 (fromI (c 8)), .int .i64 (fromI (c 9)), .int .i64 (toI (c 0)), .int .i64 (toI (c 1)), .int .i64 (toI (c 2)), .int .i64 (toI (c 3)), .int .i64 (toI (c 4)), .int .i64 (toI (c 5)), .int .i64 (toI (c 6)), .int .i64 (toI (c 7)), .int .i64 (toI (c 8)), .int .i64 (toI (c 9)), .bool (c 0).isSome, .bool (c 1).isSome, .bool (c 2).isSome, .bool (c 3).isSome, .bool (c 4).isSome, .bool (c 5).isSome, .bool (c 6).isSome, .bool (c 7).isSome, .bool (c 8).isSome, .bool (c 9).isSome] 118)
 have hsz1 : (w.alloc (.cells #[.int .i64 (fromI (c 0)), .int .i64 (fromI (c 1)), .int .i64 (fromI (c 2)), .int .i64 (fromI (c 3)), .int .i64 (fromI (c 4)), .int .i64 (fromI (c 5)), .int .i64 (fromI (c 6)), .int .i64 (fromI (c 7)), .int .i64 (fromI (c 8)), .int .i64 (fromI (c 9)), .int .i64 (toI (c 0)), .int .i64 (toI (c 1)), .int .i64 (toI (c 2)), .int .i64 (toI (c 3)), .int .i64 (toI (c 4)), .int .i64 (toI (c 5)), .int .i64 (toI (c 6)), .int .i64 (toI (c 7)), .int .i64 (toI (c 8)), .int .i64 (toI (c 9)), .bool (c 0).isSome, .bool (c 1).isSome, .bool (c 2).isSome, .bool (c 3).isSome, .bool (c 4).isSome, .bool (c 5).isSome, .bool (c 6).isSome, .bool (c 7).isSome, .bool (c 8).isSome, .bool (c 9).isSome] 118)).heap.size = w.heap.size + 1 := by simp
 have B1 := Lib.hid hb1
 have BP := Lib.hid hbq
 have BT := Lib.hid htd
 have K0 := Lib.hid hk0
 have SZ := Lib.hid hsz1
 have HO := Lib.hid ho
 have HNR := Lib.hid hn
 have HR := Lib.hid hr
 clear hb1 hbq hk0 htd hsz1
 rw [hlen1] at BT HNR
 clear hten0 hl20 hkids hten hl2 hb2p hx9 hox hlen1
 clear h hs hok hq hc hb hn hr ho ho' ht hk TH hT h6 hbp
 simp only [cRow]
 go_enter Try.func67, Try.ntmps67
 go_upto_region 1 with fail
 generalize (w.alloc (.cells #[.int .i64 (fromI (c 0)), .int .i64 (fromI (c 1)), .int .i64 (fromI (c 2)), .int .i64 (fromI (c 3)), .int .i64 (fromI (c 4)), .int .i64 (fromI (c 5)), .int .i64 (fromI (c 6)), .int .i64 (fromI (c 7)), .int .i64 (fromI (c 8)), .int .i64 (fromI (c 9)), .int .i64 (toI (c 0)), .int .i64 (toI (c 1)), .int .i64 (toI (c 2)), .int .i64 (toI (c 3)), .int .i64 (toI (c 4)), .int .i64 (toI (c 5)), .int .i64 (toI (c 6)), .int .i64 (toI (c 7)), .int .i64 (toI (c 8)), .int .i64 (toI (c 9)), .bool (c 0).isSome, .bool (c 1).isSome, .bool (c 2).isSome, .bool (c 3).isSome, .bool (c 4).isSome, .bool (c 5).isSome, .bool (c 6).isSome, .bool (c 7).isSome, .bool (c 8).isSome, .bool (c 9).isSome] 118)) = w1 at B1 BP BT K0 SZ ⊢
 have c26 := BP.out.cell 26 (u := .bool s.over) rfl
 have lp1 := BP.out.lt
 rw [HO.out] at c26
 have t0 := BT.out.cell 0 (u := .int .i64 n.h.k) rfl
 have t1 := BT.out.cell 1 (u := .int .u8 n.h.c) rfl
 have t2 := BT.out.cell 2 (u := .int .u64 n.h.s0) rfl
 have t3 := BT.out.cell 3 (u := .int .u64 n.h.s1) rfl
 have t4 := BT.out.cell 4 (u := .int .u64 n.h.s2) rfl
 have t5 := BT.out.cell 5 (u := .int .u64 n.h.s3) rfl
 have t6 := BT.out.cell 6 (u := .int .i64 n.h.n) rfl
 have t7 := BT.out.cell 7 (u := .int .i64 n.h.mn) rfl
 have t8 := BT.out.cell 8 (u := .int .i64 n.h.mx) rfl
 have t9 := BT.out.cell 9 (u := .slice (some ⟨b2, o2, none⟩) 1 cap) rfl
 have t10 := BT.out.cell 10 (u := .int .i64 0) rfl
 have lt1 := BT.out.lt
 have z1 : Blk (w1.alloc (.cells #[.int .i64 n.h.k, .int .u8 n.h.c, .int .u64 n.h.s0, .int .u64 n.h.s1, .int .u64 n.h.s2, .int .u64 n.h.s3, .int .i64 n.h.n, .int .i64 n.h.mn, .int .i64 n.h.mx, .slice (some ⟨b2, o2, none⟩) 1 cap] 27)) w1.heap.size (Nd.row n (.slice (some ⟨b2, o2, none⟩) 1 cap)) 27 := Blk.new w1 _ _
 have q1 : QAt (w1.alloc (.cells #[.int .i64 n.h.k, .int .u8 n.h.c, .int .u64 n.h.s0, .int .u64 n.h.s1, .int .u64 n.h.s2, .int .u64 n.h.s3, .int .i64 n.h.n, .int .i64 n.h.mn, .int .i64 n.h.mx, .slice (some ⟨b2, o2, none⟩) 1 cap] 27)) p T e s := BP.out.alloc _
 have c1 : Blk (w1.alloc (.cells #[.int .i64 n.h.k, .int .u8 n.h.c, .int .u64 n.h.s0, .int .u64 n.h.s1, .int .u64 n.h.s2, .int .u64 n.h.s3, .int .i64 n.h.n, .int .i64 n.h.mn, .int .i64 n.h.mx, .slice (some ⟨b2, o2, none⟩) 1 cap] 27)) w.heap.size (cRow c) 118 := B1.out.alloc _
 have d1 : Blk (w1.alloc (.cells #[.int .i64 n.h.k, .int .u8 n.h.c, .int .u64 n.h.s0, .int .u64 n.h.s1, .int .u64 n.h.s2, .int .u64 n.h.s3, .int .i64 n.h.n, .int .i64 n.h.mn, .int .i64 n.h.mx, .slice (some ⟨b2, o2, none⟩) 1 cap] 27)) b (todoRow (.node n) (.slice (some ⟨b2, o2, none⟩) 1 cap) (.pointer po)) 115 := BT.out.alloc _
 have k2 : Keep Nb w (w1.alloc (.cells #[.int .i64 n.h.k, .int .u8 n.h.c, .int .u64 n.h.s0, .int .u64 n.h.s1, .int .u64 n.h.s2, .int .u64 n.h.s3, .int .i64 n.h.n, .int .i64 n.h.mn, .int .i64 n.h.mx, .slice (some ⟨b2, o2, none⟩) 1 cap] 27)) := Keep.alloc K0.out _
 have BN := Lib.hid z1
 have FP := Lib.hid q1
 have BC := Lib.hid c1
 have BD := Lib.hid d1
 have K2 := Lib.hid k2
 clear z1 q1 c1 d1 k2
 go_upto_region 21 with fail
 generalize (w1.alloc (.cells #[.int .i64 n.h.k, .int .u8 n.h.c, .int .u64 n.h.s0, .int .u64 n.h.s1, .int .u64 n.h.s2, .int .u64 n.h.s3, .int .i64 n.h.n, .int .i64 n.h.mn, .int .i64 n.h.mx, .slice (some ⟨b2, o2, none⟩) 1 cap] 27)) = w2 at BN FP BC BD K2 ⊢
 rw [SZ.out] at BN ⊢
 clear c26 lp1 t0 t1 t2 t3 t4 t5 t6 t7 t8 t9 t10 lt1 B1 BP BT K0 SZ
 have hN := BN.out
 (have y0 := Blk.cell hN 0 (u := .int .i64 n.h.k) rfl; have y1 := Blk.cell hN 1 (u := .int .u8 n.h.c) rfl; have y2 := Blk.cell hN 2 (u := .int .u64 n.h.s0) rfl; have y3 := Blk.cell hN 3 (u := .int .u64 n.h.s1) rfl; have y4 := Blk.cell hN 4 (u := .int .u64 n.h.s2) rfl; have y5 := Blk.cell hN 5 (u := .int .u64 n.h.s3) rfl; have y6 := Blk.cell hN 6 (u := .int .i64 n.h.n) rfl; have y7 := Blk.cell hN 7 (u := .int .i64 n.h.mn) rfl; have y8 := Blk.cell hN 8 (u := .int .i64 n.h.mx) rfl; have y9 := Blk.cell hN 9 (u := (.slice (some ⟨b2, o2, none⟩) 1 cap)) rfl)
 have ln := hN.lt
 have d13 := BD.out.cell 13 (u := .pointer po) rfl
 have ld := BD.out.lt
 have lc := BC.out.lt
 have lp2 := FP.out.lt
 clear hN
 have HL2 := Lib.hid (Lies_keep K2.out HNR.out)
 have HR2 := Lib.hid (TodoAt.keep (K2.out.mono (Y := Ob p) (fun _ _ h => h.elim)) HR.out)
 have KW := Lib.hid (K2.out.mono (Y := Ob p) (fun _ _ h => h.elim))
 have HX2 := Lib.hid (Lies_keep K2.out HX.out)
 have ht2 := HT0.out.keep K2.out
 obtain ⟨u0, u1, u2, u3, u4, u5, u6, u7, u8, u9, lu⟩ := ht2
 go_wp2_with fail
 (refine wp_region_f [] (InX (Ob p) _) (by kernel_rfl) (InX.mk (Keep.drew (Keep.refl _ _))) (fun hI => ?_))
 have xx1 : ¬ Ob p w.heap.size := HCP.out
 have xx2 : ¬ Ob p b := HBP.out
 have xx4 : ¬ Ob p (w.heap.size + 1) := HQP.out
 have xx3 : ¬ Ob p b2 := HB2.out
 have hK0 : Keep Nb w2 w2.drew := (Keep.refl _ _).drew
 generalize w2.drew = v0 at hK0 hI ⊢
 (refine wpI_from 0 ?_; (iterate 12 ((first | (refine wpI_take (v := ?_) rfl (by kernel_rfl) (fun _ _ _ h => h) hI rfl ?_ ?_; rotate_left; (focus (rintro _ ⟨E, rfl⟩; go_simp; (try with_reducible rfl)))) | refine wpI_skip rfl (by kernel_rfl) (fun _ _ _ h => h) hI rfl ?_); simp only [Act.put, tk, Nat.reduceAdd])); refine wpI_till ?_)
 (refine wpI_from 15 ?_; (iterate 2 ((first | (refine wpI_take (v := ?_) rfl (by kernel_rfl) (fun _ _ _ h => h) hI rfl ?_ ?_; rotate_left; (focus (rintro _ ⟨E, rfl⟩; go_simp; (try with_reducible rfl)))) | refine wpI_skip rfl (by kernel_rfl) (fun _ _ _ h => h) hI rfl ?_); simp only [Act.put, tk, Nat.reduceAdd])); refine wpI_till ?_)
 (refine wpF_take_row 17 rfl (by kernel_rfl) (by kernel_rfl) (by kernel_rfl) (by kernel_rfl) (fun _ _ _ _ h => h) (by assumption) rfl 118 (.tmp 9) rfl w.heap.size rfl 118 _ (0, 0) _ (fun _ hS => InX.blk hS BC.out xx1) Try.underlying118 rfl (by kernel_rfl) ?_; simp only [Act.put, tk])
 (refine wpF_one 12 rfl (by kernel_rfl) rfl (fun K hK => ?_))
 go_simp
 have hkx0 := hK0.mono (Y := Ob p) (fun _ _ h => h.elim)
 refine (fun (H : ∀ x, x = v0.alloc (.cells (todoRow (.grp n q) (.slice (some ⟨b2, o2, none⟩) 1 cap) (.pointer po)) 115) → K _ x) => H _ rfl) ?_
 intro v1 hv1
 have P1 := Lib.hid (show TodoAt (Off p) v1 ((.grp n q) :: r) (.pointer (some ⟨v0.heap.size, 0, none⟩)) from hv1 ▸ TodoAt.push (p := p) (t := (.grp n q)) (r := r) (Nat.lt_of_lt_of_le lp2 hK0.size) (LiesP_keep hkx0 (fun _ hb hx => hb hx) HL2.out) (TodoAt.keep hkx0 HR2.out))
 have K1 := Lib.hid (show Keep Nb v0 v1 from hv1 ▸ Keep.alloc (Keep.refl _ _) _)
 clear hv1
 have HK1 := Lib.hid (hkx0.trans K1.out (fun _ _ h => h.elim))
 clear hkx0
 (refine hK _ _ (fun _ => InX.mk HK1.out) (fun hI => ?_); have hI := hI (by simp); clear hK K; try simp only [Act.put, tk])
 (refine wpF_take2 (v := ?_) 13 rfl (by kernel_rfl) (fun _ _ _ h => h) hI rfl ?_ ?_; rotate_left; (focus (rintro _ ⟨E, rfl⟩; go_simp; (try with_reducible rfl))); simp only [Act.put, tk])
 (refine wpF_one 14 rfl (by kernel_rfl) rfl (fun K hK => ?_))
 go_simp
 refine (fun (H : ∀ x, x = v1.alloc (.cells (todoRow (.node x9) (.slice A2 x9.l.length c2) (.pointer (some ⟨v0.heap.size, 0, none⟩))) 115) → K _ x) => H _ rfl) ?_
 intro v3 hv3
 have P3 := Lib.hid (show TodoAt (Off p) v3 ((.node x9) :: .grp n q :: r) (.pointer (some ⟨v1.heap.size, 0, none⟩)) from hv3 ▸ TodoAt.push (p := p) (t := (.node x9)) (r := .grp n q :: r) (Nat.lt_of_lt_of_le lp2 HK1.out.size) (LiesP_keep HK1.out (fun _ hb hx => hb hx) HX2.out) P1.out)
 have K3 := Lib.hid (show Keep Nb v1 v3 from hv3 ▸ Keep.alloc (Keep.refl _ _) _)
 clear hv3
 have HK3 := Lib.hid (HK1.out.trans (K3.out.mono (Y := Ob p) (fun _ _ h => h.elim)) (fun _ _ h => h))
 have F3 := Lib.hid (FP.out.keep (hK0.trans (K1.out.trans K3.out (fun _ _ h => h)) (fun _ _ h => h)) id)
 (refine hK _ _ (fun _ => InX.mk HK3.out) (fun hI => ?_); have hI := hI (by simp); clear hK K; try simp only [Act.put, tk])
 (refine wpF_one 18 rfl (by kernel_rfl) rfl (fun K hK => ?_))
 go_simp
 refine (hT1.out _ _ F3.out P3.out).mono ?_
 rintro y z1 ⟨he, hz, hkz⟩
 subst he
 have FZ := Lib.hid hz
 have KX := Lib.hid (HK3.out.trans hkz (fun _ _ h => h))
 clear hz hkz
 (refine hK _ _ (fun _ => InX.mk KX.out) (fun hI => ?_); have hI := hI (by simp); clear hK K; try simp only [Act.put, tk])
 (refine wpF_done (by kernel_rfl) ?_ _)
 have KZ := Lib.hid (KW.out.trans KX.out (fun _ _ h => h))
 go_wp2_with fail
 go_end0
 exact ⟨rfl, FZ.out, KZ.out⟩
set_option maxRecDepth 100000 in
set_option maxHeartbeats 4000000 in
theorem qnode_10 (p : Nat) (T : ByteArray) (e : Env) (k : Nat) (hT : T.toList = e.L) (h6 : T.size ≤ 600) (TH : QThrSaid p T e k) (n : Nd) (r : List Tk) (q : Nat) (c : Caps) (s s' : St) (b : Nat) (S nx : Value) (w : World)
  (h : thr (k + 1) e (.node n :: r) q c s = some s') (hok : TksOk q s.tries (.node n :: r)) (hs : StOk e s) (hq : q ≤ T.size) (hc : CapsOk T.size c) (hb : QAt w p T e s) (ho : s.over = false) (hbp : b ≠ p)
  (ht : Blk w b (todoRow (.node n) S nx) 115) (hn : LiesP (Off p) w n S) (hr : TodoAt (Off p) w r nx) (hk : n.h.k = 10) :
  Calls Try.prog 67 #[.pointer (some ⟨p, 0, none⟩), .pointer (some ⟨b, 0, none⟩), .int .i64 (e.start : Int), .int .i64 (q : Int), .agg (cRow c)] w fun x w' => x = .returned (.tuple #[]) ∧ QAt w' p T e s' ∧ Keep (Ob p) w w' := by
 obtain ⟨po, rfl⟩ := hr.ptr
 have ho' : ¬ s.over = true := by rw [ho]; simp
 rw [thr_10 _ _ _ _ _ _ ho' hk] at h
 obtain ⟨kk, rfl⟩ : ∃ i, k = i + 1 := by
  cases k with
  | zero => rw [rep.eq_def] at h; cases h
  | succ i => exact ⟨i, rfl⟩
 obtain ⟨A, cap, rfl, _, _⟩ := hn.kids
 have HY := Lib.hid (fun wx (hx : QAt wx p T e s) (hy : LiesP (Off p) wx n (.slice A n.l.length cap)) (hz : TodoAt (Off p) wx r (.pointer po)) => qrepeat_any p T e kk hT (TH.down (Nat.le_succ _)) n _ 0 r q c s s' _ wx h hs hok.head hk (Nat.zero_le _) hok.tail hq hc hx hy hz)
 have k6 : (n.h.k == 6) = false := bne_int (by omega)
 have k8 : (n.h.k == 8) = false := bne_int (by omega)
 have k9 : (n.h.k == 9) = false := bne_int (by omega)
 have k10 : (n.h.k == 10) = true := beq_int hk
 have lp := hb.lt
 have HCP := Lib.hid (show ¬ Ob p w.heap.size by unfold Ob; omega)
 have HQP := Lib.hid (show ¬ Ob p (w.heap.size + 1) by unfold Ob; omega)
 have HBP := Lib.hid (show ¬ Ob p b from hbp)
 have hb1 : Blk (w.alloc (.cells #[.int .i64 (fromI (c 0)), .int .i64 (fromI (c 1)), .int .i64 (fromI (c 2)), .int .i64 (fromI (c 3)), .int .i64 (fromI (c 4)), .int .i64 (fromI (c 5)), .int .i64 (fromI (c 6)), .int .i64 (fromI (c 7)), .int .i64 (fromI (c 8)), .int .i64 (fromI (c 9)), .int .i64 (toI (c 0)), .int .i64 (toI (c 1)), .int .i64 (toI (c 2)), .int .i64 (toI (c 3)), .int .i64 (toI (c 4)), .int .i64 (toI (c 5)), .int .i64 (toI (c 6)), .int .i64 (toI (c 7)), .int .i64 (toI (c 8)), .int .i64 (toI (c 9)), .bool (c 0).isSome, .bool (c 1).isSome, .bool (c 2).isSome, .bool (c 3).isSome, .bool (c 4).isSome, .bool (c 5).isSome, .bool (c 6).isSome, .bool (c 7).isSome, .bool (c 8).isSome, .bool (c 9).isSome] 118)) w.heap.size (cRow c) 118 := Blk.new w _ _
 have hbq : QAt (w.alloc (.cells #[.int .i64 (fromI (c 0)), .int .i64 (fromI (c 1)), .int .i64 (fromI (c 2)), .int .i64 (fromI (c 3)), .int .i64 (fromI (c 4)), .int .i64 (fromI (c 5)), .int .i64 (fromI (c 6)), .int .i64 (fromI (c 7)), .int .i64 (fromI (c 8)), .int .i64 (fromI (c 9)), .int .i64 (toI (c 0)), .int .i64 (toI (c 1)), .int .i64 (toI (c 2)), .int .i64 (toI (c 3)), .int .i64 (toI (c 4)), .int .i64 (toI (c 5)), .int .i64 (toI (c 6)), .int .i64 (toI (c 7)), .int .i64 (toI (c 8)), .int .i64 (toI (c 9)), .bool (c 0).isSome, .bool (c 1).isSome, .bool (c 2).isSome, .bool (c 3).isSome, .bool (c 4).isSome, .bool (c 5).isSome, .bool (c 6).isSome, .bool (c 7).isSome, .bool (c 8).isSome, .bool (c 9).isSome] 118)) p T e s := hb.alloc _
 have hk0 : Keep Nb w (w.alloc (.cells #[.int .i64 (fromI (c 0)), .int .i64 (fromI (c 1)), .int .i64 (fromI (c 2)), .int .i64 (fromI (c 3)), .int .i64 (fromI (c 4)), .int .i64 (fromI (c 5)), .int .i64 (fromI (c 6)), .int .i64 (fromI (c 7)), .int .i64 (fromI (c 8)), .int .i64 (fromI (c 9)), .int .i64 (toI (c 0)), .int .i64 (toI (c 1)), .int .i64 (toI (c 2)), .int .i64 (toI (c 3)), .int .i64 (toI (c 4)), .int .i64 (toI (c 5)), .int .i64 (toI (c 6)), .int .i64 (toI (c 7)), .int .i64 (toI (c 8)), .int .i64 (toI (c 9)), .bool (c 0).isSome, .bool (c 1).isSome, .bool (c 2).isSome, .bool (c 3).isSome, .bool (c 4).isSome, .bool (c 5).isSome, .bool (c 6).isSome, .bool (c 7).isSome, .bool (c 8).isSome, .bool (c 9).isSome] 118)) := Keep.alloc (Keep.refl _ _) _
 have htd := ht.alloc (.cells #[.int .i64 (fromI (c 0)), .int .i64 (fromI (c 1)), .int .i64 (fromI (c 2)), .int .i64 (fromI (c 3)), .int .i64 (fromI (c 4)), .int .i64 (fromI (c 5)), .int .i64 (fromI (c 6)), .int .i64 (fromI (c 7)), .int .i64 (fromI (c 8)), .int .i64 (fromI (c 9)), .int .i64 (toI (c 0)), .int .i64 (toI (c 1)), .int .i64 (toI (c 2)), .int .i64 (toI (c 3)), .int .i64 (toI (c 4)), .int .i64 (toI (c 5)), .int .i64 (toI (c 6)), .int .i64 (toI (c 7)), .int .i64 (toI (c 8)), .int .i64 (toI (c 9)), .bool (c 0).isSome, .bool (c 1).isSome, .bool (c 2).isSome, .bool (c 3).isSome, .bool (c 4).isSome, .bool (c 5).isSome, .bool (c 6).isSome, .bool (c 7).isSome, .bool (c 8).isSome, .bool (c 9).isSome] 118)
 have hsz1 : (w.alloc (.cells #[.int .i64 (fromI (c 0)), .int .i64 (fromI (c 1)), .int .i64 (fromI (c 2)), .int .i64 (fromI (c 3)), .int .i64 (fromI (c 4)), .int .i64 (fromI (c 5)), .int .i64 (fromI (c 6)), .int .i64 (fromI (c 7)), .int .i64 (fromI (c 8)), .int .i64 (fromI (c 9)), .int .i64 (toI (c 0)), .int .i64 (toI (c 1)), .int .i64 (toI (c 2)), .int .i64 (toI (c 3)), .int .i64 (toI (c 4)), .int .i64 (toI (c 5)), .int .i64 (toI (c 6)), .int .i64 (toI (c 7)), .int .i64 (toI (c 8)), .int .i64 (toI (c 9)), .bool (c 0).isSome, .bool (c 1).isSome, .bool (c 2).isSome, .bool (c 3).isSome, .bool (c 4).isSome, .bool (c 5).isSome, .bool (c 6).isSome, .bool (c 7).isSome, .bool (c 8).isSome, .bool (c 9).isSome] 118)).heap.size = w.heap.size + 1 := by simp
 have B1 := Lib.hid hb1
 have BP := Lib.hid hbq
 have BT := Lib.hid htd
 have K0 := Lib.hid hk0
 have SZ := Lib.hid hsz1
 have HO := Lib.hid ho
 have HNR := Lib.hid hn
 have HR := Lib.hid hr
 clear hb1 hbq hk0 htd hsz1
 clear h hs hok hq hc hb hn hr ho ho' ht hk TH hT h6 hbp
 simp only [cRow]
 go_enter Try.func67, Try.ntmps67
 go_upto_region 1 with fail
 generalize (w.alloc (.cells #[.int .i64 (fromI (c 0)), .int .i64 (fromI (c 1)), .int .i64 (fromI (c 2)), .int .i64 (fromI (c 3)), .int .i64 (fromI (c 4)), .int .i64 (fromI (c 5)), .int .i64 (fromI (c 6)), .int .i64 (fromI (c 7)), .int .i64 (fromI (c 8)), .int .i64 (fromI (c 9)), .int .i64 (toI (c 0)), .int .i64 (toI (c 1)), .int .i64 (toI (c 2)), .int .i64 (toI (c 3)), .int .i64 (toI (c 4)), .int .i64 (toI (c 5)), .int .i64 (toI (c 6)), .int .i64 (toI (c 7)), .int .i64 (toI (c 8)), .int .i64 (toI (c 9)), .bool (c 0).isSome, .bool (c 1).isSome, .bool (c 2).isSome, .bool (c 3).isSome, .bool (c 4).isSome, .bool (c 5).isSome, .bool (c 6).isSome, .bool (c 7).isSome, .bool (c 8).isSome, .bool (c 9).isSome] 118)) = w1 at B1 BP BT K0 SZ ⊢
 have c26 := BP.out.cell 26 (u := .bool s.over) rfl
 have lp1 := BP.out.lt
 rw [HO.out] at c26
 have t0 := BT.out.cell 0 (u := .int .i64 n.h.k) rfl
 have t1 := BT.out.cell 1 (u := .int .u8 n.h.c) rfl
 have t2 := BT.out.cell 2 (u := .int .u64 n.h.s0) rfl
 have t3 := BT.out.cell 3 (u := .int .u64 n.h.s1) rfl
 have t4 := BT.out.cell 4 (u := .int .u64 n.h.s2) rfl
 have t5 := BT.out.cell 5 (u := .int .u64 n.h.s3) rfl
 have t6 := BT.out.cell 6 (u := .int .i64 n.h.n) rfl
 have t7 := BT.out.cell 7 (u := .int .i64 n.h.mn) rfl
 have t8 := BT.out.cell 8 (u := .int .i64 n.h.mx) rfl
 have t9 := BT.out.cell 9 (u := .slice A n.l.length cap) rfl
 have t10 := BT.out.cell 10 (u := .int .i64 0) rfl
 have lt1 := BT.out.lt
 have z1 : Blk (w1.alloc (.cells #[.int .i64 n.h.k, .int .u8 n.h.c, .int .u64 n.h.s0, .int .u64 n.h.s1, .int .u64 n.h.s2, .int .u64 n.h.s3, .int .i64 n.h.n, .int .i64 n.h.mn, .int .i64 n.h.mx, .slice A n.l.length cap] 27)) w1.heap.size (Nd.row n (.slice A n.l.length cap)) 27 := Blk.new w1 _ _
 have q1 : QAt (w1.alloc (.cells #[.int .i64 n.h.k, .int .u8 n.h.c, .int .u64 n.h.s0, .int .u64 n.h.s1, .int .u64 n.h.s2, .int .u64 n.h.s3, .int .i64 n.h.n, .int .i64 n.h.mn, .int .i64 n.h.mx, .slice A n.l.length cap] 27)) p T e s := BP.out.alloc _
 have c1 : Blk (w1.alloc (.cells #[.int .i64 n.h.k, .int .u8 n.h.c, .int .u64 n.h.s0, .int .u64 n.h.s1, .int .u64 n.h.s2, .int .u64 n.h.s3, .int .i64 n.h.n, .int .i64 n.h.mn, .int .i64 n.h.mx, .slice A n.l.length cap] 27)) w.heap.size (cRow c) 118 := B1.out.alloc _
 have d1 : Blk (w1.alloc (.cells #[.int .i64 n.h.k, .int .u8 n.h.c, .int .u64 n.h.s0, .int .u64 n.h.s1, .int .u64 n.h.s2, .int .u64 n.h.s3, .int .i64 n.h.n, .int .i64 n.h.mn, .int .i64 n.h.mx, .slice A n.l.length cap] 27)) b (todoRow (.node n) (.slice A n.l.length cap) (.pointer po)) 115 := BT.out.alloc _
 have k2 : Keep Nb w (w1.alloc (.cells #[.int .i64 n.h.k, .int .u8 n.h.c, .int .u64 n.h.s0, .int .u64 n.h.s1, .int .u64 n.h.s2, .int .u64 n.h.s3, .int .i64 n.h.n, .int .i64 n.h.mn, .int .i64 n.h.mx, .slice A n.l.length cap] 27)) := Keep.alloc K0.out _
 have BN := Lib.hid z1
 have FP := Lib.hid q1
 have BC := Lib.hid c1
 have BD := Lib.hid d1
 have K2 := Lib.hid k2
 clear z1 q1 c1 d1 k2
 go_upto_region 21 with fail
 generalize (w1.alloc (.cells #[.int .i64 n.h.k, .int .u8 n.h.c, .int .u64 n.h.s0, .int .u64 n.h.s1, .int .u64 n.h.s2, .int .u64 n.h.s3, .int .i64 n.h.n, .int .i64 n.h.mn, .int .i64 n.h.mx, .slice A n.l.length cap] 27)) = w2 at BN FP BC BD K2 ⊢
 rw [SZ.out] at BN ⊢
 clear c26 lp1 t0 t1 t2 t3 t4 t5 t6 t7 t8 t9 t10 lt1 B1 BP BT K0 SZ
 have hN := BN.out
 (have y0 := Blk.cell hN 0 (u := .int .i64 n.h.k) rfl; have y1 := Blk.cell hN 1 (u := .int .u8 n.h.c) rfl; have y2 := Blk.cell hN 2 (u := .int .u64 n.h.s0) rfl; have y3 := Blk.cell hN 3 (u := .int .u64 n.h.s1) rfl; have y4 := Blk.cell hN 4 (u := .int .u64 n.h.s2) rfl; have y5 := Blk.cell hN 5 (u := .int .u64 n.h.s3) rfl; have y6 := Blk.cell hN 6 (u := .int .i64 n.h.n) rfl; have y7 := Blk.cell hN 7 (u := .int .i64 n.h.mn) rfl; have y8 := Blk.cell hN 8 (u := .int .i64 n.h.mx) rfl; have y9 := Blk.cell hN 9 (u := (.slice A n.l.length cap)) rfl)
 have ln := hN.lt
 have d13 := BD.out.cell 13 (u := .pointer po) rfl
 have ld := BD.out.lt
 have lc := BC.out.lt
 have lp2 := FP.out.lt
 clear hN
 have HL2 := Lib.hid (Lies_keep K2.out HNR.out)
 have HR2 := Lib.hid (TodoAt.keep (K2.out.mono (Y := Ob p) (fun _ _ h => h.elim)) HR.out)
 have KW := Lib.hid (K2.out.mono (Y := Ob p) (fun _ _ h => h.elim))
 go_wp2_with fail
 (refine wp_region_f [] (InX (Ob p) _) (by kernel_rfl) (InX.mk (Keep.drew (Keep.refl _ _))) (fun hI => ?_))
 have xx1 : ¬ Ob p w.heap.size := HCP.out
 have xx2 : ¬ Ob p b := HBP.out
 have xx4 : ¬ Ob p (w.heap.size + 1) := HQP.out
 have hK0 : Keep Nb w2 w2.drew := (Keep.refl _ _).drew
 generalize w2.drew = v0 at hK0 hI ⊢
 (refine wpF_take2 (v := ?_) 0 rfl (by kernel_rfl) (fun _ _ _ h => h) hI rfl ?_ ?_; rotate_left; (focus (rintro _ ⟨E, rfl⟩; go_simp; (try with_reducible rfl))); simp only [Act.put, tk])
 (refine wpF_take_row 1 rfl (by kernel_rfl) (by kernel_rfl) (by kernel_rfl) (by kernel_rfl) (fun _ _ _ _ h => h) (by assumption) rfl 27 (.tmp 11) rfl (w.heap.size + 1) rfl 27 _ (0, 0) _ (fun _ hS => InX.blk hS BN.out xx4) Try.underlying27 rfl (by kernel_rfl) ?_; simp only [Act.put, tk])
 (refine wpI_from 2 ?_; (iterate 6 ((first | (refine wpI_take (v := ?_) rfl (by kernel_rfl) (fun _ _ _ h => h) hI rfl ?_ ?_; rotate_left; (focus (rintro _ ⟨E, rfl⟩; go_simp; (try with_reducible rfl)))) | refine wpI_skip rfl (by kernel_rfl) (fun _ _ _ h => h) hI rfl ?_); simp only [Act.put, tk, Nat.reduceAdd])); refine wpI_till ?_)
 (refine wpF_take_row 8 rfl (by kernel_rfl) (by kernel_rfl) (by kernel_rfl) (by kernel_rfl) (fun _ _ _ _ h => h) (by assumption) rfl 118 (.tmp 9) rfl w.heap.size rfl 118 _ (0, 0) _ (fun _ hS => InX.blk hS BC.out xx1) Try.underlying118 rfl (by kernel_rfl) ?_; simp only [Act.put, tk])
 (refine wpF_one 9 rfl (by kernel_rfl) rfl (fun K hK => ?_))
 go_simp
 refine (HY.out _ (FP.out.keep hK0 id) (Lies_keep hK0 HL2.out) (TodoAt.keep (hK0.mono (fun _ _ h => h.elim)) HR2.out)).mono ?_
 rintro y z1 ⟨he, hz, hkz⟩
 subst he
 have FZ := Lib.hid hz
 have KX := Lib.hid ((hK0.mono (Y := Ob p) (fun _ _ h => h.elim)).trans hkz (fun _ _ h => h))
 clear hz hkz
 (refine hK _ _ (fun _ => InX.mk KX.out) (fun hI => ?_); have hI := hI (by simp); clear hK K; try simp only [Act.put, tk])
 (refine wpF_done (by kernel_rfl) ?_ _)
 have KZ := Lib.hid (KW.out.trans KX.out (fun _ _ h => h))
 go_wp2_with fail
 go_end0
 exact ⟨rfl, FZ.out, KZ.out⟩
theorem add_small {a b : Nat} (h : a + b ≤ 3000) : wrap64 ((a : Int) + (b : Int)) = (a : Int) + (b : Int) ∧ IntKind.i64.wrap ((a : Int) + (b : Int)) = (a : Int) + (b : Int) := ⟨wrap64_small (by omega), wrap_small (by omega)⟩
set_option maxRecDepth 100000 in
set_option maxHeartbeats 4000000 in
theorem qnode_leaf (p : Nat) (T : ByteArray) (e : Env) (k : Nat) (hT : T.toList = e.L) (h6 : T.size ≤ 600) (TH : QThrSaid p T e k) (n : Nd) (r : List Tk) (q : Nat) (c : Caps) (s s' : St) (b : Nat) (S nx : Value) (w : World)
  (h : thr (k + 1) e (.node n :: r) q c s = some s') (hok : TksOk q s.tries (.node n :: r)) (hs : StOk e s) (hq : q ≤ T.size) (hc : CapsOk T.size c) (hb : QAt w p T e s) (ho : s.over = false) (hbp : b ≠ p)
  (ht : Blk w b (todoRow (.node n) S nx) 115) (hn : LiesP (Off p) w n S) (hr : TodoAt (Off p) w r nx) (hk : leafK n.h.k) :
  Calls Try.prog 67 #[.pointer (some ⟨p, 0, none⟩), .pointer (some ⟨b, 0, none⟩), .int .i64 (e.start : Int), .int .i64 (q : Int), .agg (cRow c)] w fun x w' => x = .returned (.tuple #[]) ∧ QAt w' p T e s' ∧ Keep (Ob p) w w' := by
 obtain ⟨po, rfl⟩ := hr.ptr
 have ho' : ¬ s.over = true := by rw [ho]; simp
 rw [thr_leaf _ _ _ _ _ _ ho' hk] at h
 have HY := Lib.hid (fun wx hx => qtry_any p T e s wx ho hs.tries hx)
 obtain ⟨A, cap, rfl, _, _⟩ := hn.kids
 have hsz : T.size = e.L.length := by rw [← hT, toList_len]
 have k8 := bne_int hk.1
 have k9 := bne_int hk.2.1
 have k6 := bne_int hk.2.2.1
 have k10 := bne_int hk.2.2.2
 have lp := hb.lt
 have HCP := Lib.hid (show ¬ Ob p w.heap.size by unfold Ob; omega)
 have HQP := Lib.hid (show ¬ Ob p (w.heap.size + 1) by unfold Ob; omega)
 have HBP := Lib.hid (show ¬ Ob p b from hbp)
 have hb1 : Blk (w.alloc (.cells #[.int .i64 (fromI (c 0)), .int .i64 (fromI (c 1)), .int .i64 (fromI (c 2)), .int .i64 (fromI (c 3)), .int .i64 (fromI (c 4)), .int .i64 (fromI (c 5)), .int .i64 (fromI (c 6)), .int .i64 (fromI (c 7)), .int .i64 (fromI (c 8)), .int .i64 (fromI (c 9)), .int .i64 (toI (c 0)), .int .i64 (toI (c 1)), .int .i64 (toI (c 2)), .int .i64 (toI (c 3)), .int .i64 (toI (c 4)), .int .i64 (toI (c 5)), .int .i64 (toI (c 6)), .int .i64 (toI (c 7)), .int .i64 (toI (c 8)), .int .i64 (toI (c 9)), .bool (c 0).isSome, .bool (c 1).isSome, .bool (c 2).isSome, .bool (c 3).isSome, .bool (c 4).isSome, .bool (c 5).isSome, .bool (c 6).isSome, .bool (c 7).isSome, .bool (c 8).isSome, .bool (c 9).isSome] 118)) w.heap.size (cRow c) 118 := Blk.new w _ _
 have hbq : QAt (w.alloc (.cells #[.int .i64 (fromI (c 0)), .int .i64 (fromI (c 1)), .int .i64 (fromI (c 2)), .int .i64 (fromI (c 3)), .int .i64 (fromI (c 4)), .int .i64 (fromI (c 5)), .int .i64 (fromI (c 6)), .int .i64 (fromI (c 7)), .int .i64 (fromI (c 8)), .int .i64 (fromI (c 9)), .int .i64 (toI (c 0)), .int .i64 (toI (c 1)), .int .i64 (toI (c 2)), .int .i64 (toI (c 3)), .int .i64 (toI (c 4)), .int .i64 (toI (c 5)), .int .i64 (toI (c 6)), .int .i64 (toI (c 7)), .int .i64 (toI (c 8)), .int .i64 (toI (c 9)), .bool (c 0).isSome, .bool (c 1).isSome, .bool (c 2).isSome, .bool (c 3).isSome, .bool (c 4).isSome, .bool (c 5).isSome, .bool (c 6).isSome, .bool (c 7).isSome, .bool (c 8).isSome, .bool (c 9).isSome] 118)) p T e s := hb.alloc _
 have hk0 : Keep Nb w (w.alloc (.cells #[.int .i64 (fromI (c 0)), .int .i64 (fromI (c 1)), .int .i64 (fromI (c 2)), .int .i64 (fromI (c 3)), .int .i64 (fromI (c 4)), .int .i64 (fromI (c 5)), .int .i64 (fromI (c 6)), .int .i64 (fromI (c 7)), .int .i64 (fromI (c 8)), .int .i64 (fromI (c 9)), .int .i64 (toI (c 0)), .int .i64 (toI (c 1)), .int .i64 (toI (c 2)), .int .i64 (toI (c 3)), .int .i64 (toI (c 4)), .int .i64 (toI (c 5)), .int .i64 (toI (c 6)), .int .i64 (toI (c 7)), .int .i64 (toI (c 8)), .int .i64 (toI (c 9)), .bool (c 0).isSome, .bool (c 1).isSome, .bool (c 2).isSome, .bool (c 3).isSome, .bool (c 4).isSome, .bool (c 5).isSome, .bool (c 6).isSome, .bool (c 7).isSome, .bool (c 8).isSome, .bool (c 9).isSome] 118)) := Keep.alloc (Keep.refl _ _) _
 have htd := ht.alloc (.cells #[.int .i64 (fromI (c 0)), .int .i64 (fromI (c 1)), .int .i64 (fromI (c 2)), .int .i64 (fromI (c 3)), .int .i64 (fromI (c 4)), .int .i64 (fromI (c 5)), .int .i64 (fromI (c 6)), .int .i64 (fromI (c 7)), .int .i64 (fromI (c 8)), .int .i64 (fromI (c 9)), .int .i64 (toI (c 0)), .int .i64 (toI (c 1)), .int .i64 (toI (c 2)), .int .i64 (toI (c 3)), .int .i64 (toI (c 4)), .int .i64 (toI (c 5)), .int .i64 (toI (c 6)), .int .i64 (toI (c 7)), .int .i64 (toI (c 8)), .int .i64 (toI (c 9)), .bool (c 0).isSome, .bool (c 1).isSome, .bool (c 2).isSome, .bool (c 3).isSome, .bool (c 4).isSome, .bool (c 5).isSome, .bool (c 6).isSome, .bool (c 7).isSome, .bool (c 8).isSome, .bool (c 9).isSome] 118)
 have hsz1 : (w.alloc (.cells #[.int .i64 (fromI (c 0)), .int .i64 (fromI (c 1)), .int .i64 (fromI (c 2)), .int .i64 (fromI (c 3)), .int .i64 (fromI (c 4)), .int .i64 (fromI (c 5)), .int .i64 (fromI (c 6)), .int .i64 (fromI (c 7)), .int .i64 (fromI (c 8)), .int .i64 (fromI (c 9)), .int .i64 (toI (c 0)), .int .i64 (toI (c 1)), .int .i64 (toI (c 2)), .int .i64 (toI (c 3)), .int .i64 (toI (c 4)), .int .i64 (toI (c 5)), .int .i64 (toI (c 6)), .int .i64 (toI (c 7)), .int .i64 (toI (c 8)), .int .i64 (toI (c 9)), .bool (c 0).isSome, .bool (c 1).isSome, .bool (c 2).isSome, .bool (c 3).isSome, .bool (c 4).isSome, .bool (c 5).isSome, .bool (c 6).isSome, .bool (c 7).isSome, .bool (c 8).isSome, .bool (c 9).isSome] 118)).heap.size = w.heap.size + 1 := by simp
 have B1 := Lib.hid hb1
 have BP := Lib.hid hbq
 have BT := Lib.hid htd
 have K0 := Lib.hid hk0
 have SZ := Lib.hid hsz1
 have HO := Lib.hid ho
 have HNR := Lib.hid hn
 have HR := Lib.hid hr
 clear hb1 hbq hk0 htd hsz1
 unfold leafF at h
 rcases tryS_cases s with ⟨_, e1⟩ | ⟨hne, e1⟩
 ·rw [e1] at h HY
  cases h
  clear hs hok hq hc hb hr ho ho' hk TH e1 hn ht hT h6 hbp hsz
  simp only [cRow]
  go_enter Try.func67, Try.ntmps67
  go_upto_region 1 with fail
  generalize (w.alloc (.cells #[.int .i64 (fromI (c 0)), .int .i64 (fromI (c 1)), .int .i64 (fromI (c 2)), .int .i64 (fromI (c 3)), .int .i64 (fromI (c 4)), .int .i64 (fromI (c 5)), .int .i64 (fromI (c 6)), .int .i64 (fromI (c 7)), .int .i64 (fromI (c 8)), .int .i64 (fromI (c 9)), .int .i64 (toI (c 0)), .int .i64 (toI (c 1)), .int .i64 (toI (c 2)), .int .i64 (toI (c 3)), .int .i64 (toI (c 4)), .int .i64 (toI (c 5)), .int .i64 (toI (c 6)), .int .i64 (toI (c 7)), .int .i64 (toI (c 8)), .int .i64 (toI (c 9)), .bool (c 0).isSome, .bool (c 1).isSome, .bool (c 2).isSome, .bool (c 3).isSome, .bool (c 4).isSome, .bool (c 5).isSome, .bool (c 6).isSome, .bool (c 7).isSome, .bool (c 8).isSome, .bool (c 9).isSome] 118)) = w1 at B1 BP BT K0 SZ ⊢
  have c26 := BP.out.cell 26 (u := .bool s.over) rfl
  have lp1 := BP.out.lt
  rw [HO.out] at c26
  have t0 := BT.out.cell 0 (u := .int .i64 n.h.k) rfl
  have t1 := BT.out.cell 1 (u := .int .u8 n.h.c) rfl
  have t2 := BT.out.cell 2 (u := .int .u64 n.h.s0) rfl
  have t3 := BT.out.cell 3 (u := .int .u64 n.h.s1) rfl
  have t4 := BT.out.cell 4 (u := .int .u64 n.h.s2) rfl
  have t5 := BT.out.cell 5 (u := .int .u64 n.h.s3) rfl
  have t6 := BT.out.cell 6 (u := .int .i64 n.h.n) rfl
  have t7 := BT.out.cell 7 (u := .int .i64 n.h.mn) rfl
  have t8 := BT.out.cell 8 (u := .int .i64 n.h.mx) rfl
  have t9 := BT.out.cell 9 (u := .slice A n.l.length cap) rfl
  have t10 := BT.out.cell 10 (u := .int .i64 0) rfl
  have lt1 := BT.out.lt
  have z1 : Blk (w1.alloc (.cells #[.int .i64 n.h.k, .int .u8 n.h.c, .int .u64 n.h.s0, .int .u64 n.h.s1, .int .u64 n.h.s2, .int .u64 n.h.s3, .int .i64 n.h.n, .int .i64 n.h.mn, .int .i64 n.h.mx, .slice A n.l.length cap] 27)) w1.heap.size (Nd.row n (.slice A n.l.length cap)) 27 := Blk.new w1 _ _
  have q1 : QAt (w1.alloc (.cells #[.int .i64 n.h.k, .int .u8 n.h.c, .int .u64 n.h.s0, .int .u64 n.h.s1, .int .u64 n.h.s2, .int .u64 n.h.s3, .int .i64 n.h.n, .int .i64 n.h.mn, .int .i64 n.h.mx, .slice A n.l.length cap] 27)) p T e s := BP.out.alloc _
  have c1 : Blk (w1.alloc (.cells #[.int .i64 n.h.k, .int .u8 n.h.c, .int .u64 n.h.s0, .int .u64 n.h.s1, .int .u64 n.h.s2, .int .u64 n.h.s3, .int .i64 n.h.n, .int .i64 n.h.mn, .int .i64 n.h.mx, .slice A n.l.length cap] 27)) w.heap.size (cRow c) 118 := B1.out.alloc _
  have d1 : Blk (w1.alloc (.cells #[.int .i64 n.h.k, .int .u8 n.h.c, .int .u64 n.h.s0, .int .u64 n.h.s1, .int .u64 n.h.s2, .int .u64 n.h.s3, .int .i64 n.h.n, .int .i64 n.h.mn, .int .i64 n.h.mx, .slice A n.l.length cap] 27)) b (todoRow (.node n) (.slice A n.l.length cap) (.pointer po)) 115 := BT.out.alloc _
  have k2 : Keep Nb w (w1.alloc (.cells #[.int .i64 n.h.k, .int .u8 n.h.c, .int .u64 n.h.s0, .int .u64 n.h.s1, .int .u64 n.h.s2, .int .u64 n.h.s3, .int .i64 n.h.n, .int .i64 n.h.mn, .int .i64 n.h.mx, .slice A n.l.length cap] 27)) := Keep.alloc K0.out _
  have BN := Lib.hid z1
  have FP := Lib.hid q1
  have BC := Lib.hid c1
  have BD := Lib.hid d1
  have K2 := Lib.hid k2
  clear z1 q1 c1 d1 k2
  go_upto_region 21 with fail
  generalize (w1.alloc (.cells #[.int .i64 n.h.k, .int .u8 n.h.c, .int .u64 n.h.s0, .int .u64 n.h.s1, .int .u64 n.h.s2, .int .u64 n.h.s3, .int .i64 n.h.n, .int .i64 n.h.mn, .int .i64 n.h.mx, .slice A n.l.length cap] 27)) = w2 at BN FP BC BD K2 ⊢
  rw [SZ.out] at BN ⊢
  clear c26 lp1 t0 t1 t2 t3 t4 t5 t6 t7 t8 t9 t10 lt1 B1 BP BT K0 SZ
  have hN := BN.out
  (have y0 := Blk.cell hN 0 (u := .int .i64 n.h.k) rfl; have y1 := Blk.cell hN 1 (u := .int .u8 n.h.c) rfl; have y2 := Blk.cell hN 2 (u := .int .u64 n.h.s0) rfl; have y3 := Blk.cell hN 3 (u := .int .u64 n.h.s1) rfl; have y4 := Blk.cell hN 4 (u := .int .u64 n.h.s2) rfl; have y5 := Blk.cell hN 5 (u := .int .u64 n.h.s3) rfl; have y6 := Blk.cell hN 6 (u := .int .i64 n.h.n) rfl; have y7 := Blk.cell hN 7 (u := .int .i64 n.h.mn) rfl; have y8 := Blk.cell hN 8 (u := .int .i64 n.h.mx) rfl; have y9 := Blk.cell hN 9 (u := (.slice A n.l.length cap)) rfl)
  have ln := hN.lt
  have d13 := BD.out.cell 13 (u := .pointer po) rfl
  have ld := BD.out.lt
  have lc := BC.out.lt
  have lp2 := FP.out.lt
  clear hN
  have HL2 := Lib.hid (Lies_keep K2.out HNR.out)
  have HR2 := Lib.hid (TodoAt.keep (K2.out.mono (Y := Ob p) (fun _ _ h => h.elim)) HR.out)
  have KW := Lib.hid (K2.out.mono (Y := Ob p) (fun _ _ h => h.elim))
  go_wp2_with fail
  refine (HY.out _ FP.out).mono ?_
  rintro x z1 ⟨rfl, hf1, hk1⟩
  have F1 := Lib.hid hf1
  have K1 := Lib.hid (KW.out.trans hk1 (fun _ _ h => h))
  clear hf1 hk1
  go_wp2_with fail
  exact bodyPost_ret (results_none Try.results67 _ _ _) rfl ⟨rfl, F1.out, K1.out⟩
 ·rw [e1] at h HY
  simp only [] at h
  have HF := Lib.hid (fun wx (hx : QAt wx p T e { s with tries := s.tries + 1 }) => qfits_any p T e _ c n (.slice A n.l.length cap) q wx hT h6 hq hc hx (okT_head hok.head))
  cases hf : fitsF e n.h q c with
  | none =>
   rw [hf] at h HF
   cases h
   simp only [fitsI] at HF
   clear hs hok hq hc hb hr ho ho' hk TH e1 hf hn ht hT h6 hbp hsz hne
   simp only [cRow]
   go_enter Try.func67, Try.ntmps67
   go_upto_region 1 with fail
   generalize (w.alloc (.cells #[.int .i64 (fromI (c 0)), .int .i64 (fromI (c 1)), .int .i64 (fromI (c 2)), .int .i64 (fromI (c 3)), .int .i64 (fromI (c 4)), .int .i64 (fromI (c 5)), .int .i64 (fromI (c 6)), .int .i64 (fromI (c 7)), .int .i64 (fromI (c 8)), .int .i64 (fromI (c 9)), .int .i64 (toI (c 0)), .int .i64 (toI (c 1)), .int .i64 (toI (c 2)), .int .i64 (toI (c 3)), .int .i64 (toI (c 4)), .int .i64 (toI (c 5)), .int .i64 (toI (c 6)), .int .i64 (toI (c 7)), .int .i64 (toI (c 8)), .int .i64 (toI (c 9)), .bool (c 0).isSome, .bool (c 1).isSome, .bool (c 2).isSome, .bool (c 3).isSome, .bool (c 4).isSome, .bool (c 5).isSome, .bool (c 6).isSome, .bool (c 7).isSome, .bool (c 8).isSome, .bool (c 9).isSome] 118)) = w1 at B1 BP BT K0 SZ ⊢
   have c26 := BP.out.cell 26 (u := .bool s.over) rfl
   have lp1 := BP.out.lt
   rw [HO.out] at c26
   have t0 := BT.out.cell 0 (u := .int .i64 n.h.k) rfl
   have t1 := BT.out.cell 1 (u := .int .u8 n.h.c) rfl
   have t2 := BT.out.cell 2 (u := .int .u64 n.h.s0) rfl
   have t3 := BT.out.cell 3 (u := .int .u64 n.h.s1) rfl
   have t4 := BT.out.cell 4 (u := .int .u64 n.h.s2) rfl
   have t5 := BT.out.cell 5 (u := .int .u64 n.h.s3) rfl
   have t6 := BT.out.cell 6 (u := .int .i64 n.h.n) rfl
   have t7 := BT.out.cell 7 (u := .int .i64 n.h.mn) rfl
   have t8 := BT.out.cell 8 (u := .int .i64 n.h.mx) rfl
   have t9 := BT.out.cell 9 (u := .slice A n.l.length cap) rfl
   have t10 := BT.out.cell 10 (u := .int .i64 0) rfl
   have lt1 := BT.out.lt
   have z1 : Blk (w1.alloc (.cells #[.int .i64 n.h.k, .int .u8 n.h.c, .int .u64 n.h.s0, .int .u64 n.h.s1, .int .u64 n.h.s2, .int .u64 n.h.s3, .int .i64 n.h.n, .int .i64 n.h.mn, .int .i64 n.h.mx, .slice A n.l.length cap] 27)) w1.heap.size (Nd.row n (.slice A n.l.length cap)) 27 := Blk.new w1 _ _
   have q1 : QAt (w1.alloc (.cells #[.int .i64 n.h.k, .int .u8 n.h.c, .int .u64 n.h.s0, .int .u64 n.h.s1, .int .u64 n.h.s2, .int .u64 n.h.s3, .int .i64 n.h.n, .int .i64 n.h.mn, .int .i64 n.h.mx, .slice A n.l.length cap] 27)) p T e s := BP.out.alloc _
   have c1 : Blk (w1.alloc (.cells #[.int .i64 n.h.k, .int .u8 n.h.c, .int .u64 n.h.s0, .int .u64 n.h.s1, .int .u64 n.h.s2, .int .u64 n.h.s3, .int .i64 n.h.n, .int .i64 n.h.mn, .int .i64 n.h.mx, .slice A n.l.length cap] 27)) w.heap.size (cRow c) 118 := B1.out.alloc _
   have d1 : Blk (w1.alloc (.cells #[.int .i64 n.h.k, .int .u8 n.h.c, .int .u64 n.h.s0, .int .u64 n.h.s1, .int .u64 n.h.s2, .int .u64 n.h.s3, .int .i64 n.h.n, .int .i64 n.h.mn, .int .i64 n.h.mx, .slice A n.l.length cap] 27)) b (todoRow (.node n) (.slice A n.l.length cap) (.pointer po)) 115 := BT.out.alloc _
   have k2 : Keep Nb w (w1.alloc (.cells #[.int .i64 n.h.k, .int .u8 n.h.c, .int .u64 n.h.s0, .int .u64 n.h.s1, .int .u64 n.h.s2, .int .u64 n.h.s3, .int .i64 n.h.n, .int .i64 n.h.mn, .int .i64 n.h.mx, .slice A n.l.length cap] 27)) := Keep.alloc K0.out _
   have BN := Lib.hid z1
   have FP := Lib.hid q1
   have BC := Lib.hid c1
   have BD := Lib.hid d1
   have K2 := Lib.hid k2
   clear z1 q1 c1 d1 k2
   go_upto_region 21 with fail
   generalize (w1.alloc (.cells #[.int .i64 n.h.k, .int .u8 n.h.c, .int .u64 n.h.s0, .int .u64 n.h.s1, .int .u64 n.h.s2, .int .u64 n.h.s3, .int .i64 n.h.n, .int .i64 n.h.mn, .int .i64 n.h.mx, .slice A n.l.length cap] 27)) = w2 at BN FP BC BD K2 ⊢
   rw [SZ.out] at BN ⊢
   clear c26 lp1 t0 t1 t2 t3 t4 t5 t6 t7 t8 t9 t10 lt1 B1 BP BT K0 SZ
   have hN := BN.out
   (have y0 := Blk.cell hN 0 (u := .int .i64 n.h.k) rfl; have y1 := Blk.cell hN 1 (u := .int .u8 n.h.c) rfl; have y2 := Blk.cell hN 2 (u := .int .u64 n.h.s0) rfl; have y3 := Blk.cell hN 3 (u := .int .u64 n.h.s1) rfl; have y4 := Blk.cell hN 4 (u := .int .u64 n.h.s2) rfl; have y5 := Blk.cell hN 5 (u := .int .u64 n.h.s3) rfl; have y6 := Blk.cell hN 6 (u := .int .i64 n.h.n) rfl; have y7 := Blk.cell hN 7 (u := .int .i64 n.h.mn) rfl; have y8 := Blk.cell hN 8 (u := .int .i64 n.h.mx) rfl; have y9 := Blk.cell hN 9 (u := (.slice A n.l.length cap)) rfl)
   have ln := hN.lt
   have d13 := BD.out.cell 13 (u := .pointer po) rfl
   have ld := BD.out.lt
   have lc := BC.out.lt
   have lp2 := FP.out.lt
   clear hN
   have HL2 := Lib.hid (Lies_keep K2.out HNR.out)
   have HR2 := Lib.hid (TodoAt.keep (K2.out.mono (Y := Ob p) (fun _ _ h => h.elim)) HR.out)
   have KW := Lib.hid (K2.out.mono (Y := Ob p) (fun _ _ h => h.elim))
   go_wp2_with fail
   refine (HY.out _ FP.out).mono ?_
   rintro x z1 ⟨rfl, hf1, hk1⟩
   have F1 := Lib.hid hf1
   have BN1 := Lib.hid (BN.out.keep hk1 HQP.out)
   have BC1 := Lib.hid (BC.out.keep hk1 HCP.out)
   have K1 := Lib.hid (KW.out.trans hk1 (fun _ _ h => h))
   clear hf1 hk1 y0 y1 y2 y3 y4 y5 y6 y7 y8 y9 ln d13 ld lc lp2
   go_wp2_with (first | (refine wpList_load_row rfl 27 (.tmp 11) rfl (w.heap.size + 1) rfl 27 (Nd.row n (.slice A n.l.length cap)) (0, 0) _ BN1.out Try.underlying27 rfl (by kernel_rfl) ?_) | (refine wpList_load_row rfl 118 (.tmp 9) rfl w.heap.size rfl 118 (cRow c) (0, 0) _ BC1.out Try.underlying118 rfl (by kernel_rfl) ?_))
   refine (HF.out _ F1.out).mono ?_
   rintro x w3 ⟨rfl, hk2⟩
   have F2 := Lib.hid (F1.out.keep hk2 id)
   have K3 := Lib.hid (K1.out.trans hk2 (fun _ _ h => h.elim))
   clear hk2
   go_wp2_with fail
   go_end0
   exact ⟨rfl, F2.out, K3.out⟩
  | some j =>
   rw [hf] at h HF
   simp only [fitsI] at h HF
   have hle := fitsF_le hf (by omega) (by rw [← hsz]; exact hc)
   have hT1 := Lib.hid (fun wx tv hx hy => TH r (q + j) c _ s' tv wx h (hs.tries_up hne) (hok.tail.mono (Nat.le_add_right _ _) (by simp only []; omega)) (by omega) hc hx hy)
   have hq3 : q + j ≤ 3000 := by omega
   have HW := Lib.hid (add_small hq3)
   have i0 : (0 : Int) ≤ (j : Int) := by omega
   have i1 : decide ((0 : Int) ≤ (j : Int)) = true := by simp
   rw [show ((q + j : Nat) : Int) = (q : Int) + (j : Int) from rfl] at hT1
   clear h hs hok hq hc hb hr ho ho' hk TH e1 hf hle hq3 hsz hT hn ht h6 hbp hne
   simp only [cRow]
   go_enter Try.func67, Try.ntmps67
   go_upto_region 1 with fail
   generalize (w.alloc (.cells #[.int .i64 (fromI (c 0)), .int .i64 (fromI (c 1)), .int .i64 (fromI (c 2)), .int .i64 (fromI (c 3)), .int .i64 (fromI (c 4)), .int .i64 (fromI (c 5)), .int .i64 (fromI (c 6)), .int .i64 (fromI (c 7)), .int .i64 (fromI (c 8)), .int .i64 (fromI (c 9)), .int .i64 (toI (c 0)), .int .i64 (toI (c 1)), .int .i64 (toI (c 2)), .int .i64 (toI (c 3)), .int .i64 (toI (c 4)), .int .i64 (toI (c 5)), .int .i64 (toI (c 6)), .int .i64 (toI (c 7)), .int .i64 (toI (c 8)), .int .i64 (toI (c 9)), .bool (c 0).isSome, .bool (c 1).isSome, .bool (c 2).isSome, .bool (c 3).isSome, .bool (c 4).isSome, .bool (c 5).isSome, .bool (c 6).isSome, .bool (c 7).isSome, .bool (c 8).isSome, .bool (c 9).isSome] 118)) = w1 at B1 BP BT K0 SZ ⊢
   have c26 := BP.out.cell 26 (u := .bool s.over) rfl
   have lp1 := BP.out.lt
   rw [HO.out] at c26
   have t0 := BT.out.cell 0 (u := .int .i64 n.h.k) rfl
   have t1 := BT.out.cell 1 (u := .int .u8 n.h.c) rfl
   have t2 := BT.out.cell 2 (u := .int .u64 n.h.s0) rfl
   have t3 := BT.out.cell 3 (u := .int .u64 n.h.s1) rfl
   have t4 := BT.out.cell 4 (u := .int .u64 n.h.s2) rfl
   have t5 := BT.out.cell 5 (u := .int .u64 n.h.s3) rfl
   have t6 := BT.out.cell 6 (u := .int .i64 n.h.n) rfl
   have t7 := BT.out.cell 7 (u := .int .i64 n.h.mn) rfl
   have t8 := BT.out.cell 8 (u := .int .i64 n.h.mx) rfl
   have t9 := BT.out.cell 9 (u := .slice A n.l.length cap) rfl
   have t10 := BT.out.cell 10 (u := .int .i64 0) rfl
   have lt1 := BT.out.lt
   have z1 : Blk (w1.alloc (.cells #[.int .i64 n.h.k, .int .u8 n.h.c, .int .u64 n.h.s0, .int .u64 n.h.s1, .int .u64 n.h.s2, .int .u64 n.h.s3, .int .i64 n.h.n, .int .i64 n.h.mn, .int .i64 n.h.mx, .slice A n.l.length cap] 27)) w1.heap.size (Nd.row n (.slice A n.l.length cap)) 27 := Blk.new w1 _ _
   have q1 : QAt (w1.alloc (.cells #[.int .i64 n.h.k, .int .u8 n.h.c, .int .u64 n.h.s0, .int .u64 n.h.s1, .int .u64 n.h.s2, .int .u64 n.h.s3, .int .i64 n.h.n, .int .i64 n.h.mn, .int .i64 n.h.mx, .slice A n.l.length cap] 27)) p T e s := BP.out.alloc _
   have c1 : Blk (w1.alloc (.cells #[.int .i64 n.h.k, .int .u8 n.h.c, .int .u64 n.h.s0, .int .u64 n.h.s1, .int .u64 n.h.s2, .int .u64 n.h.s3, .int .i64 n.h.n, .int .i64 n.h.mn, .int .i64 n.h.mx, .slice A n.l.length cap] 27)) w.heap.size (cRow c) 118 := B1.out.alloc _
   have d1 : Blk (w1.alloc (.cells #[.int .i64 n.h.k, .int .u8 n.h.c, .int .u64 n.h.s0, .int .u64 n.h.s1, .int .u64 n.h.s2, .int .u64 n.h.s3, .int .i64 n.h.n, .int .i64 n.h.mn, .int .i64 n.h.mx, .slice A n.l.length cap] 27)) b (todoRow (.node n) (.slice A n.l.length cap) (.pointer po)) 115 := BT.out.alloc _
   have k2 : Keep Nb w (w1.alloc (.cells #[.int .i64 n.h.k, .int .u8 n.h.c, .int .u64 n.h.s0, .int .u64 n.h.s1, .int .u64 n.h.s2, .int .u64 n.h.s3, .int .i64 n.h.n, .int .i64 n.h.mn, .int .i64 n.h.mx, .slice A n.l.length cap] 27)) := Keep.alloc K0.out _
   have BN := Lib.hid z1
   have FP := Lib.hid q1
   have BC := Lib.hid c1
   have BD := Lib.hid d1
   have K2 := Lib.hid k2
   clear z1 q1 c1 d1 k2
   go_upto_region 21 with fail
   generalize (w1.alloc (.cells #[.int .i64 n.h.k, .int .u8 n.h.c, .int .u64 n.h.s0, .int .u64 n.h.s1, .int .u64 n.h.s2, .int .u64 n.h.s3, .int .i64 n.h.n, .int .i64 n.h.mn, .int .i64 n.h.mx, .slice A n.l.length cap] 27)) = w2 at BN FP BC BD K2 ⊢
   rw [SZ.out] at BN ⊢
   clear c26 lp1 t0 t1 t2 t3 t4 t5 t6 t7 t8 t9 t10 lt1 B1 BP BT K0 SZ
   have hN := BN.out
   (have y0 := Blk.cell hN 0 (u := .int .i64 n.h.k) rfl; have y1 := Blk.cell hN 1 (u := .int .u8 n.h.c) rfl; have y2 := Blk.cell hN 2 (u := .int .u64 n.h.s0) rfl; have y3 := Blk.cell hN 3 (u := .int .u64 n.h.s1) rfl; have y4 := Blk.cell hN 4 (u := .int .u64 n.h.s2) rfl; have y5 := Blk.cell hN 5 (u := .int .u64 n.h.s3) rfl; have y6 := Blk.cell hN 6 (u := .int .i64 n.h.n) rfl; have y7 := Blk.cell hN 7 (u := .int .i64 n.h.mn) rfl; have y8 := Blk.cell hN 8 (u := .int .i64 n.h.mx) rfl; have y9 := Blk.cell hN 9 (u := (.slice A n.l.length cap)) rfl)
   have ln := hN.lt
   have d13 := BD.out.cell 13 (u := .pointer po) rfl
   have ld := BD.out.lt
   have lc := BC.out.lt
   have lp2 := FP.out.lt
   clear hN
   have HL2 := Lib.hid (Lies_keep K2.out HNR.out)
   have HR2 := Lib.hid (TodoAt.keep (K2.out.mono (Y := Ob p) (fun _ _ h => h.elim)) HR.out)
   have KW := Lib.hid (K2.out.mono (Y := Ob p) (fun _ _ h => h.elim))
   go_wp2_with fail
   refine (HY.out _ FP.out).mono ?_
   rintro x z1 ⟨rfl, hf1, hk1⟩
   have F1 := Lib.hid hf1
   have BN1 := Lib.hid (BN.out.keep hk1 HQP.out)
   have BC1 := Lib.hid (BC.out.keep hk1 HCP.out)
   have BD1 := Lib.hid (BD.out.keep hk1 HBP.out)
   have K1 := Lib.hid (KW.out.trans hk1 (fun _ _ h => h))
   clear hf1 hk1 y0 y1 y2 y3 y4 y5 y6 y7 y8 y9 ln d13 ld lc lp2
   go_wp2_with (first | (refine wpList_load_row rfl 27 (.tmp 11) rfl (w.heap.size + 1) rfl 27 (Nd.row n (.slice A n.l.length cap)) (0, 0) _ BN1.out Try.underlying27 rfl (by kernel_rfl) ?_) | (refine wpList_load_row rfl 118 (.tmp 9) rfl w.heap.size rfl 118 (cRow c) (0, 0) _ BC1.out Try.underlying118 rfl (by kernel_rfl) ?_))
   refine (HF.out _ F1.out).mono ?_
   rintro x w3 ⟨rfl, hk2⟩
   have F2 := Lib.hid (F1.out.keep hk2 id)
   have K3 := Lib.hid (K1.out.trans hk2 (fun _ _ h => h.elim))
   have BC := Lib.hid (BC1.out.keep hk2 id)
   have d13 := (BD1.out.keep hk2 id).cell 13 (u := .pointer po) rfl
   have ld := (BD1.out.keep hk2 id).lt
   clear hk2
   have HR3 := Lib.hid (TodoAt.keep K3.out HR.out)
   have hw := HW.out.1
   have hw2 := HW.out.2
   go_wp2_with fail
   (refine wp_region_f [] (InX (Ob p) _) (by kernel_rfl) (InX.mk (Keep.drew (Keep.refl _ _))) (fun hI => ?_))
   have xx1 : ¬ Ob p w.heap.size := HCP.out
   have xx2 : ¬ Ob p b := HBP.out
   have hK0 : Keep Nb w3 w3.drew := (Keep.refl _ _).drew
   generalize w3.drew = v0 at hK0 hI ⊢
   (refine wpI_from 0 ?_; (iterate 9 ((first | (refine wpI_take (v := ?_) rfl (by kernel_rfl) (fun _ _ _ h => h) hI rfl ?_ ?_; rotate_left; (focus (rintro _ ⟨E, rfl⟩; go_simp; (try with_reducible rfl)))) | refine wpI_skip rfl (by kernel_rfl) (fun _ _ _ h => h) hI rfl ?_); simp only [Act.put, tk, Nat.reduceAdd])); refine wpI_till ?_)
   (refine wpF_take_row 9 rfl (by kernel_rfl) (by kernel_rfl) (by kernel_rfl) (by kernel_rfl) (fun _ _ _ _ h => h) (by assumption) rfl 118 (.tmp 9) rfl w.heap.size rfl 118 _ (0, 0) _ (fun _ hS => InX.blk hS BC.out xx1) Try.underlying118 rfl (by kernel_rfl) ?_; simp only [Act.put, tk])
   (refine wpF_one 10 rfl (by kernel_rfl) rfl (fun K hK => ?_))
   go_simp
   refine (hT1.out _ _ (F2.out.keep hK0 id) (TodoAt.keep (hK0.mono (fun _ _ h => h.elim)) HR3.out)).mono ?_
   rintro y z1 ⟨he, hz, hkz⟩
   subst he
   have FZ := Lib.hid hz
   have KX := Lib.hid ((hK0.mono (Y := Ob p) (fun _ _ h => h.elim)).trans hkz (fun _ _ h => h))
   clear hz hkz
   (refine hK _ _ (fun _ => InX.mk KX.out) (fun hI => ?_); have hI := hI (by simp); clear hK K; try simp only [Act.put, tk])
   (refine wpF_done (by kernel_rfl) ?_ _)
   have KZ := Lib.hid (K3.out.trans KX.out (fun _ _ h => h))
   go_wp2_with fail
   go_end0
   exact ⟨rfl, FZ.out, KZ.out⟩
theorem len_down {a : Nat} (h : a ≤ 9223372036854775807) : wrap64 ((a : Int) - 1) = (a : Int) - 1 := wrap64_small (by omega)
set_option maxRecDepth 100000 in
set_option maxHeartbeats 4000000 in
theorem qnode_8 (p : Nat) (T : ByteArray) (e : Env) (k : Nat) (hT : T.toList = e.L) (h6 : T.size ≤ 600) (TH : QThrSaid p T e k) (n : Nd) (r : List Tk) (q : Nat) (c : Caps) (s s' : St) (b : Nat) (S nx : Value) (w : World)
  (h : thr (k + 1) e (.node n :: r) q c s = some s') (hok : TksOk q s.tries (.node n :: r)) (hs : StOk e s) (hq : q ≤ T.size) (hc : CapsOk T.size c) (hb : QAt w p T e s) (ho : s.over = false) (hbp : b ≠ p)
  (ht : Blk w b (todoRow (.node n) S nx) 115) (hn : LiesP (Off p) w n S) (hr : TodoAt (Off p) w r nx) (hk : n.h.k = 8) :
  Calls Try.prog 67 #[.pointer (some ⟨p, 0, none⟩), .pointer (some ⟨b, 0, none⟩), .int .i64 (e.start : Int), .int .i64 (q : Int), .agg (cRow c)] w fun x w' => x = .returned (.tuple #[]) ∧ QAt w' p T e s' ∧ Keep (Ob p) w w' := by
 obtain ⟨po, rfl⟩ := hr.ptr
 have ho' : ¬ s.over = true := by rw [ho]; simp
 rw [thr_8 _ _ _ _ _ _ ho' hk] at h
 have hT1 := Lib.hid (fun wx tv hx hy => TH _ q c s s' tv wx h hs (hok.tail.nodes (okT_kids hok.head)) hq hc hx hy)
 obtain ⟨A, cap, rfl, hlen9, hkids⟩ := hn.kids
 have HLN := Lib.hid hlen9
 have k6 : (n.h.k == 6) = false := bne_int (by omega)
 have k8 : (n.h.k == 8) = true := beq_int hk
 have k9 : (n.h.k == 9) = false := bne_int (by omega)
 have k10 : (n.h.k == 10) = false := bne_int (by omega)
 have lp := hb.lt
 have HCP := Lib.hid (show ¬ Ob p w.heap.size by unfold Ob; omega)
 have HQP := Lib.hid (show ¬ Ob p (w.heap.size + 1) by unfold Ob; omega)
 have HBP := Lib.hid (show ¬ Ob p b from hbp)
 have hb1 : Blk (w.alloc (.cells #[.int .i64 (fromI (c 0)), .int .i64 (fromI (c 1)), .int .i64 (fromI (c 2)), .int .i64 (fromI (c 3)), .int .i64 (fromI (c 4)), .int .i64 (fromI (c 5)), .int .i64 (fromI (c 6)), .int .i64 (fromI (c 7)), .int .i64 (fromI (c 8)), .int .i64 (fromI (c 9)), .int .i64 (toI (c 0)), .int .i64 (toI (c 1)), .int .i64 (toI (c 2)), .int .i64 (toI (c 3)), .int .i64 (toI (c 4)), .int .i64 (toI (c 5)), .int .i64 (toI (c 6)), .int .i64 (toI (c 7)), .int .i64 (toI (c 8)), .int .i64 (toI (c 9)), .bool (c 0).isSome, .bool (c 1).isSome, .bool (c 2).isSome, .bool (c 3).isSome, .bool (c 4).isSome, .bool (c 5).isSome, .bool (c 6).isSome, .bool (c 7).isSome, .bool (c 8).isSome, .bool (c 9).isSome] 118)) w.heap.size (cRow c) 118 := Blk.new w _ _
 have hbq : QAt (w.alloc (.cells #[.int .i64 (fromI (c 0)), .int .i64 (fromI (c 1)), .int .i64 (fromI (c 2)), .int .i64 (fromI (c 3)), .int .i64 (fromI (c 4)), .int .i64 (fromI (c 5)), .int .i64 (fromI (c 6)), .int .i64 (fromI (c 7)), .int .i64 (fromI (c 8)), .int .i64 (fromI (c 9)), .int .i64 (toI (c 0)), .int .i64 (toI (c 1)), .int .i64 (toI (c 2)), .int .i64 (toI (c 3)), .int .i64 (toI (c 4)), .int .i64 (toI (c 5)), .int .i64 (toI (c 6)), .int .i64 (toI (c 7)), .int .i64 (toI (c 8)), .int .i64 (toI (c 9)), .bool (c 0).isSome, .bool (c 1).isSome, .bool (c 2).isSome, .bool (c 3).isSome, .bool (c 4).isSome, .bool (c 5).isSome, .bool (c 6).isSome, .bool (c 7).isSome, .bool (c 8).isSome, .bool (c 9).isSome] 118)) p T e s := hb.alloc _
 have hk0 : Keep Nb w (w.alloc (.cells #[.int .i64 (fromI (c 0)), .int .i64 (fromI (c 1)), .int .i64 (fromI (c 2)), .int .i64 (fromI (c 3)), .int .i64 (fromI (c 4)), .int .i64 (fromI (c 5)), .int .i64 (fromI (c 6)), .int .i64 (fromI (c 7)), .int .i64 (fromI (c 8)), .int .i64 (fromI (c 9)), .int .i64 (toI (c 0)), .int .i64 (toI (c 1)), .int .i64 (toI (c 2)), .int .i64 (toI (c 3)), .int .i64 (toI (c 4)), .int .i64 (toI (c 5)), .int .i64 (toI (c 6)), .int .i64 (toI (c 7)), .int .i64 (toI (c 8)), .int .i64 (toI (c 9)), .bool (c 0).isSome, .bool (c 1).isSome, .bool (c 2).isSome, .bool (c 3).isSome, .bool (c 4).isSome, .bool (c 5).isSome, .bool (c 6).isSome, .bool (c 7).isSome, .bool (c 8).isSome, .bool (c 9).isSome] 118)) := Keep.alloc (Keep.refl _ _) _
 have htd := ht.alloc (.cells #[.int .i64 (fromI (c 0)), .int .i64 (fromI (c 1)), .int .i64 (fromI (c 2)), .int .i64 (fromI (c 3)), .int .i64 (fromI (c 4)), .int .i64 (fromI (c 5)), .int .i64 (fromI (c 6)), .int .i64 (fromI (c 7)), .int .i64 (fromI (c 8)), .int .i64 (fromI (c 9)), .int .i64 (toI (c 0)), .int .i64 (toI (c 1)), .int .i64 (toI (c 2)), .int .i64 (toI (c 3)), .int .i64 (toI (c 4)), .int .i64 (toI (c 5)), .int .i64 (toI (c 6)), .int .i64 (toI (c 7)), .int .i64 (toI (c 8)), .int .i64 (toI (c 9)), .bool (c 0).isSome, .bool (c 1).isSome, .bool (c 2).isSome, .bool (c 3).isSome, .bool (c 4).isSome, .bool (c 5).isSome, .bool (c 6).isSome, .bool (c 7).isSome, .bool (c 8).isSome, .bool (c 9).isSome] 118)
 have hsz1 : (w.alloc (.cells #[.int .i64 (fromI (c 0)), .int .i64 (fromI (c 1)), .int .i64 (fromI (c 2)), .int .i64 (fromI (c 3)), .int .i64 (fromI (c 4)), .int .i64 (fromI (c 5)), .int .i64 (fromI (c 6)), .int .i64 (fromI (c 7)), .int .i64 (fromI (c 8)), .int .i64 (fromI (c 9)), .int .i64 (toI (c 0)), .int .i64 (toI (c 1)), .int .i64 (toI (c 2)), .int .i64 (toI (c 3)), .int .i64 (toI (c 4)), .int .i64 (toI (c 5)), .int .i64 (toI (c 6)), .int .i64 (toI (c 7)), .int .i64 (toI (c 8)), .int .i64 (toI (c 9)), .bool (c 0).isSome, .bool (c 1).isSome, .bool (c 2).isSome, .bool (c 3).isSome, .bool (c 4).isSome, .bool (c 5).isSome, .bool (c 6).isSome, .bool (c 7).isSome, .bool (c 8).isSome, .bool (c 9).isSome] 118)).heap.size = w.heap.size + 1 := by simp
 have B1 := Lib.hid hb1
 have BP := Lib.hid hbq
 have BT := Lib.hid htd
 have K0 := Lib.hid hk0
 have SZ := Lib.hid hsz1
 have HO := Lib.hid ho
 have HNR := Lib.hid hn
 have HR := Lib.hid hr
 clear hb1 hbq hk0 htd hsz1
 obtain ⟨L, hL⟩ : ∃ L, L = n.l.length := ⟨_, rfl⟩
 rw [← hL] at BT HNR
 have HLL := Lib.hid hL
 have hw0 : wrap64 ((L : Int) - 1) = (L : Int) - 1 := len_down (hL ▸ hlen9)
 have HW0 := Lib.hid hw0
 clear hkids hlen9 hL hw0
 clear h hs hok hq hc hb hn hr ho ho' ht hk TH hT h6 hbp
 simp only [cRow]
 go_enter Try.func67, Try.ntmps67
 go_upto_region 1 with fail
 generalize (w.alloc (.cells #[.int .i64 (fromI (c 0)), .int .i64 (fromI (c 1)), .int .i64 (fromI (c 2)), .int .i64 (fromI (c 3)), .int .i64 (fromI (c 4)), .int .i64 (fromI (c 5)), .int .i64 (fromI (c 6)), .int .i64 (fromI (c 7)), .int .i64 (fromI (c 8)), .int .i64 (fromI (c 9)), .int .i64 (toI (c 0)), .int .i64 (toI (c 1)), .int .i64 (toI (c 2)), .int .i64 (toI (c 3)), .int .i64 (toI (c 4)), .int .i64 (toI (c 5)), .int .i64 (toI (c 6)), .int .i64 (toI (c 7)), .int .i64 (toI (c 8)), .int .i64 (toI (c 9)), .bool (c 0).isSome, .bool (c 1).isSome, .bool (c 2).isSome, .bool (c 3).isSome, .bool (c 4).isSome, .bool (c 5).isSome, .bool (c 6).isSome, .bool (c 7).isSome, .bool (c 8).isSome, .bool (c 9).isSome] 118)) = w1 at B1 BP BT K0 SZ ⊢
 have c26 := BP.out.cell 26 (u := .bool s.over) rfl
 have lp1 := BP.out.lt
 rw [HO.out] at c26
 have t0 := BT.out.cell 0 (u := .int .i64 n.h.k) rfl
 have t1 := BT.out.cell 1 (u := .int .u8 n.h.c) rfl
 have t2 := BT.out.cell 2 (u := .int .u64 n.h.s0) rfl
 have t3 := BT.out.cell 3 (u := .int .u64 n.h.s1) rfl
 have t4 := BT.out.cell 4 (u := .int .u64 n.h.s2) rfl
 have t5 := BT.out.cell 5 (u := .int .u64 n.h.s3) rfl
 have t6 := BT.out.cell 6 (u := .int .i64 n.h.n) rfl
 have t7 := BT.out.cell 7 (u := .int .i64 n.h.mn) rfl
 have t8 := BT.out.cell 8 (u := .int .i64 n.h.mx) rfl
 have t9 := BT.out.cell 9 (u := .slice A L cap) rfl
 have t10 := BT.out.cell 10 (u := .int .i64 0) rfl
 have lt1 := BT.out.lt
 have z1 : Blk (w1.alloc (.cells #[.int .i64 n.h.k, .int .u8 n.h.c, .int .u64 n.h.s0, .int .u64 n.h.s1, .int .u64 n.h.s2, .int .u64 n.h.s3, .int .i64 n.h.n, .int .i64 n.h.mn, .int .i64 n.h.mx, .slice A L cap] 27)) w1.heap.size (Nd.row n (.slice A L cap)) 27 := Blk.new w1 _ _
 have q1 : QAt (w1.alloc (.cells #[.int .i64 n.h.k, .int .u8 n.h.c, .int .u64 n.h.s0, .int .u64 n.h.s1, .int .u64 n.h.s2, .int .u64 n.h.s3, .int .i64 n.h.n, .int .i64 n.h.mn, .int .i64 n.h.mx, .slice A L cap] 27)) p T e s := BP.out.alloc _
 have c1 : Blk (w1.alloc (.cells #[.int .i64 n.h.k, .int .u8 n.h.c, .int .u64 n.h.s0, .int .u64 n.h.s1, .int .u64 n.h.s2, .int .u64 n.h.s3, .int .i64 n.h.n, .int .i64 n.h.mn, .int .i64 n.h.mx, .slice A L cap] 27)) w.heap.size (cRow c) 118 := B1.out.alloc _
 have d1 : Blk (w1.alloc (.cells #[.int .i64 n.h.k, .int .u8 n.h.c, .int .u64 n.h.s0, .int .u64 n.h.s1, .int .u64 n.h.s2, .int .u64 n.h.s3, .int .i64 n.h.n, .int .i64 n.h.mn, .int .i64 n.h.mx, .slice A L cap] 27)) b (todoRow (.node n) (.slice A L cap) (.pointer po)) 115 := BT.out.alloc _
 have k2 : Keep Nb w (w1.alloc (.cells #[.int .i64 n.h.k, .int .u8 n.h.c, .int .u64 n.h.s0, .int .u64 n.h.s1, .int .u64 n.h.s2, .int .u64 n.h.s3, .int .i64 n.h.n, .int .i64 n.h.mn, .int .i64 n.h.mx, .slice A L cap] 27)) := Keep.alloc K0.out _
 have BN := Lib.hid z1
 have FP := Lib.hid q1
 have BC := Lib.hid c1
 have BD := Lib.hid d1
 have K2 := Lib.hid k2
 clear z1 q1 c1 d1 k2
 go_upto_region 21 with fail
 generalize (w1.alloc (.cells #[.int .i64 n.h.k, .int .u8 n.h.c, .int .u64 n.h.s0, .int .u64 n.h.s1, .int .u64 n.h.s2, .int .u64 n.h.s3, .int .i64 n.h.n, .int .i64 n.h.mn, .int .i64 n.h.mx, .slice A L cap] 27)) = w2 at BN FP BC BD K2 ⊢
 rw [SZ.out] at BN ⊢
 clear c26 lp1 t0 t1 t2 t3 t4 t5 t6 t7 t8 t9 t10 lt1 B1 BP BT K0 SZ
 have hN := BN.out
 (have y0 := Blk.cell hN 0 (u := .int .i64 n.h.k) rfl; have y1 := Blk.cell hN 1 (u := .int .u8 n.h.c) rfl; have y2 := Blk.cell hN 2 (u := .int .u64 n.h.s0) rfl; have y3 := Blk.cell hN 3 (u := .int .u64 n.h.s1) rfl; have y4 := Blk.cell hN 4 (u := .int .u64 n.h.s2) rfl; have y5 := Blk.cell hN 5 (u := .int .u64 n.h.s3) rfl; have y6 := Blk.cell hN 6 (u := .int .i64 n.h.n) rfl; have y7 := Blk.cell hN 7 (u := .int .i64 n.h.mn) rfl; have y8 := Blk.cell hN 8 (u := .int .i64 n.h.mx) rfl; have y9 := Blk.cell hN 9 (u := (.slice A L cap)) rfl)
 have ln := hN.lt
 have d13 := BD.out.cell 13 (u := .pointer po) rfl
 have ld := BD.out.lt
 have lc := BC.out.lt
 have lp2 := FP.out.lt
 clear hN
 have HL2 := Lib.hid (Lies_keep K2.out HNR.out)
 have HR2 := Lib.hid (TodoAt.keep (K2.out.mono (Y := Ob p) (fun _ _ h => h.elim)) HR.out)
 have KW := Lib.hid (K2.out.mono (Y := Ob p) (fun _ _ h => h.elim))
 have hw0 := HW0.out
 go_wp2_with fail
 clear y0 y1 y2 y3 y4 y5 y6 y7 y8 y9 ln d13 ld lc lp2 k6 k8 k9 k10 hw0
 go_loopw [13, 12] (fun i v wr => ∃ (j : Nat) (tv : Value), i = .int .i64 ((j : Int) - 1) ∧ v = tv ∧ Hid (j ≤ L) ∧ Hid (TodoAt (Off p) wr ((n.l.drop j).map .node ++ r) tv) ∧ Hid (Keep Nb w2 wr)) (fun i _ _ => (intOf i + 1).toNat)
 case atStart => exact ⟨L, _, by first | rfl | rw [HW0.out], rfl, Lib.hid (Nat.le_refl _), Lib.hid (by rw [List.drop_eq_nil_of_le (by rw [HLL.out]; exact Nat.le_refl _)]; exact HR2.out), Lib.hid (Keep.refl _ _)⟩
 case round =>
  obtain ⟨j, tv, rfl, rfl, hj, htk, hkk⟩ := hrel
  have hjl := hj.out
  obtain ⟨pv, hpv⟩ := htk.out.ptr
  subst hpv
  by_cases hz0 : j = 0
  ·have HZ0 := Lib.hid hz0
   have g1 : decide ((0 : Int) ≤ (j : Int) - 1) = false := by simp; omega
   have g2 : decide ((1 : Int) ≤ (j : Int)) = false := by simp; omega
   have g3 : decide (1 ≤ j) = false := by simp; omega
   have g4 : decide (0 < j) = false := by simp; omega
   have PT := Lib.hid (show TodoAt (Off p) wr (n.l.map .node ++ r) (.pointer pv) from by have := htk.out; rw [HZ0.out] at this; exact this)
   have FT1 := Lib.hid (FP.out.keep hkk.out id)
   have BC1 := Lib.hid (BC.out.keep hkk.out id)
   clear hz0
   go_wp2_with (refine wpList_load_row rfl 118 (.tmp 9) rfl w.heap.size rfl 118 (cRow c) (0, 0) _ BC1.out Try.underlying118 rfl (by kernel_rfl) ?_)
   refine (hT1.out _ _ FT1.out PT.out).mono ?_
   rintro x z1 ⟨rfl, hz, hkz⟩
   have FZ := Lib.hid hz
   have KZ := Lib.hid (KW.out.trans ((hkk.out.mono (Y := Ob p) (fun _ _ h => h.elim)).trans hkz (fun _ _ h => h)) (fun _ _ h => h))
   clear hz hkz
   go_wp2_with fail
   go_end0
   exact ⟨rfl, FZ.out, KZ.out⟩
  ·obtain ⟨i, rfl⟩ : ∃ i, j = i + 1 := ⟨j - 1, by omega⟩
   have e1 : (((i + 1 : Nat) : Int) - 1) = (i : Int) := by omega
   rw [e1]
   have hil : i < n.l.length := by rw [← HLL.out]; omega
   have g1 : decide ((0 : Int) ≤ (i : Int)) = true := by simp
   have i0 : (0 : Int) ≤ (i : Int) := by omega
   have i2 : (i : Int) < (L : Int) := by omega
   have hw1 : wrap64 ((i : Int) - 1) = (i : Int) - 1 := len_down (Nat.le_trans (Nat.le_of_lt hil) HLN.out)
   have HW1 := Lib.hid hw1
   have hn1 := Lies_keep hkk.out HL2.out
   rw [HLL.out] at hn1
   obtain ⟨A', cap', hAA, _, hkids⟩ := LiesP.kids hn1
   cases hAA
   obtain ⟨b2, o2, A2, c2, hA, hb2p, hten, hl2⟩ := hkids i hil
   subst hA
   have HX2 := Lib.hid hl2
   obtain ⟨u0, u1, u2, u3, u4, u5, u6, u7, u8, u9, lu⟩ := hten
   have hNr := BN.out.keep hkk.out id
   have y9 := hNr.cell 9 (u := .slice (some ⟨b2, o2, none⟩) L cap) rfl
   have ln := hNr.lt
   have HPW := Lib.hid (FP.out.keep hkk.out id).lt
   have hdr : (n.l.drop i).map Tk.node ++ r = .node n.l[i] :: ((n.l.drop (i + 1)).map .node ++ r) := by rw [List.drop_eq_getElem_cons hil]; rfl
   have P1 := TodoAt.push (p := p) (t := .node n.l[i]) (r := (n.l.drop (i + 1)).map .node ++ r) HPW.out hl2 htk.out
   rw [← hdr] at P1
   have KA : Keep Nb w2 (wr.alloc (.cells (todoRow (.node n.l[i]) (.slice A2 n.l[i].l.length c2) (.pointer pv)) 115)) := Keep.alloc hkk.out _
   simp only [todoRow] at P1 KA
   have P1 := Lib.hid P1
   have KA := Lib.hid KA
   have HIL := Lib.hid (show i ≤ L by omega)
   clear hn1 hkids hl2 hdr htk hkk e1 hz0 hjl hj hNr
   go_wp2_with fail
   go_roundw
   case rel => exact ⟨i, _, by first | rfl | rw [HW1.out], rfl, HIL, P1, KA⟩
   case measure => simp [intOf] <;> omega
theorem len_up {a : Nat} (h : a < 9223372036854775807) : wrap64 ((a : Int) + 1) = (a : Int) + 1 ∧ IntKind.i64.wrap ((a : Int) + 1) = (a : Int) + 1 := ⟨wrap64_small (by omega), wrap_small (by omega)⟩
set_option maxRecDepth 100000 in
set_option maxHeartbeats 4000000 in
theorem qnode_9 (p : Nat) (T : ByteArray) (e : Env) (k : Nat) (hT : T.toList = e.L) (h6 : T.size ≤ 600) (TH : QThrSaid p T e k) (n : Nd) (r : List Tk) (q : Nat) (c : Caps) (s s' : St) (b : Nat) (S nx : Value) (w : World)
  (h : thr (k + 1) e (.node n :: r) q c s = some s') (hok : TksOk q s.tries (.node n :: r)) (hs : StOk e s) (hq : q ≤ T.size) (hc : CapsOk T.size c) (hb : QAt w p T e s) (ho : s.over = false) (hbp : b ≠ p)
  (ht : Blk w b (todoRow (.node n) S nx) 115) (hn : LiesP (Off p) w n S) (hr : TodoAt (Off p) w r nx) (hk : n.h.k = 9) :
  Calls Try.prog 67 #[.pointer (some ⟨p, 0, none⟩), .pointer (some ⟨b, 0, none⟩), .int .i64 (e.start : Int), .int .i64 (q : Int), .agg (cRow c)] w fun x w' => x = .returned (.tuple #[]) ∧ QAt w' p T e s' ∧ Keep (Ob p) w w' := by
 obtain ⟨po, rfl⟩ := hr.ptr
 have ho' : ¬ s.over = true := by rw [ho]; simp
 rw [thr_9 _ _ _ _ _ _ ho' hk] at h
 obtain ⟨kk0, rfl⟩ : ∃ i, k = i + 1 := by
  cases k with
  | zero => rw [alts.eq_def] at h; cases h
  | succ i => exact ⟨i, rfl⟩
 obtain ⟨A, cap, rfl, hlen9, hkids⟩ := hn.kids
 have hsz : T.size = e.L.length := by rw [← hT, toList_len]
 have HI := Lib.hid (inv_all e)
 have HC := Lib.hid hc
 have HC2 := Lib.hid (show CapsOk e.L.length c by rw [← hsz]; exact hc)
 have HQ := Lib.hid hq
 have HQ2 := Lib.hid (show q ≤ e.L.length by omega)
 have HRT := Lib.hid hok.tail
 have HK := Lib.hid (okT_kids hok.head)
 have HL := Lib.hid hlen9
 have H0 := Lib.hid h
 have HS0 := Lib.hid hs
 have THH := Lib.hid TH
 have k6 : (n.h.k == 6) = false := bne_int (by omega)
 have k8 : (n.h.k == 8) = false := bne_int (by omega)
 have k9 : (n.h.k == 9) = true := beq_int hk
 have k10 : (n.h.k == 10) = false := bne_int (by omega)
 have lp := hb.lt
 have HCP := Lib.hid (show ¬ Ob p w.heap.size by unfold Ob; omega)
 have HQP := Lib.hid (show ¬ Ob p (w.heap.size + 1) by unfold Ob; omega)
 have HBP := Lib.hid (show ¬ Ob p b from hbp)
 have hb1 : Blk (w.alloc (.cells #[.int .i64 (fromI (c 0)), .int .i64 (fromI (c 1)), .int .i64 (fromI (c 2)), .int .i64 (fromI (c 3)), .int .i64 (fromI (c 4)), .int .i64 (fromI (c 5)), .int .i64 (fromI (c 6)), .int .i64 (fromI (c 7)), .int .i64 (fromI (c 8)), .int .i64 (fromI (c 9)), .int .i64 (toI (c 0)), .int .i64 (toI (c 1)), .int .i64 (toI (c 2)), .int .i64 (toI (c 3)), .int .i64 (toI (c 4)), .int .i64 (toI (c 5)), .int .i64 (toI (c 6)), .int .i64 (toI (c 7)), .int .i64 (toI (c 8)), .int .i64 (toI (c 9)), .bool (c 0).isSome, .bool (c 1).isSome, .bool (c 2).isSome, .bool (c 3).isSome, .bool (c 4).isSome, .bool (c 5).isSome, .bool (c 6).isSome, .bool (c 7).isSome, .bool (c 8).isSome, .bool (c 9).isSome] 118)) w.heap.size (cRow c) 118 := Blk.new w _ _
 have hbq : QAt (w.alloc (.cells #[.int .i64 (fromI (c 0)), .int .i64 (fromI (c 1)), .int .i64 (fromI (c 2)), .int .i64 (fromI (c 3)), .int .i64 (fromI (c 4)), .int .i64 (fromI (c 5)), .int .i64 (fromI (c 6)), .int .i64 (fromI (c 7)), .int .i64 (fromI (c 8)), .int .i64 (fromI (c 9)), .int .i64 (toI (c 0)), .int .i64 (toI (c 1)), .int .i64 (toI (c 2)), .int .i64 (toI (c 3)), .int .i64 (toI (c 4)), .int .i64 (toI (c 5)), .int .i64 (toI (c 6)), .int .i64 (toI (c 7)), .int .i64 (toI (c 8)), .int .i64 (toI (c 9)), .bool (c 0).isSome, .bool (c 1).isSome, .bool (c 2).isSome, .bool (c 3).isSome, .bool (c 4).isSome, .bool (c 5).isSome, .bool (c 6).isSome, .bool (c 7).isSome, .bool (c 8).isSome, .bool (c 9).isSome] 118)) p T e s := hb.alloc _
 have hk0 : Keep Nb w (w.alloc (.cells #[.int .i64 (fromI (c 0)), .int .i64 (fromI (c 1)), .int .i64 (fromI (c 2)), .int .i64 (fromI (c 3)), .int .i64 (fromI (c 4)), .int .i64 (fromI (c 5)), .int .i64 (fromI (c 6)), .int .i64 (fromI (c 7)), .int .i64 (fromI (c 8)), .int .i64 (fromI (c 9)), .int .i64 (toI (c 0)), .int .i64 (toI (c 1)), .int .i64 (toI (c 2)), .int .i64 (toI (c 3)), .int .i64 (toI (c 4)), .int .i64 (toI (c 5)), .int .i64 (toI (c 6)), .int .i64 (toI (c 7)), .int .i64 (toI (c 8)), .int .i64 (toI (c 9)), .bool (c 0).isSome, .bool (c 1).isSome, .bool (c 2).isSome, .bool (c 3).isSome, .bool (c 4).isSome, .bool (c 5).isSome, .bool (c 6).isSome, .bool (c 7).isSome, .bool (c 8).isSome, .bool (c 9).isSome] 118)) := Keep.alloc (Keep.refl _ _) _
 have htd := ht.alloc (.cells #[.int .i64 (fromI (c 0)), .int .i64 (fromI (c 1)), .int .i64 (fromI (c 2)), .int .i64 (fromI (c 3)), .int .i64 (fromI (c 4)), .int .i64 (fromI (c 5)), .int .i64 (fromI (c 6)), .int .i64 (fromI (c 7)), .int .i64 (fromI (c 8)), .int .i64 (fromI (c 9)), .int .i64 (toI (c 0)), .int .i64 (toI (c 1)), .int .i64 (toI (c 2)), .int .i64 (toI (c 3)), .int .i64 (toI (c 4)), .int .i64 (toI (c 5)), .int .i64 (toI (c 6)), .int .i64 (toI (c 7)), .int .i64 (toI (c 8)), .int .i64 (toI (c 9)), .bool (c 0).isSome, .bool (c 1).isSome, .bool (c 2).isSome, .bool (c 3).isSome, .bool (c 4).isSome, .bool (c 5).isSome, .bool (c 6).isSome, .bool (c 7).isSome, .bool (c 8).isSome, .bool (c 9).isSome] 118)
 have hsz1 : (w.alloc (.cells #[.int .i64 (fromI (c 0)), .int .i64 (fromI (c 1)), .int .i64 (fromI (c 2)), .int .i64 (fromI (c 3)), .int .i64 (fromI (c 4)), .int .i64 (fromI (c 5)), .int .i64 (fromI (c 6)), .int .i64 (fromI (c 7)), .int .i64 (fromI (c 8)), .int .i64 (fromI (c 9)), .int .i64 (toI (c 0)), .int .i64 (toI (c 1)), .int .i64 (toI (c 2)), .int .i64 (toI (c 3)), .int .i64 (toI (c 4)), .int .i64 (toI (c 5)), .int .i64 (toI (c 6)), .int .i64 (toI (c 7)), .int .i64 (toI (c 8)), .int .i64 (toI (c 9)), .bool (c 0).isSome, .bool (c 1).isSome, .bool (c 2).isSome, .bool (c 3).isSome, .bool (c 4).isSome, .bool (c 5).isSome, .bool (c 6).isSome, .bool (c 7).isSome, .bool (c 8).isSome, .bool (c 9).isSome] 118)).heap.size = w.heap.size + 1 := by simp
 have B1 := Lib.hid hb1
 have BP := Lib.hid hbq
 have BT := Lib.hid htd
 have K0 := Lib.hid hk0
 have SZ := Lib.hid hsz1
 have HO := Lib.hid ho
 have HNR := Lib.hid hn
 have HR := Lib.hid hr
 clear hb1 hbq hk0 htd hsz1
 obtain ⟨L, hL⟩ : ∃ L, L = n.l.length := ⟨_, rfl⟩
 rw [← hL] at BT HNR
 have HLL := Lib.hid hL
 clear hkids hlen9 hL hsz
 clear h hs hok hq hc hb hn hr ho ho' ht hk TH hT h6 hbp
 simp only [cRow]
 go_enter Try.func67, Try.ntmps67
 go_upto_region 1 with fail
 generalize (w.alloc (.cells #[.int .i64 (fromI (c 0)), .int .i64 (fromI (c 1)), .int .i64 (fromI (c 2)), .int .i64 (fromI (c 3)), .int .i64 (fromI (c 4)), .int .i64 (fromI (c 5)), .int .i64 (fromI (c 6)), .int .i64 (fromI (c 7)), .int .i64 (fromI (c 8)), .int .i64 (fromI (c 9)), .int .i64 (toI (c 0)), .int .i64 (toI (c 1)), .int .i64 (toI (c 2)), .int .i64 (toI (c 3)), .int .i64 (toI (c 4)), .int .i64 (toI (c 5)), .int .i64 (toI (c 6)), .int .i64 (toI (c 7)), .int .i64 (toI (c 8)), .int .i64 (toI (c 9)), .bool (c 0).isSome, .bool (c 1).isSome, .bool (c 2).isSome, .bool (c 3).isSome, .bool (c 4).isSome, .bool (c 5).isSome, .bool (c 6).isSome, .bool (c 7).isSome, .bool (c 8).isSome, .bool (c 9).isSome] 118)) = w1 at B1 BP BT K0 SZ ⊢
 have c26 := BP.out.cell 26 (u := .bool s.over) rfl
 have lp1 := BP.out.lt
 rw [HO.out] at c26
 have t0 := BT.out.cell 0 (u := .int .i64 n.h.k) rfl
 have t1 := BT.out.cell 1 (u := .int .u8 n.h.c) rfl
 have t2 := BT.out.cell 2 (u := .int .u64 n.h.s0) rfl
 have t3 := BT.out.cell 3 (u := .int .u64 n.h.s1) rfl
 have t4 := BT.out.cell 4 (u := .int .u64 n.h.s2) rfl
 have t5 := BT.out.cell 5 (u := .int .u64 n.h.s3) rfl
 have t6 := BT.out.cell 6 (u := .int .i64 n.h.n) rfl
 have t7 := BT.out.cell 7 (u := .int .i64 n.h.mn) rfl
 have t8 := BT.out.cell 8 (u := .int .i64 n.h.mx) rfl
 have t9 := BT.out.cell 9 (u := .slice A L cap) rfl
 have t10 := BT.out.cell 10 (u := .int .i64 0) rfl
 have lt1 := BT.out.lt
 have z1 : Blk (w1.alloc (.cells #[.int .i64 n.h.k, .int .u8 n.h.c, .int .u64 n.h.s0, .int .u64 n.h.s1, .int .u64 n.h.s2, .int .u64 n.h.s3, .int .i64 n.h.n, .int .i64 n.h.mn, .int .i64 n.h.mx, .slice A L cap] 27)) w1.heap.size (Nd.row n (.slice A L cap)) 27 := Blk.new w1 _ _
 have q1 : QAt (w1.alloc (.cells #[.int .i64 n.h.k, .int .u8 n.h.c, .int .u64 n.h.s0, .int .u64 n.h.s1, .int .u64 n.h.s2, .int .u64 n.h.s3, .int .i64 n.h.n, .int .i64 n.h.mn, .int .i64 n.h.mx, .slice A L cap] 27)) p T e s := BP.out.alloc _
 have c1 : Blk (w1.alloc (.cells #[.int .i64 n.h.k, .int .u8 n.h.c, .int .u64 n.h.s0, .int .u64 n.h.s1, .int .u64 n.h.s2, .int .u64 n.h.s3, .int .i64 n.h.n, .int .i64 n.h.mn, .int .i64 n.h.mx, .slice A L cap] 27)) w.heap.size (cRow c) 118 := B1.out.alloc _
 have d1 : Blk (w1.alloc (.cells #[.int .i64 n.h.k, .int .u8 n.h.c, .int .u64 n.h.s0, .int .u64 n.h.s1, .int .u64 n.h.s2, .int .u64 n.h.s3, .int .i64 n.h.n, .int .i64 n.h.mn, .int .i64 n.h.mx, .slice A L cap] 27)) b (todoRow (.node n) (.slice A L cap) (.pointer po)) 115 := BT.out.alloc _
 have k2 : Keep Nb w (w1.alloc (.cells #[.int .i64 n.h.k, .int .u8 n.h.c, .int .u64 n.h.s0, .int .u64 n.h.s1, .int .u64 n.h.s2, .int .u64 n.h.s3, .int .i64 n.h.n, .int .i64 n.h.mn, .int .i64 n.h.mx, .slice A L cap] 27)) := Keep.alloc K0.out _
 have BN := Lib.hid z1
 have FP := Lib.hid q1
 have BC := Lib.hid c1
 have BD := Lib.hid d1
 have K2 := Lib.hid k2
 clear z1 q1 c1 d1 k2
 go_upto_region 21 with fail
 generalize (w1.alloc (.cells #[.int .i64 n.h.k, .int .u8 n.h.c, .int .u64 n.h.s0, .int .u64 n.h.s1, .int .u64 n.h.s2, .int .u64 n.h.s3, .int .i64 n.h.n, .int .i64 n.h.mn, .int .i64 n.h.mx, .slice A L cap] 27)) = w2 at BN FP BC BD K2 ⊢
 rw [SZ.out] at BN ⊢
 clear c26 lp1 t0 t1 t2 t3 t4 t5 t6 t7 t8 t9 t10 lt1 B1 BP BT K0 SZ
 have hN := BN.out
 (have y0 := Blk.cell hN 0 (u := .int .i64 n.h.k) rfl; have y1 := Blk.cell hN 1 (u := .int .u8 n.h.c) rfl; have y2 := Blk.cell hN 2 (u := .int .u64 n.h.s0) rfl; have y3 := Blk.cell hN 3 (u := .int .u64 n.h.s1) rfl; have y4 := Blk.cell hN 4 (u := .int .u64 n.h.s2) rfl; have y5 := Blk.cell hN 5 (u := .int .u64 n.h.s3) rfl; have y6 := Blk.cell hN 6 (u := .int .i64 n.h.n) rfl; have y7 := Blk.cell hN 7 (u := .int .i64 n.h.mn) rfl; have y8 := Blk.cell hN 8 (u := .int .i64 n.h.mx) rfl; have y9 := Blk.cell hN 9 (u := (.slice A L cap)) rfl)
 have ln := hN.lt
 have d13 := BD.out.cell 13 (u := .pointer po) rfl
 have ld := BD.out.lt
 have lc := BC.out.lt
 have lp2 := FP.out.lt
 clear hN
 have HL2 := Lib.hid (Lies_keep K2.out HNR.out)
 have HR2 := Lib.hid (TodoAt.keep (K2.out.mono (Y := Ob p) (fun _ _ h => h.elim)) HR.out)
 have KW := Lib.hid (K2.out.mono (Y := Ob p) (fun _ _ h => h.elim))
 go_wp2_with fail
 clear y0 y1 y2 y3 y4 y5 y6 y7 y8 y9 ln d13 ld lc lp2 k6 k8 k9 k10
 go_loopw [256] (fun i wr => ∃ (j kj : Nat) (sj : St), i = .int .i64 (j : Int) ∧ Hid (j ≤ L) ∧ Hid (kj ≤ kk0 + 1 ∧ alts kj e (n.l.drop j) r q c sj = some s') ∧ Hid (StOk e sj ∧ s.tries ≤ sj.tries) ∧ Hid (QAt wr p T e sj) ∧ Hid (Keep (Ob p) w2 wr)) (fun i _ => L - (intOf i).toNat)
 case atStart => exact ⟨0, kk0 + 1, s, rfl, Lib.hid (Nat.zero_le _), Lib.hid ⟨Nat.le_refl _, H0.out⟩, Lib.hid ⟨HS0.out, Nat.le_refl _⟩, FP, Lib.hid (Keep.refl _ _)⟩
 case round =>
  obtain ⟨j, kj, sj, rfl, hj, ha, hS, hF, hK⟩ := hrel
  have HJ := hj.out
  by_cases hlt : j < L
  ·have g1 : decide ((j : Int) < (L : Int)) = true := by simp; omega
   have g2 : decide (j < L) = true := by simp; omega
   have hjl : j < n.l.length := by rw [← HLL.out]; exact hlt
   obtain ⟨kk, rfl⟩ : ∃ i, kj = i + 1 := by
    cases kj with
    | zero => have := ha.out.2; rw [alts.eq_def] at this; cases this
    | succ i => exact ⟨i, rfl⟩
   have ha2 := ha.out.2
   rw [List.drop_eq_getElem_cons hjl] at ha2
   have c26 := hF.out.cell 26 (u := .bool sj.over) rfl
   have lp := hF.out.lt
   by_cases ho : sj.over = true
   ·rw [alts_over _ _ _ _ _ _ _ ho] at ha2
    cases ha2
    rw [ho] at c26
    clear ho ha hjl
    go_wp2_with fail
    exact bodyPost_ret (results_none Try.results67 _ _ _) rfl ⟨rfl, hF.out, KW.out.trans hK.out (fun _ _ h => h)⟩
   ·have ho2 : sj.over = false := by simpa using ho
    rw [alts_go _ _ _ _ _ _ _ ho] at ha2
    have HY := Lib.hid (qtry_any p T e sj wr ho2 hS.out.1.tries hF.out)
    rw [ho2] at c26
    rcases tryS_cases sj with ⟨_, e1⟩ | ⟨hne, e1⟩
    ·rw [e1] at ha2 HY
     cases ha2
     clear ho ho2 e1 ha hjl
     go_wp2_with fail
     refine HY.out.mono ?_
     rintro x z1 ⟨rfl, hf1, hk1⟩
     have F1 := Lib.hid hf1
     have K1 := Lib.hid (KW.out.trans (hK.out.trans hk1 (fun _ _ h => h)) (fun _ _ h => h))
     clear hf1 hk1
     go_wp2_with fail
     exact bodyPost_ret (results_none Try.results67 _ _ _) rfl ⟨rfl, F1.out, K1.out⟩
    ·rw [e1] at ha2 HY
     simp only [] at ha2
     rw [Option.bind_eq_some_iff] at ha2
     obtain ⟨s2, g3, g4⟩ := ha2
     have hokx : okT n.l[j] := okL_mem HK.out _ (List.getElem_mem hjl)
     have hS1 := hS.out.1.tries_up hne
     have hr1 : TksOk q (sj.tries + 1) r := HRT.out.mono (Nat.le_refl _) (by have := hS.out.2; omega)
     have i1 := (HI.out kk).1 _ _ _ _ _ g3 hS1 (TksOk.cons (show TkOk q (sj.tries + 1) (.node n.l[j]) from hokx) hr1) HQ2.out HC2.out
     have hkk : kk ≤ kk0 + 1 := by have := ha.out.1; omega
     have hT1 := Lib.hid (fun wx tv hx hy => (THH.out.down hkk) _ q c _ s2 tv wx g3 hS1 (TksOk.cons (show TkOk q (sj.tries + 1) (.node n.l[j]) from hokx) hr1) HQ.out HC.out hx hy)
     have G4 := Lib.hid (show kk ≤ kk0 + 1 ∧ alts kk e (n.l.drop (j + 1)) r q c s2 = some s' from ⟨by omega, g4⟩)
     have I1 := Lib.hid (show StOk e s2 ∧ s.tries ≤ s2.tries from ⟨i1.1, by have := hS.out.2; have := i1.2; simp only [] at this; omega⟩)
     have J1 := Lib.hid (len_up (Nat.lt_of_lt_of_le hjl HL.out)).2
     have J2 := Lib.hid (len_up (Nat.lt_of_lt_of_le hjl HL.out)).1
     have HJL := Lib.hid hjl
     have HLT := Lib.hid hlt
     clear g3 g4 hokx hr1 i1 e1 ho ho2 ha
     go_wp2_with fail
     refine HY.out.mono ?_
     rintro x w3 ⟨rfl, F1, hk1⟩
     have hK1 := hK.out.trans hk1 (fun _ _ h => h)
     have F3 := Lib.hid F1
     have HK1 := Lib.hid hK1
     have hn1 : LiesP (Off p) w3 n (.slice A L cap) := LiesP_keep hK1 (fun _ hb hx => hb hx) HL2.out
     rw [HLL.out] at hn1
     obtain ⟨A', cap', hAA, _, hkids⟩ := LiesP.kids hn1
     cases hAA
     obtain ⟨b2, o2, A2, c2, hA, hb2p, hten, hl2⟩ := hkids j HJL.out
     subst hA
     have HX2 := Lib.hid hl2
     have HB2 := Lib.hid (show ¬ Ob p b2 from hb2p)
     obtain ⟨u0, u1, u2, u3, u4, u5, u6, u7, u8, u9, lu⟩ := hten
     have BN3 := Lib.hid (BN.out.keep hK1 HQP.out)
     have BC3 := Lib.hid (BC.out.keep hK1 HCP.out)
     have BD3 := Lib.hid (BD.out.keep hK1 HBP.out)
     have HR3 := Lib.hid (TodoAt.keep hK1 HR2.out)
     have y9 := BN3.out.cell 9 (u := .slice (some ⟨b2, o2, none⟩) L cap) rfl
     have ln := BN3.out.lt
     have d13 := BD3.out.cell 13 (u := .pointer po) rfl
     have ld := BD3.out.lt
     have lc := BC3.out.lt
     have lp3 := F1.lt
     have i0 : (0 : Int) ≤ (j : Int) := by omega
     have i2 : (j : Int) < (L : Int) := by omega
     clear hn1 hkids hl2 F1 hk1 hK1 hlt HY c26 lp HJ hb2p
     go_wp2_with fail
     (refine wp_region_f [] (InX (Ob p) _) (by kernel_rfl) (InX.mk (Keep.drew (Keep.refl _ _))) (fun hI => ?_))
     have xx1 : ¬ Ob p w.heap.size := HCP.out
     have xx2 : ¬ Ob p b := HBP.out
     have xx4 : ¬ Ob p (w.heap.size + 1) := HQP.out
     have xx3 : ¬ Ob p b2 := HB2.out
     have hK0 : Keep Nb w3 w3.drew := (Keep.refl _ _).drew
     generalize w3.drew = v0 at hK0 hI ⊢
     (refine wpI_from 0 ?_; (iterate 11 ((first | (refine wpI_take (v := ?_) rfl (by kernel_rfl) (fun _ _ _ h => h) hI rfl ?_ ?_; rotate_left; (focus (rintro _ ⟨E, rfl⟩; go_simp; (try with_reducible rfl)))) | refine wpI_skip rfl (by kernel_rfl) (fun _ _ _ h => h) hI rfl ?_); simp only [Act.put, tk, Nat.reduceAdd])); refine wpI_till ?_)
     (refine wpI_from 12 ?_; (iterate 2 ((first | (refine wpI_take (v := ?_) rfl (by kernel_rfl) (fun _ _ _ h => h) hI rfl ?_ ?_; rotate_left; (focus (rintro _ ⟨E, rfl⟩; go_simp; (try with_reducible rfl)))) | refine wpI_skip rfl (by kernel_rfl) (fun _ _ _ h => h) hI rfl ?_); simp only [Act.put, tk, Nat.reduceAdd])); refine wpI_till ?_)
     (refine wpF_take_row 14 rfl (by kernel_rfl) (by kernel_rfl) (by kernel_rfl) (by kernel_rfl) (fun _ _ _ _ h => h) (by assumption) rfl 118 (.tmp 9) rfl w.heap.size rfl 118 _ (0, 0) _ (fun _ hS => InX.blk hS BC3.out xx1) Try.underlying118 rfl (by kernel_rfl) ?_; simp only [Act.put, tk])
     (refine wpF_one 11 rfl (by kernel_rfl) rfl (fun K hK => ?_))
     go_simp
     have hkx0 := hK0.mono (Y := Ob p) (fun _ _ h => h.elim)
     refine (fun (H : ∀ x, x = v0.alloc (.cells (todoRow (.node n.l[j]) (.slice A2 n.l[j].l.length c2) (.pointer po)) 115) → K _ x) => H _ rfl) ?_
     intro v1 hv1
     have P1 := Lib.hid (show TodoAt (Off p) v1 ((.node n.l[j]) :: r) (.pointer (some ⟨v0.heap.size, 0, none⟩)) from hv1 ▸ TodoAt.push (p := p) (t := (.node n.l[j])) (r := r) (Nat.lt_of_lt_of_le lp3 hK0.size) (show LiesP (Off p) v0 (Tk.nd (.node n.l[j])) (.slice A2 n.l[j].l.length c2) from LiesP_keep (Ok := Off p) hkx0 (fun _ hb hx => hb hx) HX2.out) (TodoAt.keep hkx0 HR3.out))
     have K1 := Lib.hid (show Keep Nb v0 v1 from hv1 ▸ Keep.alloc (Keep.refl _ _) _)
     clear hv1
     have HK3 := Lib.hid (hkx0.trans K1.out (fun _ _ h => h.elim))
     have F4 := Lib.hid (F3.out.keep (hK0.trans K1.out (fun _ _ h => h)) id)
     clear hkx0
     (refine hK _ _ (fun _ => InX.mk HK3.out) (fun hI => ?_); have hI := hI (by simp); clear hK K; try simp only [Act.put, tk])
     (refine wpF_one 15 rfl (by kernel_rfl) rfl (fun K hK => ?_))
     go_simp
     refine (hT1.out _ _ F4.out P1.out).mono ?_
     rintro y z1 ⟨he, hz, hkz⟩
     subst he
     have FZ := Lib.hid hz
     have KX := Lib.hid (HK3.out.trans hkz (fun _ _ h => h))
     clear hz hkz
     (refine hK _ _ (fun _ => InX.mk KX.out) (fun hI => ?_); have hI := hI (by simp); clear hK K; try simp only [Act.put, tk])
     (refine wpF_done (by kernel_rfl) ?_ _)
     have KZ := Lib.hid (HK1.out.trans KX.out (fun _ _ h => h))
     have j1 := J1.out
     have j2 := J2.out
     clear u0 u1 u2 u3 u4 u5 u6 u7 u8 u9 lu y9 ln d13 ld lc lp3 i0 i2
     go_wp2_with fail
     go_roundw
     case rel => exact ⟨j + 1, kk, s2, by go_num, Lib.hid HLT.out, G4, I1, FZ, KZ⟩
     case measure => simp [intOf]; have := HLT.out; omega
  ·have g1 : decide ((j : Int) < (L : Int)) = false := by simp; omega
   have g2 : decide (j < L) = false := by simp; omega
   have hend : sj = s' := by
    have h1 := ha.out.2
    rw [List.drop_eq_nil_of_le (by rw [← HLL.out]; omega)] at h1
    cases kj with
    | zero => rw [alts.eq_def] at h1; cases h1
    | succ i => rw [alts_nil] at h1; exact Option.some.inj h1
   subst hend
   clear ha
   go_wp2_with fail
   go_end0
   exact ⟨rfl, hF.out, KW.out.trans hK.out (fun _ _ h => h)⟩
set_option maxRecDepth 100000 in
set_option maxHeartbeats 1000000 in
theorem qover_any (p : Nat) (T : ByteArray) (e : Env) (s : St) (c : Caps) (q : Nat) (po : Option Addr) (w : World) (ho : s.over = true) (hb : QAt w p T e s) :
  Calls Try.prog 67 #[.pointer (some ⟨p, 0, none⟩), .pointer po, .int .i64 (e.start : Int), .int .i64 (q : Int), .agg (cRow c)] w fun x w' => x = .returned (.tuple #[]) ∧ QAt w' p T e s ∧ Keep (Ob p) w w' := by
 have hbp : QAt (w.alloc (.cells #[.int .i64 (fromI (c 0)), .int .i64 (fromI (c 1)), .int .i64 (fromI (c 2)), .int .i64 (fromI (c 3)), .int .i64 (fromI (c 4)), .int .i64 (fromI (c 5)), .int .i64 (fromI (c 6)), .int .i64 (fromI (c 7)), .int .i64 (fromI (c 8)), .int .i64 (fromI (c 9)), .int .i64 (toI (c 0)), .int .i64 (toI (c 1)), .int .i64 (toI (c 2)), .int .i64 (toI (c 3)), .int .i64 (toI (c 4)), .int .i64 (toI (c 5)), .int .i64 (toI (c 6)), .int .i64 (toI (c 7)), .int .i64 (toI (c 8)), .int .i64 (toI (c 9)), .bool (c 0).isSome, .bool (c 1).isSome, .bool (c 2).isSome, .bool (c 3).isSome, .bool (c 4).isSome, .bool (c 5).isSome, .bool (c 6).isSome, .bool (c 7).isSome, .bool (c 8).isSome, .bool (c 9).isSome] 118)) p T e s := hb.alloc _
 have hk0 : Keep Nb w (w.alloc (.cells #[.int .i64 (fromI (c 0)), .int .i64 (fromI (c 1)), .int .i64 (fromI (c 2)), .int .i64 (fromI (c 3)), .int .i64 (fromI (c 4)), .int .i64 (fromI (c 5)), .int .i64 (fromI (c 6)), .int .i64 (fromI (c 7)), .int .i64 (fromI (c 8)), .int .i64 (fromI (c 9)), .int .i64 (toI (c 0)), .int .i64 (toI (c 1)), .int .i64 (toI (c 2)), .int .i64 (toI (c 3)), .int .i64 (toI (c 4)), .int .i64 (toI (c 5)), .int .i64 (toI (c 6)), .int .i64 (toI (c 7)), .int .i64 (toI (c 8)), .int .i64 (toI (c 9)), .bool (c 0).isSome, .bool (c 1).isSome, .bool (c 2).isSome, .bool (c 3).isSome, .bool (c 4).isSome, .bool (c 5).isSome, .bool (c 6).isSome, .bool (c 7).isSome, .bool (c 8).isSome, .bool (c 9).isSome] 118)) := Keep.alloc (Keep.refl _ _) _
 have BP := Lib.hid hbp
 have K0 := Lib.hid hk0
 have HO := Lib.hid ho
 clear hbp hk0 hb ho
 simp only [cRow]
 go_enter Try.func67, Try.ntmps67
 go_upto_region 1 with fail
 generalize (w.alloc (.cells #[.int .i64 (fromI (c 0)), .int .i64 (fromI (c 1)), .int .i64 (fromI (c 2)), .int .i64 (fromI (c 3)), .int .i64 (fromI (c 4)), .int .i64 (fromI (c 5)), .int .i64 (fromI (c 6)), .int .i64 (fromI (c 7)), .int .i64 (fromI (c 8)), .int .i64 (fromI (c 9)), .int .i64 (toI (c 0)), .int .i64 (toI (c 1)), .int .i64 (toI (c 2)), .int .i64 (toI (c 3)), .int .i64 (toI (c 4)), .int .i64 (toI (c 5)), .int .i64 (toI (c 6)), .int .i64 (toI (c 7)), .int .i64 (toI (c 8)), .int .i64 (toI (c 9)), .bool (c 0).isSome, .bool (c 1).isSome, .bool (c 2).isSome, .bool (c 3).isSome, .bool (c 4).isSome, .bool (c 5).isSome, .bool (c 6).isSome, .bool (c 7).isSome, .bool (c 8).isSome, .bool (c 9).isSome] 118)) = w1 at BP K0 ⊢
 have c26 := BP.out.cell 26 (u := .bool s.over) rfl
 have lp1 := BP.out.lt
 rw [HO.out] at c26
 go_wp2_with fail
 exact bodyPost_ret (results_none Try.results67 _ _ _) rfl ⟨rfl, BP.out, K0.out.mono (fun _ _ h => h.elim)⟩
theorem qthr_step (p : Nat) (T : ByteArray) (e : Env) (k : Nat) (hT : T.toList = e.L) (h6 : T.size ≤ 600) (TH : QThrSaid p T e k) : QThrSaid p T e (k + 1) := by
 intro ts q c s s' tv w h hs hok hq hc hb hr
 by_cases ho : s.over = true
 ·rw [thr_over _ _ _ _ _ ho] at h
  cases h
  obtain ⟨po, rfl⟩ := hr.ptr
  exact qover_any p T e s c q po w ho hb
 ·have ho2 : s.over = false := by simpa using ho
  match ts, h, hok, hr with
  | [], h, hok, hr =>
   rw [thr_nil _ _ _ _ ho] at h
   cases h
   obtain rfl : tv = .pointer none := hr
   exact qcome_any p T e s c q w ho2 hb
  | .grp n a :: r, h, hok, hr =>
   rw [thr_grp _ _ _ _ _ _ _ ho] at h
   obtain ⟨b, S, nx, rfl, hbp, ht, hn, hrr⟩ := hr
   exact qend_any p T e k hT h6 TH n a r q c s s' b S nx w h hok hs hq hc hb ho2 hbp ht hn hrr
  | .again n a t :: r, h, hok, hr =>
   rw [thr_again _ _ _ _ _ _ _ _ ho] at h
   obtain ⟨b, S, nx, rfl, hbp, ht, hn, hrr⟩ := hr
   exact qagain_any p T e k hT h6 TH n a t r q c s s' b S nx w h hok hs hq hc hb ho2 hbp ht hn hrr
  | .node n :: r, h, hok, hr =>
   obtain ⟨b, S, nx, rfl, hbp, ht, hn, hrr⟩ := hr
   rcases kind_cases n.h.k with hk | hk | hk | hk | hk
   ·exact qnode_8 p T e k hT h6 TH n r q c s s' b S nx w h hok hs hq hc hb ho2 hbp ht hn hrr hk
   ·exact qnode_9 p T e k hT h6 TH n r q c s s' b S nx w h hok hs hq hc hb ho2 hbp ht hn hrr hk
   ·exact qnode_6 p T e k hT h6 TH n r q c s s' b S nx w h hok hs hq hc hb ho2 hbp ht hn hrr hk
   ·exact qnode_10 p T e k hT h6 TH n r q c s s' b S nx w h hok hs hq hc hb ho2 hbp ht hn hrr hk
   ·exact qnode_leaf p T e k hT h6 TH n r q c s s' b S nx w h hok hs hq hc hb ho2 hbp ht hn hrr hk
theorem qthr_any (p : Nat) (T : ByteArray) (e : Env) (hT : T.toList = e.L) (h6 : T.size ≤ 600) : ∀ k, QThrSaid p T e k
 | 0 => fun ts q c s s' tv w h => by (rw [thr.eq_def] at h; cases h)
 | k + 1 => qthr_step p T e k hT h6 (qthr_any p T e hT h6 k)
end Go.Proofs.Ytkidjbfapldmbaa
