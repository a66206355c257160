import Derived.Test.YtkidjbfapldmbaaZMk
set_option linter.unusedVariables false
set_option linter.unusedSimpArgs false
set_option linter.unusedSectionVars false
namespace Go.Proofs.Ytkidjbfapldmbaa
open Go.RowKit P8
theorem row_h1 (T : ByteArray) (e : Env) (s : St) (c : Caps) (m : Nat) (h : m < 10) (v : Value) : ((fRow T e s c).setIfInBounds (29 + m) v)[39 + m]? = some (hasV (c m)) := by
 rw [Array.getElem?_setIfInBounds_ne (by omega)]
 exact fRow_has T e s c m h
theorem row_put (T : ByteArray) (e : Env) (s : St) (c : Caps) (m a q : Nat) (h : m < 10) : ((fRow T e s c).setIfInBounds (29 + m) (.complex .f64 (F a) (F q))).setIfInBounds (39 + m) (.bool true) = fRow T e s (put c m a q) := by
 rcases lt10 h with rfl | rfl | rfl | rfl | rfl | rfl | rfl | rfl | rfl | rfl <;> simp [fRow, put, grpV, hasV]
theorem row_back (T : ByteArray) (e : Env) (s : St) (c : Caps) (m a q : Nat) (h : m < 10) : ((fRow T e s (put c m a q)).setIfInBounds (29 + m) (grpV (c m))).setIfInBounds (39 + m) (.bool (c m).isSome) = fRow T e s c := by
 rcases lt10 h with rfl | rfl | rfl | rfl | rfl | rfl | rfl | rfl | rfl | rfl <;> simp [fRow, put, hasV]
theorem grpV_is (o : Option (Nat × Nat)) : ∃ x y, grpV o = .complex .f64 x y := by
 cases o with
 | none => exact ⟨0, 0, rfl⟩
 | some ab => exact ⟨_, _, rfl⟩
def ThrSaid (p : Nat) (T : ByteArray) (e : Env) (k : Nat) : Prop := ∀ (ts : List Tk) (q : Nat) (c : Caps) (s s' : St) (tv : Value) (w : World), thr k e ts q c s = some s' → StOk e s → TksOk q s.tries ts → q ≤ T.size → CapsOk T.size c → FAt w p T e s c → TasksAt (Off p) w ts tv →
 Calls Try.prog 66 #[.pointer (some ⟨p, 0, none⟩), tv, .int .i64 (q : Int)] w fun x w' => x = .returned (.tuple #[]) ∧ FAt w' p T e s' c ∧ Keep (Ob p) w w'
set_option maxRecDepth 100000 in
set_option maxHeartbeats 2000000 in
theorem end_any (p : Nat) (T : ByteArray) (e : Env) (k : Nat) (h6 : T.size ≤ 600) (TH : ThrSaid p T e k) (n : Nd) (a : Nat) (r : List Tk) (q : Nat) (c : Caps) (s s' : St) (tb : Nat) (nd nx : Value) (w : World)
  (h : thr k e r q (put c n.h.n.toNat a q) s = some s') (hs : StOk e s) (hok : TksOk q s.tries (.grp n a :: r)) (hq : q ≤ T.size) (hc : CapsOk T.size c) (hb : FAt w p T e s c) (htb : tb ≠ p)
  (ht : Blk w tb (tRow (.grp n a) nd nx) 108) (hn : NodeAt (Off p) w n nd) (hr : TasksAt (Off p) w r nx) :
  Calls Try.prog 85 #[.pointer (some ⟨p, 0, none⟩), .pointer (some ⟨tb, 0, none⟩), .int .i64 (q : Int)] w fun x w' => x = .returned (.tuple #[]) ∧ FAt w' p T e s' c ∧ Keep (Ob p) w w' := by
 have h1 := okT_head hok.head.1
 have hk6 := hok.head.2.1
 have hn9 := h1.2.2.1 hk6
 obtain ⟨m, hm⟩ : ∃ m : Nat, n.h.n = (m : Int) := ⟨n.h.n.toNat, by omega⟩
 rw [hm, Int.toNat_natCast] at h
 have hm10 : m < 10 := by omega
 have hTH := Lib.hid (fun wx hx hy => TH r q (put c m a q) s s' nx wx h hs hok.tail hq (hc.put hok.head.2.2 hq) hx hy)
 have HSP := Lib.hid (fun wx => span_any a q wx)
 obtain ⟨b, o, S, rfl, hbp, hten, hlies⟩ := hn
 have d0 := ht.cell 0 (u := .pointer (some ⟨b, o, none⟩)) rfl
 have d2 := ht.cell 2 (u := .int .i64 (a : Int)) rfl
 have d4 := ht.cell 4 (u := nx) rfl
 have lt := ht.lt
 have n6 := hten.c6
 have ln := hten.lt
 rw [hm] at n6
 have cg := hb.cell (29 + m) (fRow_grp T e s c m hm10)
 have ch := hb.cell (39 + m) (fRow_has T e s c m hm10)
 unfold hasV at ch
 obtain ⟨fa, fb, hg⟩ := grpV_is (c m)
 rw [hg] at cg
 have HG := Lib.hid hg
 have lp := hb.lt
 have i0 : (0 : Int) ≤ (m : Int) := by omega
 have i1 : (m : Int) < 10 := by omega
 have HM := Lib.hid hm10
 have HR := Lib.hid hr
 have HB := Lib.hid hb
 have HT := Lib.hid ht
 clear h hs hok hq hc hr hb ht hlies hten hn9 h1 hk6 hm hg
 go_enter Try.func85, Try.ntmps85
 go_wp2_with fail
 (refine wp_region_f [15] (InX Nb _) (by kernel_rfl) (InX.mk (Keep.drew (Keep.refl _ _))) (fun hI => ?_))
 have xx : ∀ k, ¬ Nb k := fun _ h => h
 have hK1 : Keep Nb w w.drew := (Keep.refl _ _).drew
 generalize w.drew = x0 at hK1 hI ⊢
 (refine wpI_from 0 ?_; (iterate 15 ((first | (refine wpI_take (v := ?_) rfl (by kernel_rfl) (fun _ _ _ h => h) hI rfl ?_ ?_; rotate_left; (focus (rintro _ ⟨E, rfl⟩; go_simp; (try with_reducible rfl)))) | refine wpI_skip rfl (by kernel_rfl) (fun _ _ _ h => h) hI rfl ?_); simp only [Act.put, tk, Nat.reduceAdd])); refine wpI_till ?_)
 (refine wpF_one 15 rfl (by kernel_rfl) rfl (fun K hK => ?_))
 go_simp
 (refine hK _ _ (fun h => absurd (by simp) h) (fun _ => ?_); clear hK K; try simp only [Act.put, tk])
 (refine wpF_done (by kernel_rfl) ?_ _)
 have hbx := HB.out.keep hK1 id
 have d2' := hK1.cell d2 id
 have d4' := hK1.cell d4 id
 have HT1 := Lib.hid (HT.out.keep hK1 id)
 have ltx : tb < x0.heap.size := HT1.out.lt
 clear d0 d2 d4 n6 cg ch lp lt ln HB HT
 go_wp2_with fail
 (refine wp_region_f [] (InX (Ob p) _) (by kernel_rfl) (InX.mk (Keep.drew (Keep.refl _ _))) (fun hI => ?_))
 have xx : ¬ Ob p tb := fun h => htb h
 have hK0 : Keep (Ob p) x0 x0.drew := (Keep.refl _ _).drew
 have bX := Lib.hid (hbx.drew)
 generalize x0.drew = y0 at hK0 hI bX ⊢
 have bX := bX.out
 have dg := bX.cell (29 + m) (fRow_grp T e s c m hm10)
 have eg := bX.frozen (29 + m)
 have dh := bX.cell (39 + m) (fRow_has T e s c m hm10)
 have eh := bX.frozen (39 + m)
 have lX := bX.lt
 (refine wpI_from 0 ?_; (iterate 9 ((first | (refine wpI_take (v := ?_) rfl (by kernel_rfl) (fun _ _ _ h => h) hI rfl ?_ ?_; rotate_left; (focus (rintro _ ⟨E, rfl⟩; go_simp; (try with_reducible rfl)))) | refine wpI_skip rfl (by kernel_rfl) (fun _ _ _ h => h) hI rfl ?_); simp only [Act.put, tk, Nat.reduceAdd])); refine wpI_till ?_)
 (refine wpI_from 10 ?_; (iterate 3 ((first | (refine wpI_take (v := ?_) rfl (by kernel_rfl) (fun _ _ _ h => h) hI rfl ?_ ?_; rotate_left; (focus (rintro _ ⟨E, rfl⟩; go_simp; (try with_reducible rfl)))) | refine wpI_skip rfl (by kernel_rfl) (fun _ _ _ h => h) hI rfl ?_); simp only [Act.put, tk, Nat.reduceAdd])); refine wpI_till ?_)
 (refine wpI_from 15 ?_; (iterate 3 ((first | (refine wpI_take (v := ?_) rfl (by kernel_rfl) (fun _ _ _ h => h) hI rfl ?_ ?_; rotate_left; (focus (rintro _ ⟨E, rfl⟩; go_simp; (try with_reducible rfl)))) | refine wpI_skip rfl (by kernel_rfl) (fun _ _ _ h => h) hI rfl ?_); simp only [Act.put, tk, Nat.reduceAdd])); refine wpI_till ?_)
 (refine wpF_one 9 rfl (by kernel_rfl) rfl (fun K hK => ?_))
 go_simp
 refine (HSP.out _).mono ?_
 rintro z y1 ⟨he, hw⟩
 subst he
 subst hw
 (refine hK _ _ (fun _ => InX.mk hK0) (fun hI => ?_); have hI := hI (by simp); clear hK K; try simp only [Act.put, tk])
 (refine wpF_take2 (v := ?_) 13 rfl (by kernel_rfl) (fun _ _ _ h => h) hI rfl ?_ ?_; rotate_left; (focus (rintro _ ⟨E, rfl⟩; go_simp; (try with_reducible rfl))); simp only [Act.put, tk])
 (refine wpF_one 14 rfl (by kernel_rfl) rfl (fun K hK => ?_))
 have bY := Lib.hid (bX.set (29 + m) (.complex .f64 (F a) (F q)))
 have KbY := Lib.hid (Keep.setCell (p := ⟨p, 29 + m, none⟩) hK0 (Or.inr rfl) (.complex .f64 (F a) (F q)))
 clear bX
 go_simp
 generalize y0.setCell ⟨p, 29 + m, none⟩ (.complex .f64 (F a) (F q)) = y1 at bY KbY ⊢
 clear hK0 dg eg dh eh lX
 have bX := bY.out
 have hK0 := KbY.out
 have dh := bX.cell (39 + m) (row_h1 T e s c m hm10 _)
 have eh := bX.frozen (39 + m)
 have lX := bX.lt
 have dg := True.intro
 have eg := True.intro
 (refine hK _ _ (fun _ => InX.mk hK0) (fun hI => ?_); have hI := hI (by simp); clear hK K; try simp only [Act.put, tk])
 (refine wpF_take2 (v := ?_) 18 rfl (by kernel_rfl) (fun _ _ _ h => h) hI rfl ?_ ?_; rotate_left; (focus (rintro _ ⟨E, rfl⟩; go_simp; (try with_reducible rfl))); simp only [Act.put, tk])
 (refine wpF_one 19 rfl (by kernel_rfl) rfl (fun K hK => ?_))
 have bZ := Lib.hid (bX.set (39 + m) (.bool true))
 have KbZ := Lib.hid (Keep.setCell (p := ⟨p, 39 + m, none⟩) hK0 (Or.inr rfl) (.bool true))
 clear bX
 go_simp
 generalize y1.setCell ⟨p, 39 + m, none⟩ (.bool true) = y2 at bZ KbZ ⊢
 (refine hK _ _ (fun _ => InX.mk KbZ.out) (fun hI => ?_); have hI := hI (by simp); clear hK K; try simp only [Act.put, tk])
 (refine wpF_done (by kernel_rfl) ?_ _)
 have FY := Lib.hid (show FAt y2 p T e s (put c m a q) from by have := bZ.out; rw [row_put T e s c m a q HM.out] at this; exact this)
 have KY := Lib.hid (show Keep (Ob p) w y2 from (hK1.mono (fun _ _ h => h.elim)).trans KbZ.out (fun _ _ h => h))
 have HT2 := Lib.hid (HT1.out.keep KbZ.out htb)
 have d4'' := HT2.out.cell 4 (u := nx) rfl
 have lt2 := HT2.out.lt
 clear bZ KbZ hbx d2' d4' ltx HT1
 go_wp2_with fail
 refine (hTH.out _ FY.out (TasksAt.keep KY.out HR.out)).mono ?_
 rintro x z1 ⟨rfl, hz, hkz⟩
 have FZ := Lib.hid hz
 have KZ := Lib.hid (KY.out.trans hkz (fun _ _ h => h))
 clear hz hkz d4'' lt2 HT2 FY KY
 go_wp2_with fail
 (refine wp_region_f [] (InX (Ob p) _) (by kernel_rfl) (InX.mk (Keep.drew (Keep.refl _ _))) (fun hI => ?_))
 have xx : True := trivial
 have hK0 : Keep (Ob p) z1 z1.drew := (Keep.refl _ _).drew
 have bX := Lib.hid (FZ.out.drew)
 generalize z1.drew = v0 at hK0 hI bX ⊢
 have bX := bX.out
 have dg := bX.cell (29 + m) (fRow_grp T e s' (put c m a q) m hm10)
 have eg := bX.frozen (29 + m)
 have dh := bX.cell (39 + m) (fRow_has T e s' (put c m a q) m hm10)
 have eh := bX.frozen (39 + m)
 have lX := bX.lt
 (refine wpI_from 0 ?_; (iterate 10 ((first | (refine wpI_take (v := ?_) rfl (by kernel_rfl) (fun _ _ _ h => h) hI rfl ?_ ?_; rotate_left; (focus (rintro _ ⟨E, rfl⟩; go_simp; (try with_reducible rfl)))) | refine wpI_skip rfl (by kernel_rfl) (fun _ _ _ h => h) hI rfl ?_); simp only [Act.put, tk, Nat.reduceAdd])); refine wpI_till ?_)
 (refine wpI_from 11 ?_; (iterate 3 ((first | (refine wpI_take (v := ?_) rfl (by kernel_rfl) (fun _ _ _ h => h) hI rfl ?_ ?_; rotate_left; (focus (rintro _ ⟨E, rfl⟩; go_simp; (try with_reducible rfl)))) | refine wpI_skip rfl (by kernel_rfl) (fun _ _ _ h => h) hI rfl ?_); simp only [Act.put, tk, Nat.reduceAdd])); refine wpI_till ?_)
 (refine wpF_one 10 rfl (by kernel_rfl) rfl (fun K hK => ?_))
 have bU := Lib.hid (bX.set (29 + m) (.complex .f64 fa fb))
 have KbU := Lib.hid (Keep.setCell (p := ⟨p, 29 + m, none⟩) hK0 (Or.inr rfl) (.complex .f64 fa fb))
 clear bX
 go_simp
 generalize v0.setCell ⟨p, 29 + m, none⟩ (.complex .f64 fa fb) = v1 at bU KbU ⊢
 clear hK0 dg eg dh eh lX
 have bX := bU.out
 have hK0 := KbU.out
 have dh := bX.cell (39 + m) (row_h1 T e s' (put c m a q) m hm10 _)
 have eh := bX.frozen (39 + m)
 have lX := bX.lt
 have dg := True.intro
 have eg := True.intro
 (refine hK _ _ (fun _ => InX.mk hK0) (fun hI => ?_); have hI := hI (by simp); clear hK K; try simp only [Act.put, tk])
 (refine wpF_take2 (v := ?_) 14 rfl (by kernel_rfl) (fun _ _ _ h => h) hI rfl ?_ ?_; rotate_left; (focus (rintro _ ⟨E, rfl⟩; go_simp; (try with_reducible rfl))); simp only [Act.put, tk])
 (refine wpF_one 15 rfl (by kernel_rfl) rfl (fun K hK => ?_))
 have bV := Lib.hid (bX.set (39 + m) (.bool (c m).isSome))
 have KbV := Lib.hid (Keep.setCell (p := ⟨p, 39 + m, none⟩) hK0 (Or.inr rfl) (.bool (c m).isSome))
 clear bX
 go_simp
 generalize v1.setCell ⟨p, 39 + m, none⟩ (.bool (c m).isSome) = v2 at bV KbV ⊢
 (refine hK _ _ (fun _ => InX.mk KbV.out) (fun hI => ?_); have hI := hI (by simp); clear hK K; try simp only [Act.put, tk])
 (refine wpF_done (by kernel_rfl) ?_ _)
 go_wp2_with fail
 go_end0
 have fv := bV.out
 rw [← HG.out, row_back T e s' c m a q HM.out] at fv
 exact ⟨rfl, fv, KZ.out.trans KbV.out (fun _ _ h => h)⟩
end Go.Proofs.Ytkidjbfapldmbaa
