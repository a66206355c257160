import Derived.Test.YtkidjbfapldmbaaZMe
set_option linter.unusedVariables false
set_option linter.unusedSimpArgs false
set_option linter.unusedSectionVars false
namespace Go.Proofs.Ytkidjbfapldmbaa
open Go.RowKit P8
set_option maxRecDepth 100000 in
set_option maxHeartbeats 4000000 in
theorem repeat_any (p : Nat) (T : ByteArray) (e : Env) (k : Nat) (hT : T.toList = e.L) (TH : ThrSaid p T e k) (n : Nd) (t : Nat) (r : List Tk) (q : Nat) (c : Caps) (s s' : St) (nd nx : Value) (w : World)
  (h : rep (k + 1) e n t r q c s = some s') (hs : StOk e s) (hokn : okT n) (hk10 : n.h.k = 10) (hts : t ≤ s.tries) (hrt : TksOk q s.tries r) (hq : q ≤ T.size) (hc : CapsOk T.size c) (hb : FAt w p T e s c)
  (hn : NodeAt (Off p) w n nd) (hr : TasksAt (Off p) w r nx) :
  Calls Try.prog 86 #[.pointer (some ⟨p, 0, none⟩), nd, .int .i64 (t : Int), nx, .int .i64 (q : Int)] w fun x w' => x = .returned (.tuple #[]) ∧ FAt w' p T e s' c ∧ Keep (Ob p) w w' := by
 obtain ⟨po, rfl⟩ := hr.ptr
 have c3 := hb.cell 3 (u := .bool s.over) rfl
 have lp := hb.lt
 by_cases ho : s.over = true
 ·rw [rep_over _ _ _ _ _ _ _ ho] at h
  cases h
  rw [ho] at c3
  have HB := Lib.hid hb
  clear hb hr hn hrt hc TH ho hs
  go_enter Try.func86, Try.ntmps86
  go_wp2_with fail
  exact bodyPost_ret (results_none Try.results86 _ _ _) rfl ⟨rfl, HB.out, Keep.refl _ _⟩
 ·have ho2 : s.over = false := by simpa using ho
  rw [rep_go _ _ _ _ _ _ _ ho] at h
  have HY := Lib.hid (try_any p T e s c w ho2 hs.tries hb)
  rw [ho2] at c3
  rcases tryS_cases s with ⟨_, e1⟩ | ⟨hne, e1⟩
  ·rw [e1] at h HY
   cases h
   clear hb hr hn hrt hc TH ho hs e1 ho2
   go_enter Try.func86, Try.ntmps86
   go_wp2_with fail
   refine HY.out.mono ?_
   rintro x w1 ⟨rfl, hf, hk⟩
   have HF := Lib.hid hf
   have HK := Lib.hid hk
   clear hf hk
   go_wp2_with fail
   exact bodyPost_ret (results_none Try.results86 _ _ _) rfl ⟨rfl, HF.out, HK.out⟩
  ·rw [e1] at h HY
   simp only [] at h
   obtain ⟨x0, hx0, hox⟩ := kid_of hokn (.inr hk10)
   simp only [repF, hx0] at h
   rw [Option.bind_eq_some_iff] at h
   obtain ⟨s2, g1, g2⟩ := h
   have hS1 := hs.tries_up hne
   have hi := inv_all e k
   have hlen : T.size = e.L.length := by rw [← hT, toList_len]
   have hrt1 : TksOk q (s.tries + 1) r := hrt.mono (Nat.le_refl _) (by omega)
   have i1 : StOk e s2 ∧ s.tries + 1 ≤ s2.tries := by
    split at g1
    ·exact hi.1 _ _ _ _ _ g1 hS1 (TksOk.cons (show TkOk q (s.tries + 1) (.node x0) from hox) (TksOk.cons (show TkOk q (s.tries + 1) (.again n q (t + 1)) from ⟨hokn, hk10, by omega⟩) hrt1)) (by omega) (by rw [← hlen]; exact hc)
    ·cases g1; exact ⟨hS1, Nat.le_refl _⟩
   have S1 := Lib.hid hS1
   have S2 := Lib.hid i1.1
   have L2 := Lib.hid i1.2
   have HRT := Lib.hid hrt1
   have HQ := Lib.hid hq
   have HC := Lib.hid hc
   have HR := Lib.hid hr
   have ht3 : t ≤ 3000 := Nat.le_trans hts hs.tries
   obtain ⟨b, o, A, cap, rfl, hbp, hten, hkids⟩ := hn.kids
   obtain ⟨b2, o2, hA, hkid0⟩ := hkids 0 (by rw [hx0]; exact Nat.zero_lt_one)
   subst hA
   have hkid : NodeAt (Off p) w x0 (.pointer (some ⟨b2, o2, none⟩)) := by simpa [hx0] using hkid0
   rw [show n.l.length = 1 by rw [hx0]; rfl] at hten
   have HN := Lib.hid hn
   clear hb hr hn hrt hrt1 hc ho hs e1 ho2 i1 hi hS1 hkids hkid0 hq hlen hne hT
   have hw1 : wrap64 ((t : Int) + 1) = (t : Int) + 1 := by unfold wrap64; omega
   have W1 := Lib.hid hw1
   have HT0 := Lib.hid hten
   have HKD := Lib.hid hkid
   clear hw1 hten hkid ht3
   go_enter Try.func86, Try.ntmps86
   go_wp2_with fail
   refine HY.out.mono ?_
   rintro x w1 ⟨rfl, F1, hk1⟩
   have hten := HT0.out.keepX hk1 hbp
   have hkid := HKD.out.keep hk1
   have n8 := hten.c8
   have n9 := hten.c9
   have lb1 := hten.lt
   have lp1 := F1.lt
   obtain ⟨_, _, _, hbb, _, hlt2, _⟩ := id hkid
   have lb2 : b2 < w1.heap.size := by cases hbb; exact hlt2.lt
   clear hbb hlt2 c3 lp HY HT0 HKD
   have hw1 := W1.out
   by_cases hg : n.h.mx < 0 ∨ (t : Int) < n.h.mx
   ·by_cases hm1 : n.h.mx < 0
    ·rw [if_pos hg] at g1
     have m1 : decide (n.h.mx < 0) = true := by simpa using hm1
     have hT1 := Lib.hid (fun wx tv hx hy => TH _ q c _ s2 tv wx g1 S1.out (TksOk.cons (show TkOk q (s.tries + 1) (.node x0) from hox) (TksOk.cons (show TkOk q (s.tries + 1) (.again n q (t + 1)) from ⟨hokn, hk10, by omega⟩) HRT.out)) HQ.out HC.out hx hy)
     have P1 := TasksAt.push (p := p) (t := .again n q (t + 1)) F1.lt (HN.out.keep hk1) (TasksAt.keep hk1 HR.out)
     have hka : Keep (Ob p) w1 (w1.alloc (.cells (tRow (.again n q (t + 1)) (.pointer (some ⟨b, o, none⟩)) (.pointer po)) 108)) := Keep.alloc (Keep.refl _ _) _
     have P2 := TasksAt.push (p := p) (t := .node x0) (by have := F1.lt; simp; omega) (hkid.keep hka) P1
     rw [World.size_alloc] at P2
     have FA : FAt ((w1.alloc (.cells (tRow (.again n q (t + 1)) (.pointer (some ⟨b, o, none⟩)) (.pointer po)) 108)).alloc (.cells (tRow (.node x0) (.pointer (some ⟨b2, o2, none⟩)) (.pointer (some ⟨w1.heap.size, 0, none⟩))) 108)) p T e { s with tries := s.tries + 1 } c := (F1.alloc _).alloc _
     have KA : Keep (Ob p) w ((w1.alloc (.cells (tRow (.again n q (t + 1)) (.pointer (some ⟨b, o, none⟩)) (.pointer po)) 108)).alloc (.cells (tRow (.node x0) (.pointer (some ⟨b2, o2, none⟩)) (.pointer (some ⟨w1.heap.size, 0, none⟩))) 108)) := Keep.alloc (Keep.alloc hk1 _) _
     simp only [tRow] at P2 FA KA
     rw [show ((t + 1 : Nat) : Int) = (t : Int) + 1 from rfl] at P2 FA KA
     have P2 := Lib.hid P2
     have FA := Lib.hid FA
     have KA := Lib.hid KA
     clear P1 hka g1 hg hm1 hkid F1 hk1 hox hten hokn hk10 hts
     go_wp2_with fail
     refine (hT1.out _ _ FA.out P2.out).mono ?_
     rintro x z1 ⟨rfl, hz, hkz⟩
     have FZ := Lib.hid hz
     have KZ := Lib.hid (KA.out.trans hkz (fun _ _ h => h))
     clear hz hkz n8 n9 lb1 lp1 lb2 P2 FA KA
     by_cases h2 : n.h.mn ≤ (t : Int)
     ·have hnz := HN.out.keep KZ.out
      obtain ⟨b', o', A', cap', hnd', hbp', ten', _⟩ := hnz.kids
      cases hnd'
      have n7 := ten'.c7
      have lz := ten'.lt
      rw [if_pos h2] at g2
      have m5 : decide (n.h.mn ≤ (t : Int)) = true := by simpa using h2
      have hT2 := Lib.hid (fun wx hx hy => TH r q c s2 s' (.pointer po) wx g2 S2.out (HRT.out.mono (Nat.le_refl _) L2.out) HQ.out HC.out hx hy)
      have FZ1 := FZ.out
      clear g2 h2 ten'
      go_wp2_with fail
      refine (hT2.out _ FZ1 (TasksAt.keep KZ.out HR.out)).mono ?_
      rintro x z2 ⟨rfl, hz2, hkz2⟩
      clear n7 lz FZ1
      have FF := Lib.hid hz2
      have KK := Lib.hid (KZ.out.trans hkz2 (fun _ _ h => h))
      clear hz2 hkz2
      go_wp2_with fail
      go_end0
      exact ⟨rfl, FF.out, KK.out⟩
     ·have hnz := HN.out.keep KZ.out
      obtain ⟨b', o', A', cap', hnd', hbp', ten', _⟩ := hnz.kids
      cases hnd'
      have n7 := ten'.c7
      have lz := ten'.lt
      rw [if_neg h2] at g2
      cases g2
      have m5 : decide (n.h.mn ≤ (t : Int)) = false := by simpa using h2
      clear h2 ten'
      go_wp2_with fail
      go_end0
      exact ⟨rfl, FZ.out, KZ.out⟩
    ·rw [if_pos hg] at g1
     have m1 : decide (n.h.mx < 0) = false := by simpa using hm1
     have m2 : decide ((t : Int) < n.h.mx) = true := by simp; omega
     have hT1 := Lib.hid (fun wx tv hx hy => TH _ q c _ s2 tv wx g1 S1.out (TksOk.cons (show TkOk q (s.tries + 1) (.node x0) from hox) (TksOk.cons (show TkOk q (s.tries + 1) (.again n q (t + 1)) from ⟨hokn, hk10, by omega⟩) HRT.out)) HQ.out HC.out hx hy)
     have P1 := TasksAt.push (p := p) (t := .again n q (t + 1)) F1.lt (HN.out.keep hk1) (TasksAt.keep hk1 HR.out)
     have hka : Keep (Ob p) w1 (w1.alloc (.cells (tRow (.again n q (t + 1)) (.pointer (some ⟨b, o, none⟩)) (.pointer po)) 108)) := Keep.alloc (Keep.refl _ _) _
     have P2 := TasksAt.push (p := p) (t := .node x0) (by have := F1.lt; simp; omega) (hkid.keep hka) P1
     rw [World.size_alloc] at P2
     have FA : FAt ((w1.alloc (.cells (tRow (.again n q (t + 1)) (.pointer (some ⟨b, o, none⟩)) (.pointer po)) 108)).alloc (.cells (tRow (.node x0) (.pointer (some ⟨b2, o2, none⟩)) (.pointer (some ⟨w1.heap.size, 0, none⟩))) 108)) p T e { s with tries := s.tries + 1 } c := (F1.alloc _).alloc _
     have KA : Keep (Ob p) w ((w1.alloc (.cells (tRow (.again n q (t + 1)) (.pointer (some ⟨b, o, none⟩)) (.pointer po)) 108)).alloc (.cells (tRow (.node x0) (.pointer (some ⟨b2, o2, none⟩)) (.pointer (some ⟨w1.heap.size, 0, none⟩))) 108)) := Keep.alloc (Keep.alloc hk1 _) _
     simp only [tRow] at P2 FA KA
     rw [show ((t + 1 : Nat) : Int) = (t : Int) + 1 from rfl] at P2 FA KA
     have P2 := Lib.hid P2
     have FA := Lib.hid FA
     have KA := Lib.hid KA
     clear P1 hka g1 hg hm1 hkid F1 hk1 hox hten hokn hk10 hts
     go_wp2_with fail
     refine (hT1.out _ _ FA.out P2.out).mono ?_
     rintro x z1 ⟨rfl, hz, hkz⟩
     have FZ := Lib.hid hz
     have KZ := Lib.hid (KA.out.trans hkz (fun _ _ h => h))
     clear hz hkz n8 n9 lb1 lp1 lb2 P2 FA KA
     by_cases h2 : n.h.mn ≤ (t : Int)
     ·have hnz := HN.out.keep KZ.out
      obtain ⟨b', o', A', cap', hnd', hbp', ten', _⟩ := hnz.kids
      cases hnd'
      have n7 := ten'.c7
      have lz := ten'.lt
      rw [if_pos h2] at g2
      have m5 : decide (n.h.mn ≤ (t : Int)) = true := by simpa using h2
      have hT2 := Lib.hid (fun wx hx hy => TH r q c s2 s' (.pointer po) wx g2 S2.out (HRT.out.mono (Nat.le_refl _) L2.out) HQ.out HC.out hx hy)
      have FZ1 := FZ.out
      clear g2 h2 ten'
      go_wp2_with fail
      refine (hT2.out _ FZ1 (TasksAt.keep KZ.out HR.out)).mono ?_
      rintro x z2 ⟨rfl, hz2, hkz2⟩
      clear n7 lz FZ1
      have FF := Lib.hid hz2
      have KK := Lib.hid (KZ.out.trans hkz2 (fun _ _ h => h))
      clear hz2 hkz2
      go_wp2_with fail
      go_end0
      exact ⟨rfl, FF.out, KK.out⟩
     ·have hnz := HN.out.keep KZ.out
      obtain ⟨b', o', A', cap', hnd', hbp', ten', _⟩ := hnz.kids
      cases hnd'
      have n7 := ten'.c7
      have lz := ten'.lt
      rw [if_neg h2] at g2
      cases g2
      have m5 : decide (n.h.mn ≤ (t : Int)) = false := by simpa using h2
      clear h2 ten'
      go_wp2_with fail
      go_end0
      exact ⟨rfl, FZ.out, KZ.out⟩
   ·rw [if_neg hg] at g1
    have hg1 := Option.some.inj g1
    have m1 : decide (n.h.mx < 0) = false := by simp; omega
    have m2 : decide ((t : Int) < n.h.mx) = false := by simp; omega
    have FZ := Lib.hid (show FAt w1 p T e s2 c from hg1 ▸ F1)
    have KZ := Lib.hid hk1
    clear g1 hg hg1 hkid F1 hk1 hox hokn hk10 hts hten
    by_cases h2 : n.h.mn ≤ (t : Int)
    ·have hnz := HN.out.keep KZ.out
     obtain ⟨b', o', A', cap', hnd', hbp', ten', _⟩ := hnz.kids
     cases hnd'
     have n7 := ten'.c7
     have lz := ten'.lt
     rw [if_pos h2] at g2
     have m5 : decide (n.h.mn ≤ (t : Int)) = true := by simpa using h2
     have hT2 := Lib.hid (fun wx hx hy => TH r q c s2 s' (.pointer po) wx g2 S2.out (HRT.out.mono (Nat.le_refl _) L2.out) HQ.out HC.out hx hy)
     have FZ1 := FZ.out
     clear g2 h2 ten'
     go_wp2_with fail
     refine (hT2.out _ FZ1 (TasksAt.keep KZ.out HR.out)).mono ?_
     rintro x z2 ⟨rfl, hz2, hkz2⟩
     clear n7 lz FZ1
     have FF := Lib.hid hz2
     have KK := Lib.hid (KZ.out.trans hkz2 (fun _ _ h => h))
     clear hz2 hkz2
     go_wp2_with fail
     go_end0
     exact ⟨rfl, FF.out, KK.out⟩
    ·have hnz := HN.out.keep KZ.out
     obtain ⟨b', o', A', cap', hnd', hbp', ten', _⟩ := hnz.kids
     cases hnd'
     have n7 := ten'.c7
     have lz := ten'.lt
     rw [if_neg h2] at g2
     cases g2
     have m5 : decide (n.h.mn ≤ (t : Int)) = false := by simpa using h2
     clear h2 ten'
     go_wp2_with fail
     go_end0
     exact ⟨rfl, FZ.out, KZ.out⟩
theorem ThrSaid.down {p : Nat} {T : ByteArray} {e : Env} {k j : Nat} (h : ThrSaid p T e k) (hj : j ≤ k) : ThrSaid p T e j :=
 fun ts q c s s' tv w ht => h ts q c s s' tv w (thr_more hj ht)
set_option maxRecDepth 100000 in
set_option maxHeartbeats 4000000 in
theorem either_any (p : Nat) (T : ByteArray) (e : Env) (k : Nat) (hT : T.toList = e.L) (TH : ThrSaid p T e k) (n : Nd) (r : List Tk) (q : Nat) (c : Caps) (s s' : St) (nd nx : Value) (w : World)
  (h : alts (k + 1) e n.l r q c s = some s') (hs : StOk e s) (hokn : okT n) (hlen : n.l.length ≤ 9223372036854775807) (hrt : TksOk q s.tries r) (hq : q ≤ T.size) (hc : CapsOk T.size c) (hb : FAt w p T e s c)
  (hn : NodeAt (Off p) w n nd) (hr : TasksAt (Off p) w r nx) :
  Calls Try.prog 102 #[.pointer (some ⟨p, 0, none⟩), nd, nx, .int .i64 (q : Int)] w fun x w' => x = .returned (.tuple #[]) ∧ FAt w' p T e s' c ∧ Keep (Ob p) w w' := by
 obtain ⟨po, rfl⟩ := hr.ptr
 have hsz : T.size = e.L.length := by rw [← hT, toList_len]
 have HI := Lib.hid (inv_all e)
 have HC := Lib.hid hc
 have HC2 := Lib.hid (show CapsOk e.L.length c by rw [← hsz]; exact hc)
 have HQ := Lib.hid hq
 have HQ2 := Lib.hid (show q ≤ e.L.length by omega)
 have HR := Lib.hid hr
 have HN := Lib.hid hn
 have HRT := Lib.hid hrt
 have HK := Lib.hid (okT_kids hokn)
 have HL := Lib.hid hlen
 have H0 := Lib.hid h
 have HS0 := Lib.hid hs
 have HB0 := Lib.hid hb
 obtain ⟨b, o, A, cap, rfl, hbp, hten, _⟩ := hn.kids
 have n9 := hten.c9
 have lb := hten.lt
 obtain ⟨L, hL⟩ : ∃ L, L = n.l.length := ⟨_, rfl⟩
 rw [← hL] at n9
 have HLL := Lib.hid hL
 have TH := Lib.hid TH
 clear h hs hokn hlen hrt hq hc hb hn hr hten hsz hL hT
 go_enter Try.func102, Try.ntmps102
 go_wp2_with fail
 clear n9 lb
 go_loopw [14] (fun i wr => ∃ (j kj : Nat) (sj : St), i = .int .i64 (j : Int) ∧ Hid (j ≤ L) ∧ Hid (kj ≤ k + 1 ∧ alts kj e (n.l.drop j) r q c sj = some s') ∧ Hid (StOk e sj ∧ s.tries ≤ sj.tries) ∧ Hid (FAt wr p T e sj c) ∧ Hid (Keep (Ob p) w wr)) (fun i _ => L - (intOf i).toNat)
 case atStart => exact ⟨0, k + 1, s, rfl, Lib.hid (Nat.zero_le _), Lib.hid ⟨Nat.le_refl _, H0.out⟩, Lib.hid ⟨HS0.out, Nat.le_refl _⟩, HB0, Lib.hid (Keep.refl _ _)⟩
 case round =>
  obtain ⟨j, kj, sj, rfl, hj, ha, hS, hF, hK⟩ := hrel
  have HJ := hj.out
  by_cases hlt : j < L
  ·have g1 : decide ((j : Int) < (L : Int)) = true := by simp; omega
   have g2 : decide (j < L) = true := by simp; omega
   have hjl : j < n.l.length := by rw [← HLL.out]; exact hlt
   obtain ⟨kk, rfl⟩ : ∃ i, kj = i + 1 := by
    cases kj with
    | zero => have := ha.out.2; rw [alts.eq_def] at this; cases this
    | succ i => exact ⟨i, rfl⟩
   have ha2 := ha.out.2
   rw [List.drop_eq_getElem_cons hjl] at ha2
   have c3 := hF.out.cell 3 (u := .bool sj.over) rfl
   have lp := hF.out.lt
   by_cases ho : sj.over = true
   ·rw [alts_over _ _ _ _ _ _ _ ho] at ha2
    cases ha2
    rw [ho] at c3
    clear ho ha hjl
    go_wp2_with fail
    exact bodyPost_ret (results_none Try.results102 _ _ _) rfl ⟨rfl, hF.out, hK.out⟩
   ·have ho2 : sj.over = false := by simpa using ho
    rw [alts_go _ _ _ _ _ _ _ ho] at ha2
    have HY := Lib.hid (try_any p T e sj c wr ho2 hS.out.1.tries hF.out)
    rw [ho2] at c3
    rcases tryS_cases sj with ⟨_, e1⟩ | ⟨hne, e1⟩
    ·rw [e1] at ha2 HY
     cases ha2
     clear ho ho2 e1 ha hjl
     go_wp2_with fail
     refine HY.out.mono ?_
     rintro x w1 ⟨rfl, hf1, hk1⟩
     have F1 := Lib.hid hf1
     have K1 := Lib.hid (hK.out.trans hk1 (fun _ _ h => h))
     clear hf1 hk1
     go_wp2_with fail
     exact bodyPost_ret (results_none Try.results102 _ _ _) rfl ⟨rfl, F1.out, K1.out⟩
    ·rw [e1] at ha2 HY
     simp only [] at ha2
     rw [Option.bind_eq_some_iff] at ha2
     obtain ⟨s2, g3, g4⟩ := ha2
     have hokx : okT n.l[j] := okL_mem HK.out _ (List.getElem_mem hjl)
     have hS1 := hS.out.1.tries_up hne
     have hr1 : TksOk q (sj.tries + 1) r := HRT.out.mono (Nat.le_refl _) (by have := hS.out.2; omega)
     have i1 := (HI.out kk).1 _ _ _ _ _ g3 hS1 (TksOk.cons (show TkOk q (sj.tries + 1) (.node n.l[j]) from hokx) hr1) HQ2.out HC2.out
     have hkk : kk ≤ k := by have := ha.out.1; omega
     have hT1 := Lib.hid (fun wx tv hx hy => (TH.out.down hkk) _ q c _ s2 tv wx g3 hS1 (TksOk.cons (show TkOk q (sj.tries + 1) (.node n.l[j]) from hokx) hr1) HQ.out HC.out hx hy)
     have G4 := Lib.hid (show kk ≤ k + 1 ∧ alts kk e (n.l.drop (j + 1)) r q c s2 = some s' from ⟨by omega, g4⟩)
     have I1 := Lib.hid (show StOk e s2 ∧ s.tries ≤ s2.tries from ⟨i1.1, by have := hS.out.2; have := i1.2; simp only [] at this; omega⟩)
     have hjj : IntKind.i64.wrap ((j : Int) + 1) = (j : Int) + 1 := by have := HL.out; have := HLL.out; rw [IntKind.wrap_i64]; omega
     have hjj2 : wrap64 ((j : Int) + 1) = (j : Int) + 1 := by have := HL.out; have := HLL.out; unfold wrap64; omega
     have J1 := Lib.hid hjj
     have J2 := Lib.hid hjj2
     have HJL := Lib.hid hjl
     have HLT := Lib.hid hlt
     clear g3 g4 hokx hr1 i1 e1 ho ho2 ha hjj hjj2
     go_wp2_with fail
     refine HY.out.mono ?_
     rintro x w1 ⟨rfl, F1, hk1⟩
     have hK1 := hK.out.trans hk1 (fun _ _ h => h)
     have hn1 := HN.out.keep hK1
     obtain ⟨b', o', A', cap', hnd', hbp', ten', hkids⟩ := hn1.kids
     cases hnd'
     obtain ⟨b2, o2, hA, hkid⟩ := hkids j HJL.out
     subst hA
     rw [← HLL.out] at ten'
     have n9 := ten'.c9
     have lb := ten'.lt
     have lp1 := F1.lt
     have lb2 : b2 < w1.heap.size := by obtain ⟨_, _, _, hbb, _, hlt2, _⟩ := id hkid; cases hbb; exact hlt2.lt
     have i0 : (0 : Int) ≤ (j : Int) := by omega
     have i2 : (j : Int) < (L : Int) := by omega
     have P1 := TasksAt.push (p := p) (t := .node n.l[j]) F1.lt hkid (TasksAt.keep hK1 HR.out)
     have FA : FAt (w1.alloc (.cells (tRow (.node n.l[j]) (.pointer (some ⟨b2, o2 + j * 10, none⟩)) (.pointer po)) 108)) p T e { sj with tries := sj.tries + 1 } c := F1.alloc _
     have KA : Keep (Ob p) w (w1.alloc (.cells (tRow (.node n.l[j]) (.pointer (some ⟨b2, o2 + j * 10, none⟩)) (.pointer po)) 108)) := Keep.alloc hK1 _
     simp only [tRow] at P1 FA KA
     have P1 := Lib.hid P1
     have FA := Lib.hid FA
     have KA := Lib.hid KA
     clear hn1 hkids hkid ten' F1 hk1 hK1 hlt HY c3 lp HJ
     go_wp2_with fail
     refine (hT1.out _ _ FA.out P1.out).mono ?_
     rintro x z1 ⟨rfl, hz, hkz⟩
     have FZ := Lib.hid hz
     have KZ := Lib.hid (KA.out.trans hkz (fun _ _ h => h))
     have j1 := J1.out
     have j2 := J2.out
     clear hz hkz n9 lb lp1 lb2 P1 FA KA i0 i2
     go_wp2_with fail
     go_roundw
     case rel => exact ⟨j + 1, kk, s2, by go_num, Lib.hid HLT.out, G4, I1, FZ, KZ⟩
     case measure => simp [intOf]; have := HLT.out; omega
  ·have g1 : decide ((j : Int) < (L : Int)) = false := by simp; omega
   have g2 : decide (j < L) = false := by simp; omega
   have hend : sj = s' := by
    have h1 := ha.out.2
    rw [List.drop_eq_nil_of_le (by rw [← HLL.out]; omega)] at h1
    cases kj with
    | zero => rw [alts.eq_def] at h1; cases h1
    | succ i => rw [alts_nil] at h1; exact Option.some.inj h1
   subst hend
   clear ha
   go_wp2_with fail
   go_end0
   exact ⟨rfl, hF.out, hK.out⟩
set_option maxRecDepth 100000 in
set_option maxHeartbeats 4000000 in
theorem node_6 (p : Nat) (T : ByteArray) (e : Env) (k : Nat) (hT : T.toList = e.L) (h6 : T.size ≤ 600) (TH : ThrSaid p T e k) (n : Nd) (r : List Tk) (q : Nat) (c : Caps) (s s' : St) (nd nx : Value) (w : World)
  (h : thr (k + 1) e (.node n :: r) q c s = some s') (ho : s.over = false) (hs : StOk e s) (hok : TksOk q s.tries (.node n :: r)) (hq : q ≤ T.size) (hc : CapsOk T.size c) (hb : FAt w p T e s c)
  (hn : NodeAt (Off p) w n nd) (hr : TasksAt (Off p) w r nx) (hk : n.h.k = 6) :
  Calls Try.prog 87 #[.pointer (some ⟨p, 0, none⟩), nd, nx, .int .i64 (q : Int)] w fun x w' => x = .returned (.tuple #[]) ∧ FAt w' p T e s' c ∧ Keep (Ob p) w w' := by
 obtain ⟨po, rfl⟩ := hr.ptr
 have ho' : ¬ s.over = true := by rw [ho]; simp
 obtain ⟨x0, hx0, hox⟩ := kid_of hok.head (.inl hk)
 rw [thr_6 _ _ _ _ _ _ x0 ho' hk hx0] at h
 have hT1 := Lib.hid (fun wx tv hx hy => TH _ q c s s' tv wx h hs (TksOk.cons (show TkOk q s.tries (.node x0) from hox) (TksOk.cons (show TkOk q s.tries (.grp n q) from ⟨hok.head, hk, Nat.le_refl _⟩) hok.tail)) hq hc hx hy)
 obtain ⟨b, o, A, cap, rfl, hbp, hten, hkids⟩ := hn.kids
 obtain ⟨b2, o2, hA, hkid0⟩ := hkids 0 (by rw [hx0]; exact Nat.zero_lt_one)
 subst hA
 have hkid : NodeAt (Off p) w x0 (.pointer (some ⟨b2, o2, none⟩)) := by simpa [hx0] using hkid0
 rw [show n.l.length = 1 by rw [hx0]; rfl] at hten
 have n0 := hten.c0
 have n9 := hten.c9
 rw [hk] at n0
 have lb := hten.lt
 have lp := hb.lt
 have lb2 : b2 < w.heap.size := by obtain ⟨_, _, _, hbb, _, hlt2, _⟩ := id hkid; cases hbb; exact hlt2.lt
 have P1 := TasksAt.push (p := p) (t := .grp n q) hb.lt hn hr
 have hka : Keep (Ob p) w (w.alloc (.cells (tRow (.grp n q) (.pointer (some ⟨b, o, none⟩)) (.pointer po)) 108)) := Keep.alloc (Keep.refl _ _) _
 have P2 := TasksAt.push (p := p) (t := .node x0) (by simp; omega) (hkid.keep hka) P1
 rw [World.size_alloc] at P2
 have FA : FAt ((w.alloc (.cells (tRow (.grp n q) (.pointer (some ⟨b, o, none⟩)) (.pointer po)) 108)).alloc (.cells (tRow (.node x0) (.pointer (some ⟨b2, o2, none⟩)) (.pointer (some ⟨w.heap.size, 0, none⟩))) 108)) p T e s c := (hb.alloc _).alloc _
 have KA : Keep (Ob p) w ((w.alloc (.cells (tRow (.grp n q) (.pointer (some ⟨b, o, none⟩)) (.pointer po)) 108)).alloc (.cells (tRow (.node x0) (.pointer (some ⟨b2, o2, none⟩)) (.pointer (some ⟨w.heap.size, 0, none⟩))) 108)) := Keep.alloc (Keep.alloc (Keep.refl _ _) _) _
 simp only [tRow] at P2 FA KA
 have P2 := Lib.hid P2
 have FA := Lib.hid FA
 have KA := Lib.hid KA
 clear P1 hka hkid hkid0 hkids hten h hs hok hq hc hb hn hr ho ho' hk hx0 hox
 go_enter Try.func87, Try.ntmps87
 go_wp2_with fail
 refine (hT1.out _ _ FA.out P2.out).mono ?_
 rintro x z1 ⟨rfl, hz, hkz⟩
 have FZ := Lib.hid hz
 have KZ := Lib.hid (KA.out.trans hkz (fun _ _ h => h))
 clear hz hkz n0 n9 lb lp lb2
 go_wp2_with fail
 go_end0
 exact ⟨rfl, FZ.out, KZ.out⟩
set_option maxRecDepth 100000 in
set_option maxHeartbeats 4000000 in
theorem node_9 (p : Nat) (T : ByteArray) (e : Env) (k : Nat) (hT : T.toList = e.L) (h6 : T.size ≤ 600) (TH : ThrSaid p T e k) (n : Nd) (r : List Tk) (q : Nat) (c : Caps) (s s' : St) (nd nx : Value) (w : World)
  (h : thr (k + 1) e (.node n :: r) q c s = some s') (ho : s.over = false) (hs : StOk e s) (hok : TksOk q s.tries (.node n :: r)) (hq : q ≤ T.size) (hc : CapsOk T.size c) (hb : FAt w p T e s c)
  (hn : NodeAt (Off p) w n nd) (hr : TasksAt (Off p) w r nx) (hk : n.h.k = 9) :
  Calls Try.prog 87 #[.pointer (some ⟨p, 0, none⟩), nd, nx, .int .i64 (q : Int)] w fun x w' => x = .returned (.tuple #[]) ∧ FAt w' p T e s' c ∧ Keep (Ob p) w w' := by
 obtain ⟨po, rfl⟩ := hr.ptr
 have ho' : ¬ s.over = true := by rw [ho]; simp
 rw [thr_9 _ _ _ _ _ _ ho' hk] at h
 obtain ⟨kk, rfl⟩ : ∃ i, k = i + 1 := by
  cases k with
  | zero => rw [alts.eq_def] at h; cases h
  | succ i => exact ⟨i, rfl⟩
 have hE := Lib.hid (either_any p T e kk hT (TH.down (Nat.le_succ _)) n r q c s s' nd (.pointer po) w h hs hok.head hn.len hok.tail hq hc hb hn hr)
 obtain ⟨b, o, A, cap, rfl, hbp, hten, _⟩ := hn.kids
 have n0 := hten.c0
 rw [hk] at n0
 have lb := hten.lt
 clear h hs hok hq hc hb hn hr ho ho' hk hten TH
 go_enter Try.func87, Try.ntmps87
 go_wp2_with fail
 refine hE.out.mono ?_
 rintro x z1 ⟨rfl, hz, hkz⟩
 have FZ := Lib.hid hz
 have KZ := Lib.hid hkz
 clear hz hkz n0 lb
 go_wp2_with fail
 go_end0
 exact ⟨rfl, FZ.out, KZ.out⟩
set_option maxRecDepth 100000 in
set_option maxHeartbeats 4000000 in
theorem node_10 (p : Nat) (T : ByteArray) (e : Env) (k : Nat) (hT : T.toList = e.L) (h6 : T.size ≤ 600) (TH : ThrSaid p T e k) (n : Nd) (r : List Tk) (q : Nat) (c : Caps) (s s' : St) (nd nx : Value) (w : World)
  (h : thr (k + 1) e (.node n :: r) q c s = some s') (ho : s.over = false) (hs : StOk e s) (hok : TksOk q s.tries (.node n :: r)) (hq : q ≤ T.size) (hc : CapsOk T.size c) (hb : FAt w p T e s c)
  (hn : NodeAt (Off p) w n nd) (hr : TasksAt (Off p) w r nx) (hk : n.h.k = 10) :
  Calls Try.prog 87 #[.pointer (some ⟨p, 0, none⟩), nd, nx, .int .i64 (q : Int)] w fun x w' => x = .returned (.tuple #[]) ∧ FAt w' p T e s' c ∧ Keep (Ob p) w w' := by
 obtain ⟨po, rfl⟩ := hr.ptr
 have ho' : ¬ s.over = true := by rw [ho]; simp
 rw [thr_10 _ _ _ _ _ _ ho' hk] at h
 obtain ⟨kk, rfl⟩ : ∃ i, k = i + 1 := by
  cases k with
  | zero => rw [rep.eq_def] at h; cases h
  | succ i => exact ⟨i, rfl⟩
 have hE := Lib.hid (repeat_any p T e kk hT (TH.down (Nat.le_succ _)) n 0 r q c s s' nd (.pointer po) w h hs hok.head hk (Nat.zero_le _) hok.tail hq hc hb hn hr)
 obtain ⟨b, o, A, cap, rfl, hbp, hten, _⟩ := hn.kids
 have n0 := hten.c0
 rw [hk] at n0
 have lb := hten.lt
 clear h hs hok hq hc hb hn hr ho ho' hk hten TH
 go_enter Try.func87, Try.ntmps87
 go_wp2_with fail
 refine hE.out.mono ?_
 rintro x z1 ⟨rfl, hz, hkz⟩
 have FZ := Lib.hid hz
 have KZ := Lib.hid hkz
 clear hz hkz n0 lb
 go_wp2_with fail
 go_end0
 exact ⟨rfl, FZ.out, KZ.out⟩
set_option maxRecDepth 100000 in
set_option maxHeartbeats 4000000 in
theorem node_leaf (p : Nat) (T : ByteArray) (e : Env) (k : Nat) (hT : T.toList = e.L) (h6 : T.size ≤ 600) (TH : ThrSaid p T e k) (n : Nd) (r : List Tk) (q : Nat) (c : Caps) (s s' : St) (nd nx : Value) (w : World)
  (h : thr (k + 1) e (.node n :: r) q c s = some s') (ho : s.over = false) (hs : StOk e s) (hok : TksOk q s.tries (.node n :: r)) (hq : q ≤ T.size) (hc : CapsOk T.size c) (hb : FAt w p T e s c)
  (hn : NodeAt (Off p) w n nd) (hr : TasksAt (Off p) w r nx) (hk : leafK n.h.k) :
  Calls Try.prog 87 #[.pointer (some ⟨p, 0, none⟩), nd, nx, .int .i64 (q : Int)] w fun x w' => x = .returned (.tuple #[]) ∧ FAt w' p T e s' c ∧ Keep (Ob p) w w' := by
 obtain ⟨po, rfl⟩ := hr.ptr
 have ho' : ¬ s.over = true := by rw [ho]; simp
 rw [thr_leaf _ _ _ _ _ _ ho' hk] at h
 have HY := Lib.hid (try_any p T e s c w ho hs.tries hb)
 obtain ⟨b, o, S, rfl, hbp, hten, hlies⟩ := hn
 have n0 := hten.c0
 have z8 := bne_int hk.1
 have z9 := bne_int hk.2.1
 have z6 := bne_int hk.2.2.1
 have z10 := bne_int hk.2.2.2
 have lb := hten.lt
 have lp := hb.lt
 have hsz : T.size = e.L.length := by rw [← hT, toList_len]
 unfold leafF at h
 rcases tryS_cases s with ⟨_, e1⟩ | ⟨hne, e1⟩
 ·rw [e1] at h HY
  cases h
  clear hs hok hq hc hb hr ho ho' hk hten TH e1 hlies
  go_enter Try.func87, Try.ntmps87
  go_wp2_with fail
  refine HY.out.mono ?_
  rintro x w1 ⟨rfl, hf1, hk1⟩
  have F1 := Lib.hid hf1
  have K1 := Lib.hid hk1
  clear hf1 hk1
  go_wp2_with fail
  exact bodyPost_ret (results_none Try.results87 _ _ _) rfl ⟨rfl, F1.out, K1.out⟩
 ·rw [e1] at h HY
  simp only [] at h
  have HF := Lib.hid (fun wx (hx : FAt wx p T e { s with tries := s.tries + 1 } c) (hy : Ten wx b o n S) => fits_any p T e _ c n S b o q wx hT h6 hq hc hx hy (okT_head hok.head))
  have HT0 := Lib.hid hten
  have HR := Lib.hid hr
  cases hf : fitsF e n.h q c with
  | none =>
   rw [hf] at h HF
   cases h
   simp only [fitsI] at HF
   clear hs hok hq hc hb hr ho ho' hk hten TH e1 hlies hf
   go_enter Try.func87, Try.ntmps87
   go_wp2_with fail
   refine HY.out.mono ?_
   rintro x w1 ⟨rfl, hf1, hk1⟩
   have F1 := Lib.hid hf1
   have hten1 := Lib.hid (HT0.out.keepX hk1 hbp)
   have K1 := Lib.hid hk1
   clear hf1 hk1 n0 lb lp
   go_wp2_with fail
   refine (HF.out _ F1.out hten1.out).mono ?_
   rintro x w2 ⟨rfl, hk2⟩
   have F2 := Lib.hid (F1.out.keep hk2 id)
   have K2 := Lib.hid (K1.out.trans hk2 (fun _ _ h => h.elim))
   clear hk2
   go_wp2_with fail
   go_end0
   exact ⟨rfl, F2.out, K2.out⟩
  | some j =>
   rw [hf] at h HF
   simp only [fitsI] at h HF
   have hle := fitsF_le hf (by omega) (by rw [← hsz]; exact hc)
   have hT1 := Lib.hid (fun wx tv hx hy => TH r (q + j) c _ s' tv wx h (hs.tries_up hne) (hok.tail.mono (Nat.le_add_right _ _) (by simp only []; omega)) (by omega) hc hx hy)
   have hw : wrap64 ((q : Int) + (j : Int)) = (q : Int) + (j : Int) := by unfold wrap64; omega
   have HW := Lib.hid hw
   have i0 : (0 : Int) ≤ (j : Int) := by omega
   have i1 : decide ((0 : Int) ≤ (j : Int)) = true := by simp
   rw [show ((q + j : Nat) : Int) = (q : Int) + (j : Int) from rfl] at hT1
   clear h hs hok hq hc hb hr ho ho' hk hten TH e1 hlies hf hle hw hsz hT
   go_enter Try.func87, Try.ntmps87
   go_wp2_with fail
   refine HY.out.mono ?_
   rintro x w1 ⟨rfl, hf1, hk1⟩
   have F1 := Lib.hid hf1
   have hten1 := Lib.hid (HT0.out.keepX hk1 hbp)
   have K1 := Lib.hid hk1
   clear hf1 hk1 n0 lb lp
   go_wp2_with fail
   refine (HF.out _ F1.out hten1.out).mono ?_
   rintro x w2 ⟨rfl, hk2⟩
   have F2 := Lib.hid (F1.out.keep hk2 id)
   have K2 := Lib.hid (K1.out.trans hk2 (fun _ _ h => h.elim))
   clear hk2
   have hw := HW.out
   go_wp2_with fail
   refine (hT1.out _ _ F2.out (TasksAt.keep K2.out HR.out)).mono ?_
   rintro x z1 ⟨rfl, hz, hkz⟩
   have FZ := Lib.hid hz
   have KZ := Lib.hid (K2.out.trans hkz (fun _ _ h => h))
   clear hz hkz
   go_wp2_with fail
   go_end0
   exact ⟨rfl, FZ.out, KZ.out⟩
set_option maxRecDepth 100000 in
set_option maxHeartbeats 4000000 in
theorem node_8 (p : Nat) (T : ByteArray) (e : Env) (k : Nat) (hT : T.toList = e.L) (h6 : T.size ≤ 600) (TH : ThrSaid p T e k) (n : Nd) (r : List Tk) (q : Nat) (c : Caps) (s s' : St) (nd nx : Value) (w : World)
  (h : thr (k + 1) e (.node n :: r) q c s = some s') (ho : s.over = false) (hs : StOk e s) (hok : TksOk q s.tries (.node n :: r)) (hq : q ≤ T.size) (hc : CapsOk T.size c) (hb : FAt w p T e s c)
  (hn : NodeAt (Off p) w n nd) (hr : TasksAt (Off p) w r nx) (hk : n.h.k = 8) :
  Calls Try.prog 87 #[.pointer (some ⟨p, 0, none⟩), nd, nx, .int .i64 (q : Int)] w fun x w' => x = .returned (.tuple #[]) ∧ FAt w' p T e s' c ∧ Keep (Ob p) w w' := by
 obtain ⟨po, rfl⟩ := hr.ptr
 have ho' : ¬ s.over = true := by rw [ho]; simp
 rw [thr_8 _ _ _ _ _ _ ho' hk] at h
 have hT1 := Lib.hid (fun wx tv hx hy => TH _ q c s s' tv wx h hs (hok.tail.nodes (okT_kids hok.head)) hq hc hx hy)
 have HLN := Lib.hid hn.len
 have HN := Lib.hid hn
 have HR := Lib.hid hr
 obtain ⟨b, o, A, cap, rfl, hbp, hten, _⟩ := hn.kids
 have n0 := hten.c0
 have n9 := hten.c9
 rw [hk] at n0
 have lb := hten.lt
 have HB := Lib.hid hb
 obtain ⟨L, hL⟩ : ∃ L, L = n.l.length := ⟨_, rfl⟩
 rw [← hL] at n9
 have HLL := Lib.hid hL
 have hw0 : wrap64 ((L : Int) - 1) = (L : Int) - 1 := by have := HLN.out; unfold wrap64; omega
 clear h hs hok hq hc hb hn hr ho ho' hk hten TH hL
 go_enter Try.func87, Try.ntmps87
 go_wp2_with fail
 have HW0 := Lib.hid hw0
 clear n0 n9 lb hw0
 go_loopw [8, 2] (fun i v wr => ∃ (j : Nat) (tv : Value), i = .int .i64 ((j : Int) - 1) ∧ v = tv ∧ Hid (j ≤ L) ∧ Hid (TasksAt (Off p) wr ((n.l.drop j).map .node ++ r) tv) ∧ Hid (Keep Nb w wr)) (fun i _ _ => (intOf i + 1).toNat)
 case atStart => exact ⟨L, _, by first | rfl | rw [HW0.out], rfl, Lib.hid (Nat.le_refl _), Lib.hid (by rw [List.drop_eq_nil_of_le (by rw [HLL.out]; exact Nat.le_refl _)]; exact HR.out), Lib.hid (Keep.refl _ _)⟩
 case round =>
  obtain ⟨j, tv, rfl, rfl, hj, htk, hkk⟩ := hrel
  have hjl := hj.out
  obtain ⟨pv, hpv⟩ := htk.out.ptr
  subst hpv
  by_cases hz0 : j = 0
  ·have HZ0 := Lib.hid hz0
   have g1 : decide ((0 : Int) ≤ (j : Int) - 1) = false := by simp; omega
   have g2 : decide ((1 : Int) ≤ (j : Int)) = false := by simp; omega
   have g3 : decide (1 ≤ j) = false := by simp; omega
   have g4 : decide (0 < j) = false := by simp; omega
   have PT := Lib.hid (show TasksAt (Off p) wr (n.l.map .node ++ r) (.pointer pv) from by have := htk.out; rw [HZ0.out] at this; exact this)
   have FT1 := Lib.hid (HB.out.keep hkk.out id)
   clear hz0
   go_wp2_with fail
   refine (hT1.out _ _ FT1.out PT.out).mono ?_
   rintro x z1 ⟨rfl, hz, hkz⟩
   have FZ := Lib.hid hz
   have KZ := Lib.hid ((hkk.out.mono (fun _ _ h => h.elim)).trans hkz (fun _ _ h => h))
   clear hz hkz
   go_wp2_with fail
   go_end0
   exact ⟨rfl, FZ.out, KZ.out⟩
  ·obtain ⟨i, rfl⟩ : ∃ i, j = i + 1 := ⟨j - 1, by omega⟩
   have e1 : (((i + 1 : Nat) : Int) - 1) = (i : Int) := by omega
   rw [e1]
   have hil : i < n.l.length := by rw [← HLL.out]; omega
   have g1 : decide ((0 : Int) ≤ (i : Int)) = true := by simp
   have i0 : (0 : Int) ≤ (i : Int) := by omega
   have i2 : (i : Int) < (L : Int) := by omega
   have hw1 : wrap64 ((i : Int) - 1) = (i : Int) - 1 := by have := HLN.out; unfold wrap64; omega
   have HW1 := Lib.hid hw1
   have hn1 := HN.out.keep (p := p) (hkk.out.mono (fun _ _ h => h.elim))
   obtain ⟨b', o', A', cap', hnd', hbp', ten', hkids⟩ := hn1.kids
   cases hnd'
   obtain ⟨b2, o2, hA, hkid⟩ := hkids i hil
   subst hA
   rw [← HLL.out] at ten'
   have n9 := ten'.c9
   have lb := ten'.lt
   have lb2 : b2 < wr.heap.size := by obtain ⟨_, _, _, hbb, _, hlt2, _⟩ := id hkid; cases hbb; exact hlt2.lt
   have hpw : p < wr.heap.size := (HB.out.keep hkk.out id).lt
   have P1 := TasksAt.push (p := p) (t := .node n.l[i]) hpw hkid htk.out
   have hdr : (n.l.drop i).map Tk.node ++ r = .node n.l[i] :: ((n.l.drop (i + 1)).map .node ++ r) := by rw [List.drop_eq_getElem_cons hil]; rfl
   rw [← hdr] at P1
   have KA : Keep Nb w (wr.alloc (.cells (tRow (.node n.l[i]) (.pointer (some ⟨b2, o2 + i * 10, none⟩)) (.pointer pv)) 108)) := Keep.alloc hkk.out _
   simp only [tRow] at P1 KA
   have P1 := Lib.hid P1
   have KA := Lib.hid KA
   have HIL := Lib.hid (show i ≤ L by omega)
   clear hn1 hkids hkid ten' hdr htk hkk e1 hz0 hjl hil hj
   go_wp2_with fail
   go_roundw
   case rel => exact ⟨i, _, by first | rfl | rw [HW1.out], rfl, HIL, P1, KA⟩
   case measure => simp [intOf]; omega
theorem node_any (p : Nat) (T : ByteArray) (e : Env) (k : Nat) (hT : T.toList = e.L) (h6 : T.size ≤ 600) (TH : ThrSaid p T e k) (n : Nd) (r : List Tk) (q : Nat) (c : Caps) (s s' : St) (nd nx : Value) (w : World)
  (h : thr (k + 1) e (.node n :: r) q c s = some s') (ho : s.over = false) (hs : StOk e s) (hok : TksOk q s.tries (.node n :: r)) (hq : q ≤ T.size) (hc : CapsOk T.size c) (hb : FAt w p T e s c)
  (hn : NodeAt (Off p) w n nd) (hr : TasksAt (Off p) w r nx) : Calls Try.prog 87 #[.pointer (some ⟨p, 0, none⟩), nd, nx, .int .i64 (q : Int)] w fun x w' => x = .returned (.tuple #[]) ∧ FAt w' p T e s' c ∧ Keep (Ob p) w w' := by
 rcases kind_cases n.h.k with hk | hk | hk | hk | hk
 ·exact node_8 p T e k hT h6 TH n r q c s s' nd nx w h ho hs hok hq hc hb hn hr hk
 ·exact node_9 p T e k hT h6 TH n r q c s s' nd nx w h ho hs hok hq hc hb hn hr hk
 ·exact node_6 p T e k hT h6 TH n r q c s s' nd nx w h ho hs hok hq hc hb hn hr hk
 ·exact node_10 p T e k hT h6 TH n r q c s s' nd nx w h ho hs hok hq hc hb hn hr hk
 ·exact node_leaf p T e k hT h6 TH n r q c s s' nd nx w h ho hs hok hq hc hb hn hr hk
end Go.Proofs.Ytkidjbfapldmbaa
