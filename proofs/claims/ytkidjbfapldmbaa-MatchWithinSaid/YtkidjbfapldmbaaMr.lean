/- A Repeat goes on: repeat of the program's finder. -/
import Derived.Test.YtkidjbfapldmbaaMe
namespace Go.Proofs.Ytkidjbfapldmbaa
set_option linter.unusedVariables false
set_option linter.unusedSimpArgs false
open Go.RowKit P8
set_option linter.unusedSectionVars false

set_option maxRecDepth 100000 in
set_option maxHeartbeats 4000000 in
theorem repeat_any (p : Nat) (T : ByteArray) (e : Env) (k : Nat) (hT : T.toList = e.L) (TH : ThrSaid p T e k) (n : Nd) (t : Nat) (r : List Tk) (q : Nat) (c : Caps) (s s' : St) (nd nx : Value) (w : World)
    (h : rep (k + 1) e n t r q c s = some s') (hs : StOk e s) (hokn : okT n) (hk10 : n.h.k = 10) (hts : t ≤ s.tries) (hrt : TksOk q s.tries r) (hq : q ≤ T.size) (hc : CapsOk T.size c) (hb : FAt w p T e s c)
    (hn : NodeAt (Off p) w n nd) (hr : TasksAt (Off p) w r nx) :
    Calls Try.prog 86 #[.pointer (some ⟨p, 0, none⟩), nd, .int .i64 (t : Int), nx, .int .i64 (q : Int)] w fun x w' => x = .returned (.tuple #[]) ∧ FAt w' p T e s' c ∧ Keep (Ob p) w w' := by
  obtain ⟨po, rfl⟩ := hr.ptr
  have c3 := hb.cell 3 (u := .bool s.over) rfl
  have lp := hb.lt
  by_cases ho : s.over = true
  · rw [rep_over _ _ _ _ _ _ _ ho] at h
    cases h
    rw [ho] at c3
    have HB := Lib.hid hb
    clear hb hr hn hrt hc TH ho hs
    go_enter Try.func86, Try.ntmps86
    go_wp2_with fail
    exact bodyPost_ret (results_none Try.results86 _ _ _) rfl ⟨rfl, HB.out, Keep.refl _ _⟩
  · have ho2 : s.over = false := by simpa using ho
    rw [rep_go _ _ _ _ _ _ _ ho] at h
    have HY := Lib.hid (try_any p T e s c w ho2 hs.tries hb)
    rw [ho2] at c3
    rcases tryS_cases s with ⟨_, e1⟩ | ⟨hne, e1⟩
    · rw [e1] at h HY
      cases h
      clear hb hr hn hrt hc TH ho hs e1 ho2
      go_enter Try.func86, Try.ntmps86
      go_wp2_with fail
      refine HY.out.mono ?_
      rintro x w1 ⟨rfl, hf, hk⟩
      have HF := Lib.hid hf
      have HK := Lib.hid hk
      clear hf hk
      go_wp2_with fail
      exact bodyPost_ret (results_none Try.results86 _ _ _) rfl ⟨rfl, HF.out, HK.out⟩
    · rw [e1] at h HY
      simp only [] at h
      obtain ⟨x0, hx0, hox⟩ := kid_of hokn (.inr hk10)
      simp only [repF, hx0] at h
      rw [Option.bind_eq_some_iff] at h
      obtain ⟨s2, g1, g2⟩ := h
      have hS1 := hs.tries_up hne
      have hi := inv_all e k
      have hlen : T.size = e.L.length := by rw [← hT, toList_len]
      have hrt1 : TksOk q (s.tries + 1) r := hrt.mono (Nat.le_refl _) (by omega)
      have i1 : StOk e s2 ∧ s.tries + 1 ≤ s2.tries := by
        split at g1
        · exact hi.1 _ _ _ _ _ g1 hS1 (TksOk.cons (show TkOk q (s.tries + 1) (.node x0) from hox) (TksOk.cons (show TkOk q (s.tries + 1) (.again n q (t + 1)) from ⟨hokn, hk10, by omega⟩) hrt1)) (by omega) (by rw [← hlen]; exact hc)
        · cases g1; exact ⟨hS1, Nat.le_refl _⟩
      have S1 := Lib.hid hS1
      have S2 := Lib.hid i1.1
      have L2 := Lib.hid i1.2
      have HRT := Lib.hid hrt1
      have HQ := Lib.hid hq
      have HC := Lib.hid hc
      have HR := Lib.hid hr
      have ht3 : t ≤ 3000 := Nat.le_trans hts hs.tries
      obtain ⟨b, o, A, cap, rfl, hbp, hten, hkids⟩ := hn.kids
      obtain ⟨b2, o2, hA, hkid0⟩ := hkids 0 (by rw [hx0]; exact Nat.zero_lt_one)
      subst hA
      have hkid : NodeAt (Off p) w x0 (.pointer (some ⟨b2, o2, none⟩)) := by simpa [hx0] using hkid0
      rw [show n.l.length = 1 by rw [hx0]; rfl] at hten
      have HN := Lib.hid hn
      clear hb hr hn hrt hrt1 hc ho hs e1 ho2 i1 hi hS1 hkids hkid0 hq hlen hne hT
      have hw1 : wrap64 ((t : Int) + 1) = (t : Int) + 1 := by unfold wrap64; omega
      have W1 := Lib.hid hw1
      have HT0 := Lib.hid hten
      have HKD := Lib.hid hkid
      clear hw1 hten hkid ht3
      go_enter Try.func86, Try.ntmps86
      go_wp2_with fail
      refine HY.out.mono ?_
      rintro x w1 ⟨rfl, F1, hk1⟩
      have hten := HT0.out.keepX hk1 hbp
      have hkid := HKD.out.keep hk1
      have n8 := hten.c8
      have n9 := hten.c9
      have lb1 := hten.lt
      have lp1 := F1.lt
      obtain ⟨_, _, _, hbb, _, hlt2, _⟩ := id hkid
      have lb2 : b2 < w1.heap.size := by cases hbb; exact hlt2.lt
      clear hbb hlt2 c3 lp HY HT0 HKD
      have hw1 := W1.out
      by_cases hg : n.h.mx < 0 ∨ (t : Int) < n.h.mx
      · by_cases hm1 : n.h.mx < 0
        · rw [if_pos hg] at g1
          have m1 : decide (n.h.mx < 0) = true := by simpa using hm1
          have hT1 := Lib.hid (fun wx tv hx hy => TH _ q c _ s2 tv wx g1 S1.out (TksOk.cons (show TkOk q (s.tries + 1) (.node x0) from hox) (TksOk.cons (show TkOk q (s.tries + 1) (.again n q (t + 1)) from ⟨hokn, hk10, by omega⟩) HRT.out)) HQ.out HC.out hx hy)
          have P1 := TasksAt.push (p := p) (t := .again n q (t + 1)) F1.lt (HN.out.keep hk1) (TasksAt.keep hk1 HR.out)
          have hka : Keep (Ob p) w1 (w1.alloc (.cells (tRow (.again n q (t + 1)) (.pointer (some ⟨b, o, none⟩)) (.pointer po)) 108)) := Keep.alloc (Keep.refl _ _) _
          have P2 := TasksAt.push (p := p) (t := .node x0) (by have := F1.lt; simp; omega) (hkid.keep hka) P1
          rw [World.size_alloc] at P2
          have FA : FAt ((w1.alloc (.cells (tRow (.again n q (t + 1)) (.pointer (some ⟨b, o, none⟩)) (.pointer po)) 108)).alloc (.cells (tRow (.node x0) (.pointer (some ⟨b2, o2, none⟩)) (.pointer (some ⟨w1.heap.size, 0, none⟩))) 108)) p T e { s with tries := s.tries + 1 } c := (F1.alloc _).alloc _
          have KA : Keep (Ob p) w ((w1.alloc (.cells (tRow (.again n q (t + 1)) (.pointer (some ⟨b, o, none⟩)) (.pointer po)) 108)).alloc (.cells (tRow (.node x0) (.pointer (some ⟨b2, o2, none⟩)) (.pointer (some ⟨w1.heap.size, 0, none⟩))) 108)) := Keep.alloc (Keep.alloc hk1 _) _
          simp only [tRow] at P2 FA KA
          rw [show ((t + 1 : Nat) : Int) = (t : Int) + 1 from rfl] at P2 FA KA
          have P2 := Lib.hid P2
          have FA := Lib.hid FA
          have KA := Lib.hid KA
          clear P1 hka g1 hg hm1 hkid F1 hk1 hox hten hokn hk10 hts
          go_wp2_with fail
          refine (hT1.out _ _ FA.out P2.out).mono ?_
          rintro x z1 ⟨rfl, hz, hkz⟩
          have FZ := Lib.hid hz
          have KZ := Lib.hid (KA.out.trans hkz (fun _ _ h => h))
          clear hz hkz n8 n9 lb1 lp1 lb2 P2 FA KA
          by_cases h2 : n.h.mn ≤ (t : Int)
          · have hnz := HN.out.keep KZ.out
            obtain ⟨b', o', A', cap', hnd', hbp', ten', _⟩ := hnz.kids
            cases hnd'
            have n7 := ten'.c7
            have lz := ten'.lt
            rw [if_pos h2] at g2
            have m5 : decide (n.h.mn ≤ (t : Int)) = true := by simpa using h2
            have hT2 := Lib.hid (fun wx hx hy => TH r q c s2 s' (.pointer po) wx g2 S2.out (HRT.out.mono (Nat.le_refl _) L2.out) HQ.out HC.out hx hy)
            have FZ1 := FZ.out
            clear g2 h2 ten'
            go_wp2_with fail
            refine (hT2.out _ FZ1 (TasksAt.keep KZ.out HR.out)).mono ?_
            rintro x z2 ⟨rfl, hz2, hkz2⟩
            clear n7 lz FZ1
            have FF := Lib.hid hz2
            have KK := Lib.hid (KZ.out.trans hkz2 (fun _ _ h => h))
            clear hz2 hkz2
            go_wp2_with fail
            go_end0
            exact ⟨rfl, FF.out, KK.out⟩
          · have hnz := HN.out.keep KZ.out
            obtain ⟨b', o', A', cap', hnd', hbp', ten', _⟩ := hnz.kids
            cases hnd'
            have n7 := ten'.c7
            have lz := ten'.lt
            rw [if_neg h2] at g2
            cases g2
            have m5 : decide (n.h.mn ≤ (t : Int)) = false := by simpa using h2
            clear h2 ten'
            go_wp2_with fail
            go_end0
            exact ⟨rfl, FZ.out, KZ.out⟩
        · rw [if_pos hg] at g1
          have m1 : decide (n.h.mx < 0) = false := by simpa using hm1
          have m2 : decide ((t : Int) < n.h.mx) = true := by simp; omega
          have hT1 := Lib.hid (fun wx tv hx hy => TH _ q c _ s2 tv wx g1 S1.out (TksOk.cons (show TkOk q (s.tries + 1) (.node x0) from hox) (TksOk.cons (show TkOk q (s.tries + 1) (.again n q (t + 1)) from ⟨hokn, hk10, by omega⟩) HRT.out)) HQ.out HC.out hx hy)
          have P1 := TasksAt.push (p := p) (t := .again n q (t + 1)) F1.lt (HN.out.keep hk1) (TasksAt.keep hk1 HR.out)
          have hka : Keep (Ob p) w1 (w1.alloc (.cells (tRow (.again n q (t + 1)) (.pointer (some ⟨b, o, none⟩)) (.pointer po)) 108)) := Keep.alloc (Keep.refl _ _) _
          have P2 := TasksAt.push (p := p) (t := .node x0) (by have := F1.lt; simp; omega) (hkid.keep hka) P1
          rw [World.size_alloc] at P2
          have FA : FAt ((w1.alloc (.cells (tRow (.again n q (t + 1)) (.pointer (some ⟨b, o, none⟩)) (.pointer po)) 108)).alloc (.cells (tRow (.node x0) (.pointer (some ⟨b2, o2, none⟩)) (.pointer (some ⟨w1.heap.size, 0, none⟩))) 108)) p T e { s with tries := s.tries + 1 } c := (F1.alloc _).alloc _
          have KA : Keep (Ob p) w ((w1.alloc (.cells (tRow (.again n q (t + 1)) (.pointer (some ⟨b, o, none⟩)) (.pointer po)) 108)).alloc (.cells (tRow (.node x0) (.pointer (some ⟨b2, o2, none⟩)) (.pointer (some ⟨w1.heap.size, 0, none⟩))) 108)) := Keep.alloc (Keep.alloc hk1 _) _
          simp only [tRow] at P2 FA KA
          rw [show ((t + 1 : Nat) : Int) = (t : Int) + 1 from rfl] at P2 FA KA
          have P2 := Lib.hid P2
          have FA := Lib.hid FA
          have KA := Lib.hid KA
          clear P1 hka g1 hg hm1 hkid F1 hk1 hox hten hokn hk10 hts
          go_wp2_with fail
          refine (hT1.out _ _ FA.out P2.out).mono ?_
          rintro x z1 ⟨rfl, hz, hkz⟩
          have FZ := Lib.hid hz
          have KZ := Lib.hid (KA.out.trans hkz (fun _ _ h => h))
          clear hz hkz n8 n9 lb1 lp1 lb2 P2 FA KA
          by_cases h2 : n.h.mn ≤ (t : Int)
          · have hnz := HN.out.keep KZ.out
            obtain ⟨b', o', A', cap', hnd', hbp', ten', _⟩ := hnz.kids
            cases hnd'
            have n7 := ten'.c7
            have lz := ten'.lt
            rw [if_pos h2] at g2
            have m5 : decide (n.h.mn ≤ (t : Int)) = true := by simpa using h2
            have hT2 := Lib.hid (fun wx hx hy => TH r q c s2 s' (.pointer po) wx g2 S2.out (HRT.out.mono (Nat.le_refl _) L2.out) HQ.out HC.out hx hy)
            have FZ1 := FZ.out
            clear g2 h2 ten'
            go_wp2_with fail
            refine (hT2.out _ FZ1 (TasksAt.keep KZ.out HR.out)).mono ?_
            rintro x z2 ⟨rfl, hz2, hkz2⟩
            clear n7 lz FZ1
            have FF := Lib.hid hz2
            have KK := Lib.hid (KZ.out.trans hkz2 (fun _ _ h => h))
            clear hz2 hkz2
            go_wp2_with fail
            go_end0
            exact ⟨rfl, FF.out, KK.out⟩
          · have hnz := HN.out.keep KZ.out
            obtain ⟨b', o', A', cap', hnd', hbp', ten', _⟩ := hnz.kids
            cases hnd'
            have n7 := ten'.c7
            have lz := ten'.lt
            rw [if_neg h2] at g2
            cases g2
            have m5 : decide (n.h.mn ≤ (t : Int)) = false := by simpa using h2
            clear h2 ten'
            go_wp2_with fail
            go_end0
            exact ⟨rfl, FZ.out, KZ.out⟩
      · rw [if_neg hg] at g1
        have hg1 := Option.some.inj g1
        have m1 : decide (n.h.mx < 0) = false := by simp; omega
        have m2 : decide ((t : Int) < n.h.mx) = false := by simp; omega
        have FZ := Lib.hid (show FAt w1 p T e s2 c from hg1 ▸ F1)
        have KZ := Lib.hid hk1
        clear g1 hg hg1 hkid F1 hk1 hox hokn hk10 hts hten
        by_cases h2 : n.h.mn ≤ (t : Int)
        · have hnz := HN.out.keep KZ.out
          obtain ⟨b', o', A', cap', hnd', hbp', ten', _⟩ := hnz.kids
          cases hnd'
          have n7 := ten'.c7
          have lz := ten'.lt
          rw [if_pos h2] at g2
          have m5 : decide (n.h.mn ≤ (t : Int)) = true := by simpa using h2
          have hT2 := Lib.hid (fun wx hx hy => TH r q c s2 s' (.pointer po) wx g2 S2.out (HRT.out.mono (Nat.le_refl _) L2.out) HQ.out HC.out hx hy)
          have FZ1 := FZ.out
          clear g2 h2 ten'
          go_wp2_with fail
          refine (hT2.out _ FZ1 (TasksAt.keep KZ.out HR.out)).mono ?_
          rintro x z2 ⟨rfl, hz2, hkz2⟩
          clear n7 lz FZ1
          have FF := Lib.hid hz2
          have KK := Lib.hid (KZ.out.trans hkz2 (fun _ _ h => h))
          clear hz2 hkz2
          go_wp2_with fail
          go_end0
          exact ⟨rfl, FF.out, KK.out⟩
        · have hnz := HN.out.keep KZ.out
          obtain ⟨b', o', A', cap', hnd', hbp', ten', _⟩ := hnz.kids
          cases hnd'
          have n7 := ten'.c7
          have lz := ten'.lt
          rw [if_neg h2] at g2
          cases g2
          have m5 : decide (n.h.mn ≤ (t : Int)) = false := by simpa using h2
          clear h2 ten'
          go_wp2_with fail
          go_end0
          exact ⟨rfl, FZ.out, KZ.out⟩

end Go.Proofs.Ytkidjbfapldmbaa
