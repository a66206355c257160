/- An Alt's nodes in turn: either of the program's finder. -/
import Derived.Test.YtkidjbfapldmbaaMr
namespace Go.Proofs.Ytkidjbfapldmbaa
set_option linter.unusedVariables false
set_option linter.unusedSimpArgs false
open Go.RowKit P8
set_option linter.unusedSectionVars false

theorem ThrSaid.down {p : Nat} {T : ByteArray} {e : Env} {k j : Nat} (h : ThrSaid p T e k) (hj : j ≤ k) : ThrSaid p T e j :=
  fun ts q c s s' tv w ht => h ts q c s s' tv w (thr_more hj ht)

set_option maxRecDepth 100000 in
set_option maxHeartbeats 4000000 in
theorem either_any (p : Nat) (T : ByteArray) (e : Env) (k : Nat) (hT : T.toList = e.L) (TH : ThrSaid p T e k) (n : Nd) (r : List Tk) (q : Nat) (c : Caps) (s s' : St) (nd nx : Value) (w : World)
    (h : alts (k + 1) e n.l r q c s = some s') (hs : StOk e s) (hokn : okT n) (hlen : n.l.length ≤ 9223372036854775807) (hrt : TksOk q s.tries r) (hq : q ≤ T.size) (hc : CapsOk T.size c) (hb : FAt w p T e s c)
    (hn : NodeAt (Off p) w n nd) (hr : TasksAt (Off p) w r nx) :
    Calls Try.prog 102 #[.pointer (some ⟨p, 0, none⟩), nd, nx, .int .i64 (q : Int)] w fun x w' => x = .returned (.tuple #[]) ∧ FAt w' p T e s' c ∧ Keep (Ob p) w w' := by
  obtain ⟨po, rfl⟩ := hr.ptr
  have hsz : T.size = e.L.length := by rw [← hT, toList_len]
  have HI := Lib.hid (inv_all e)
  have HC := Lib.hid hc
  have HC2 := Lib.hid (show CapsOk e.L.length c by rw [← hsz]; exact hc)
  have HQ := Lib.hid hq
  have HQ2 := Lib.hid (show q ≤ e.L.length by omega)
  have HR := Lib.hid hr
  have HN := Lib.hid hn
  have HRT := Lib.hid hrt
  have HK := Lib.hid (okT_kids hokn)
  have HL := Lib.hid hlen
  have H0 := Lib.hid h
  have HS0 := Lib.hid hs
  have HB0 := Lib.hid hb
  obtain ⟨b, o, A, cap, rfl, hbp, hten, _⟩ := hn.kids
  have n9 := hten.c9
  have lb := hten.lt
  obtain ⟨L, hL⟩ : ∃ L, L = n.l.length := ⟨_, rfl⟩
  rw [← hL] at n9
  have HLL := Lib.hid hL
  have TH := Lib.hid TH
  clear h hs hokn hlen hrt hq hc hb hn hr hten hsz hL hT
  go_enter Try.func102, Try.ntmps102
  go_wp2_with fail
  clear n9 lb
  go_loopw [14] (fun i wr => ∃ (j kj : Nat) (sj : St), i = .int .i64 (j : Int) ∧ Hid (j ≤ L) ∧ Hid (kj ≤ k + 1 ∧ alts kj e (n.l.drop j) r q c sj = some s') ∧ Hid (StOk e sj ∧ s.tries ≤ sj.tries) ∧ Hid (FAt wr p T e sj c) ∧ Hid (Keep (Ob p) w wr)) (fun i _ => L - (intOf i).toNat)
  case atStart => exact ⟨0, k + 1, s, rfl, Lib.hid (Nat.zero_le _), Lib.hid ⟨Nat.le_refl _, H0.out⟩, Lib.hid ⟨HS0.out, Nat.le_refl _⟩, HB0, Lib.hid (Keep.refl _ _)⟩
  case round =>
    obtain ⟨j, kj, sj, rfl, hj, ha, hS, hF, hK⟩ := hrel
    have HJ := hj.out
    by_cases hlt : j < L
    · have g1 : decide ((j : Int) < (L : Int)) = true := by simp; omega
      have g2 : decide (j < L) = true := by simp; omega
      have hjl : j < n.l.length := by rw [← HLL.out]; exact hlt
      obtain ⟨kk, rfl⟩ : ∃ i, kj = i + 1 := by
        cases kj with
        | zero => have := ha.out.2; rw [alts.eq_def] at this; cases this
        | succ i => exact ⟨i, rfl⟩
      have ha2 := ha.out.2
      rw [List.drop_eq_getElem_cons hjl] at ha2
      have c3 := hF.out.cell 3 (u := .bool sj.over) rfl
      have lp := hF.out.lt
      by_cases ho : sj.over = true
      · rw [alts_over _ _ _ _ _ _ _ ho] at ha2
        cases ha2
        rw [ho] at c3
        clear ho ha hjl
        go_wp2_with fail
        exact bodyPost_ret (results_none Try.results102 _ _ _) rfl ⟨rfl, hF.out, hK.out⟩
      · have ho2 : sj.over = false := by simpa using ho
        rw [alts_go _ _ _ _ _ _ _ ho] at ha2
        have HY := Lib.hid (try_any p T e sj c wr ho2 hS.out.1.tries hF.out)
        rw [ho2] at c3
        rcases tryS_cases sj with ⟨_, e1⟩ | ⟨hne, e1⟩
        · rw [e1] at ha2 HY
          cases ha2
          clear ho ho2 e1 ha hjl
          go_wp2_with fail
          refine HY.out.mono ?_
          rintro x w1 ⟨rfl, hf1, hk1⟩
          have F1 := Lib.hid hf1
          have K1 := Lib.hid (hK.out.trans hk1 (fun _ _ h => h))
          clear hf1 hk1
          go_wp2_with fail
          exact bodyPost_ret (results_none Try.results102 _ _ _) rfl ⟨rfl, F1.out, K1.out⟩
        · rw [e1] at ha2 HY
          simp only [] at ha2
          rw [Option.bind_eq_some_iff] at ha2
          obtain ⟨s2, g3, g4⟩ := ha2
          have hokx : okT n.l[j] := okL_mem HK.out _ (List.getElem_mem hjl)
          have hS1 := hS.out.1.tries_up hne
          have hr1 : TksOk q (sj.tries + 1) r := HRT.out.mono (Nat.le_refl _) (by have := hS.out.2; omega)
          have i1 := (HI.out kk).1 _ _ _ _ _ g3 hS1 (TksOk.cons (show TkOk q (sj.tries + 1) (.node n.l[j]) from hokx) hr1) HQ2.out HC2.out
          have hkk : kk ≤ k := by have := ha.out.1; omega
          have hT1 := Lib.hid (fun wx tv hx hy => (TH.out.down hkk) _ q c _ s2 tv wx g3 hS1 (TksOk.cons (show TkOk q (sj.tries + 1) (.node n.l[j]) from hokx) hr1) HQ.out HC.out hx hy)
          have G4 := Lib.hid (show kk ≤ k + 1 ∧ alts kk e (n.l.drop (j + 1)) r q c s2 = some s' from ⟨by omega, g4⟩)
          have I1 := Lib.hid (show StOk e s2 ∧ s.tries ≤ s2.tries from ⟨i1.1, by have := hS.out.2; have := i1.2; simp only [] at this; omega⟩)
          have hjj : IntKind.i64.wrap ((j : Int) + 1) = (j : Int) + 1 := by have := HL.out; have := HLL.out; rw [IntKind.wrap_i64]; omega
          have hjj2 : wrap64 ((j : Int) + 1) = (j : Int) + 1 := by have := HL.out; have := HLL.out; unfold wrap64; omega
          have J1 := Lib.hid hjj
          have J2 := Lib.hid hjj2
          have HJL := Lib.hid hjl
          have HLT := Lib.hid hlt
          clear g3 g4 hokx hr1 i1 e1 ho ho2 ha hjj hjj2
          go_wp2_with fail
          refine HY.out.mono ?_
          rintro x w1 ⟨rfl, F1, hk1⟩
          have hK1 := hK.out.trans hk1 (fun _ _ h => h)
          have hn1 := HN.out.keep hK1
          obtain ⟨b', o', A', cap', hnd', hbp', ten', hkids⟩ := hn1.kids
          cases hnd'
          obtain ⟨b2, o2, hA, hkid⟩ := hkids j HJL.out
          subst hA
          rw [← HLL.out] at ten'
          have n9 := ten'.c9
          have lb := ten'.lt
          have lp1 := F1.lt
          have lb2 : b2 < w1.heap.size := by obtain ⟨_, _, _, hbb, _, hlt2, _⟩ := id hkid; cases hbb; exact hlt2.lt
          have i0 : (0 : Int) ≤ (j : Int) := by omega
          have i2 : (j : Int) < (L : Int) := by omega
          have P1 := TasksAt.push (p := p) (t := .node n.l[j]) F1.lt hkid (TasksAt.keep hK1 HR.out)
          have FA : FAt (w1.alloc (.cells (tRow (.node n.l[j]) (.pointer (some ⟨b2, o2 + j * 10, none⟩)) (.pointer po)) 108)) p T e { sj with tries := sj.tries + 1 } c := F1.alloc _
          have KA : Keep (Ob p) w (w1.alloc (.cells (tRow (.node n.l[j]) (.pointer (some ⟨b2, o2 + j * 10, none⟩)) (.pointer po)) 108)) := Keep.alloc hK1 _
          simp only [tRow] at P1 FA KA
          have P1 := Lib.hid P1
          have FA := Lib.hid FA
          have KA := Lib.hid KA
          clear hn1 hkids hkid ten' F1 hk1 hK1 hlt HY c3 lp HJ
          go_wp2_with fail
          refine (hT1.out _ _ FA.out P1.out).mono ?_
          rintro x z1 ⟨rfl, hz, hkz⟩
          have FZ := Lib.hid hz
          have KZ := Lib.hid (KA.out.trans hkz (fun _ _ h => h))
          have j1 := J1.out
          have j2 := J2.out
          clear hz hkz n9 lb lp1 lb2 P1 FA KA i0 i2
          go_wp2_with fail
          go_roundw
          case rel => exact ⟨j + 1, kk, s2, by go_num, Lib.hid HLT.out, G4, I1, FZ, KZ⟩
          case measure => simp [intOf]; have := HLT.out; omega
    · have g1 : decide ((j : Int) < (L : Int)) = false := by simp; omega
      have g2 : decide (j < L) = false := by simp; omega
      have hend : sj = s' := by
        have h1 := ha.out.2
        rw [List.drop_eq_nil_of_le (by rw [← HLL.out]; omega)] at h1
        cases kj with
        | zero => rw [alts.eq_def] at h1; cases h1
        | succ i => rw [alts_nil] at h1; exact Option.some.inj h1
      subst hend
      clear ha
      go_wp2_with fail
      go_end0
      exact ⟨rfl, hF.out, hK.out⟩

end Go.Proofs.Ytkidjbfapldmbaa
