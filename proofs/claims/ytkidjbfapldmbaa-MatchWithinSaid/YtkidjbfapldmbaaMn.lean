/- A node is gone through: node of the program's finder. -/
import Derived.Test.YtkidjbfapldmbaaMa
namespace Go.Proofs.Ytkidjbfapldmbaa
set_option linter.unusedVariables false
set_option linter.unusedSimpArgs false
open Go.RowKit P8
set_option linter.unusedSectionVars false


set_option maxRecDepth 100000 in
set_option maxHeartbeats 4000000 in
theorem node_6 (p : Nat) (T : ByteArray) (e : Env) (k : Nat) (hT : T.toList = e.L) (h6 : T.size ≤ 600) (TH : ThrSaid p T e k) (n : Nd) (r : List Tk) (q : Nat) (c : Caps) (s s' : St) (nd nx : Value) (w : World)
    (h : thr (k + 1) e (.node n :: r) q c s = some s') (ho : s.over = false) (hs : StOk e s) (hok : TksOk q s.tries (.node n :: r)) (hq : q ≤ T.size) (hc : CapsOk T.size c) (hb : FAt w p T e s c)
    (hn : NodeAt (Off p) w n nd) (hr : TasksAt (Off p) w r nx) (hk : n.h.k = 6) :
    Calls Try.prog 87 #[.pointer (some ⟨p, 0, none⟩), nd, nx, .int .i64 (q : Int)] w fun x w' => x = .returned (.tuple #[]) ∧ FAt w' p T e s' c ∧ Keep (Ob p) w w' := by
  obtain ⟨po, rfl⟩ := hr.ptr
  have ho' : ¬ s.over = true := by rw [ho]; simp
  obtain ⟨x0, hx0, hox⟩ := kid_of hok.head (.inl hk)
  rw [thr_6 _ _ _ _ _ _ x0 ho' hk hx0] at h
  have hT1 := Lib.hid (fun wx tv hx hy => TH _ q c s s' tv wx h hs (TksOk.cons (show TkOk q s.tries (.node x0) from hox) (TksOk.cons (show TkOk q s.tries (.grp n q) from ⟨hok.head, hk, Nat.le_refl _⟩) hok.tail)) hq hc hx hy)
  obtain ⟨b, o, A, cap, rfl, hbp, hten, hkids⟩ := hn.kids
  obtain ⟨b2, o2, hA, hkid0⟩ := hkids 0 (by rw [hx0]; exact Nat.zero_lt_one)
  subst hA
  have hkid : NodeAt (Off p) w x0 (.pointer (some ⟨b2, o2, none⟩)) := by simpa [hx0] using hkid0
  rw [show n.l.length = 1 by rw [hx0]; rfl] at hten
  have n0 := hten.c0
  have n9 := hten.c9
  rw [hk] at n0
  have lb := hten.lt
  have lp := hb.lt
  have lb2 : b2 < w.heap.size := by obtain ⟨_, _, _, hbb, _, hlt2, _⟩ := id hkid; cases hbb; exact hlt2.lt
  have P1 := TasksAt.push (p := p) (t := .grp n q) hb.lt hn hr
  have hka : Keep (Ob p) w (w.alloc (.cells (tRow (.grp n q) (.pointer (some ⟨b, o, none⟩)) (.pointer po)) 108)) := Keep.alloc (Keep.refl _ _) _
  have P2 := TasksAt.push (p := p) (t := .node x0) (by simp; omega) (hkid.keep hka) P1
  rw [World.size_alloc] at P2
  have FA : FAt ((w.alloc (.cells (tRow (.grp n q) (.pointer (some ⟨b, o, none⟩)) (.pointer po)) 108)).alloc (.cells (tRow (.node x0) (.pointer (some ⟨b2, o2, none⟩)) (.pointer (some ⟨w.heap.size, 0, none⟩))) 108)) p T e s c := (hb.alloc _).alloc _
  have KA : Keep (Ob p) w ((w.alloc (.cells (tRow (.grp n q) (.pointer (some ⟨b, o, none⟩)) (.pointer po)) 108)).alloc (.cells (tRow (.node x0) (.pointer (some ⟨b2, o2, none⟩)) (.pointer (some ⟨w.heap.size, 0, none⟩))) 108)) := Keep.alloc (Keep.alloc (Keep.refl _ _) _) _
  simp only [tRow] at P2 FA KA
  have P2 := Lib.hid P2
  have FA := Lib.hid FA
  have KA := Lib.hid KA
  clear P1 hka hkid hkid0 hkids hten h hs hok hq hc hb hn hr ho ho' hk hx0 hox
  go_enter Try.func87, Try.ntmps87
  go_wp2_with fail
  refine (hT1.out _ _ FA.out P2.out).mono ?_
  rintro x z1 ⟨rfl, hz, hkz⟩
  have FZ := Lib.hid hz
  have KZ := Lib.hid (KA.out.trans hkz (fun _ _ h => h))
  clear hz hkz n0 n9 lb lp lb2
  go_wp2_with fail
  go_end0
  exact ⟨rfl, FZ.out, KZ.out⟩

set_option maxRecDepth 100000 in
set_option maxHeartbeats 4000000 in
theorem node_9 (p : Nat) (T : ByteArray) (e : Env) (k : Nat) (hT : T.toList = e.L) (h6 : T.size ≤ 600) (TH : ThrSaid p T e k) (n : Nd) (r : List Tk) (q : Nat) (c : Caps) (s s' : St) (nd nx : Value) (w : World)
    (h : thr (k + 1) e (.node n :: r) q c s = some s') (ho : s.over = false) (hs : StOk e s) (hok : TksOk q s.tries (.node n :: r)) (hq : q ≤ T.size) (hc : CapsOk T.size c) (hb : FAt w p T e s c)
    (hn : NodeAt (Off p) w n nd) (hr : TasksAt (Off p) w r nx) (hk : n.h.k = 9) :
    Calls Try.prog 87 #[.pointer (some ⟨p, 0, none⟩), nd, nx, .int .i64 (q : Int)] w fun x w' => x = .returned (.tuple #[]) ∧ FAt w' p T e s' c ∧ Keep (Ob p) w w' := by
  obtain ⟨po, rfl⟩ := hr.ptr
  have ho' : ¬ s.over = true := by rw [ho]; simp
  rw [thr_9 _ _ _ _ _ _ ho' hk] at h
  obtain ⟨kk, rfl⟩ : ∃ i, k = i + 1 := by
    cases k with
    | zero => rw [alts.eq_def] at h; cases h
    | succ i => exact ⟨i, rfl⟩
  have hE := Lib.hid (either_any p T e kk hT (TH.down (Nat.le_succ _)) n r q c s s' nd (.pointer po) w h hs hok.head hn.len hok.tail hq hc hb hn hr)
  obtain ⟨b, o, A, cap, rfl, hbp, hten, _⟩ := hn.kids
  have n0 := hten.c0
  rw [hk] at n0
  have lb := hten.lt
  clear h hs hok hq hc hb hn hr ho ho' hk hten TH
  go_enter Try.func87, Try.ntmps87
  go_wp2_with fail
  refine hE.out.mono ?_
  rintro x z1 ⟨rfl, hz, hkz⟩
  have FZ := Lib.hid hz
  have KZ := Lib.hid hkz
  clear hz hkz n0 lb
  go_wp2_with fail
  go_end0
  exact ⟨rfl, FZ.out, KZ.out⟩

set_option maxRecDepth 100000 in
set_option maxHeartbeats 4000000 in
theorem node_10 (p : Nat) (T : ByteArray) (e : Env) (k : Nat) (hT : T.toList = e.L) (h6 : T.size ≤ 600) (TH : ThrSaid p T e k) (n : Nd) (r : List Tk) (q : Nat) (c : Caps) (s s' : St) (nd nx : Value) (w : World)
    (h : thr (k + 1) e (.node n :: r) q c s = some s') (ho : s.over = false) (hs : StOk e s) (hok : TksOk q s.tries (.node n :: r)) (hq : q ≤ T.size) (hc : CapsOk T.size c) (hb : FAt w p T e s c)
    (hn : NodeAt (Off p) w n nd) (hr : TasksAt (Off p) w r nx) (hk : n.h.k = 10) :
    Calls Try.prog 87 #[.pointer (some ⟨p, 0, none⟩), nd, nx, .int .i64 (q : Int)] w fun x w' => x = .returned (.tuple #[]) ∧ FAt w' p T e s' c ∧ Keep (Ob p) w w' := by
  obtain ⟨po, rfl⟩ := hr.ptr
  have ho' : ¬ s.over = true := by rw [ho]; simp
  rw [thr_10 _ _ _ _ _ _ ho' hk] at h
  obtain ⟨kk, rfl⟩ : ∃ i, k = i + 1 := by
    cases k with
    | zero => rw [rep.eq_def] at h; cases h
    | succ i => exact ⟨i, rfl⟩
  have hE := Lib.hid (repeat_any p T e kk hT (TH.down (Nat.le_succ _)) n 0 r q c s s' nd (.pointer po) w h hs hok.head hk (Nat.zero_le _) hok.tail hq hc hb hn hr)
  obtain ⟨b, o, A, cap, rfl, hbp, hten, _⟩ := hn.kids
  have n0 := hten.c0
  rw [hk] at n0
  have lb := hten.lt
  clear h hs hok hq hc hb hn hr ho ho' hk hten TH
  go_enter Try.func87, Try.ntmps87
  go_wp2_with fail
  refine hE.out.mono ?_
  rintro x z1 ⟨rfl, hz, hkz⟩
  have FZ := Lib.hid hz
  have KZ := Lib.hid hkz
  clear hz hkz n0 lb
  go_wp2_with fail
  go_end0
  exact ⟨rfl, FZ.out, KZ.out⟩

set_option maxRecDepth 100000 in
set_option maxHeartbeats 4000000 in
theorem node_leaf (p : Nat) (T : ByteArray) (e : Env) (k : Nat) (hT : T.toList = e.L) (h6 : T.size ≤ 600) (TH : ThrSaid p T e k) (n : Nd) (r : List Tk) (q : Nat) (c : Caps) (s s' : St) (nd nx : Value) (w : World)
    (h : thr (k + 1) e (.node n :: r) q c s = some s') (ho : s.over = false) (hs : StOk e s) (hok : TksOk q s.tries (.node n :: r)) (hq : q ≤ T.size) (hc : CapsOk T.size c) (hb : FAt w p T e s c)
    (hn : NodeAt (Off p) w n nd) (hr : TasksAt (Off p) w r nx) (hk : leafK n.h.k) :
    Calls Try.prog 87 #[.pointer (some ⟨p, 0, none⟩), nd, nx, .int .i64 (q : Int)] w fun x w' => x = .returned (.tuple #[]) ∧ FAt w' p T e s' c ∧ Keep (Ob p) w w' := by
  obtain ⟨po, rfl⟩ := hr.ptr
  have ho' : ¬ s.over = true := by rw [ho]; simp
  rw [thr_leaf _ _ _ _ _ _ ho' hk] at h
  have HY := Lib.hid (try_any p T e s c w ho hs.tries hb)
  obtain ⟨b, o, S, rfl, hbp, hten, hlies⟩ := hn
  have n0 := hten.c0
  have z8 := bne_int hk.1
  have z9 := bne_int hk.2.1
  have z6 := bne_int hk.2.2.1
  have z10 := bne_int hk.2.2.2
  have lb := hten.lt
  have lp := hb.lt
  have hsz : T.size = e.L.length := by rw [← hT, toList_len]
  unfold leafF at h
  rcases tryS_cases s with ⟨_, e1⟩ | ⟨hne, e1⟩
  · rw [e1] at h HY
    cases h
    clear hs hok hq hc hb hr ho ho' hk hten TH e1 hlies
    go_enter Try.func87, Try.ntmps87
    go_wp2_with fail
    refine HY.out.mono ?_
    rintro x w1 ⟨rfl, hf1, hk1⟩
    have F1 := Lib.hid hf1
    have K1 := Lib.hid hk1
    clear hf1 hk1
    go_wp2_with fail
    exact bodyPost_ret (results_none Try.results87 _ _ _) rfl ⟨rfl, F1.out, K1.out⟩
  · rw [e1] at h HY
    simp only [] at h
    have HF := Lib.hid (fun wx (hx : FAt wx p T e { s with tries := s.tries + 1 } c) (hy : Ten wx b o n S) => fits_any p T e _ c n S b o q wx hT h6 hq hc hx hy (okT_head hok.head))
    have HT0 := Lib.hid hten
    have HR := Lib.hid hr
    cases hf : fitsF e n.h q c with
    | none =>
      rw [hf] at h HF
      cases h
      simp only [fitsI] at HF
      clear hs hok hq hc hb hr ho ho' hk hten TH e1 hlies hf
      go_enter Try.func87, Try.ntmps87
      go_wp2_with fail
      refine HY.out.mono ?_
      rintro x w1 ⟨rfl, hf1, hk1⟩
      have F1 := Lib.hid hf1
      have hten1 := Lib.hid (HT0.out.keepX hk1 hbp)
      have K1 := Lib.hid hk1
      clear hf1 hk1 n0 lb lp
      go_wp2_with fail
      refine (HF.out _ F1.out hten1.out).mono ?_
      rintro x w2 ⟨rfl, hk2⟩
      have F2 := Lib.hid (F1.out.keep hk2 id)
      have K2 := Lib.hid (K1.out.trans hk2 (fun _ _ h => h.elim))
      clear hk2
      go_wp2_with fail
      go_end0
      exact ⟨rfl, F2.out, K2.out⟩
    | some j =>
      rw [hf] at h HF
      simp only [fitsI] at h HF
      have hle := fitsF_le hf (by omega) (by rw [← hsz]; exact hc)
      have hT1 := Lib.hid (fun wx tv hx hy => TH r (q + j) c _ s' tv wx h (hs.tries_up hne) (hok.tail.mono (Nat.le_add_right _ _) (by simp only []; omega)) (by omega) hc hx hy)
      have hw : wrap64 ((q : Int) + (j : Int)) = (q : Int) + (j : Int) := by unfold wrap64; omega
      have HW := Lib.hid hw
      have i0 : (0 : Int) ≤ (j : Int) := by omega
      have i1 : decide ((0 : Int) ≤ (j : Int)) = true := by simp
      rw [show ((q + j : Nat) : Int) = (q : Int) + (j : Int) from rfl] at hT1
      clear h hs hok hq hc hb hr ho ho' hk hten TH e1 hlies hf hle hw hsz hT
      go_enter Try.func87, Try.ntmps87
      go_wp2_with fail
      refine HY.out.mono ?_
      rintro x w1 ⟨rfl, hf1, hk1⟩
      have F1 := Lib.hid hf1
      have hten1 := Lib.hid (HT0.out.keepX hk1 hbp)
      have K1 := Lib.hid hk1
      clear hf1 hk1 n0 lb lp
      go_wp2_with fail
      refine (HF.out _ F1.out hten1.out).mono ?_
      rintro x w2 ⟨rfl, hk2⟩
      have F2 := Lib.hid (F1.out.keep hk2 id)
      have K2 := Lib.hid (K1.out.trans hk2 (fun _ _ h => h.elim))
      clear hk2
      have hw := HW.out
      go_wp2_with fail
      refine (hT1.out _ _ F2.out (TasksAt.keep K2.out HR.out)).mono ?_
      rintro x z1 ⟨rfl, hz, hkz⟩
      have FZ := Lib.hid hz
      have KZ := Lib.hid (K2.out.trans hkz (fun _ _ h => h))
      clear hz hkz
      go_wp2_with fail
      go_end0
      exact ⟨rfl, FZ.out, KZ.out⟩

set_option maxRecDepth 100000 in
set_option maxHeartbeats 4000000 in
theorem node_8 (p : Nat) (T : ByteArray) (e : Env) (k : Nat) (hT : T.toList = e.L) (h6 : T.size ≤ 600) (TH : ThrSaid p T e k) (n : Nd) (r : List Tk) (q : Nat) (c : Caps) (s s' : St) (nd nx : Value) (w : World)
    (h : thr (k + 1) e (.node n :: r) q c s = some s') (ho : s.over = false) (hs : StOk e s) (hok : TksOk q s.tries (.node n :: r)) (hq : q ≤ T.size) (hc : CapsOk T.size c) (hb : FAt w p T e s c)
    (hn : NodeAt (Off p) w n nd) (hr : TasksAt (Off p) w r nx) (hk : n.h.k = 8) :
    Calls Try.prog 87 #[.pointer (some ⟨p, 0, none⟩), nd, nx, .int .i64 (q : Int)] w fun x w' => x = .returned (.tuple #[]) ∧ FAt w' p T e s' c ∧ Keep (Ob p) w w' := by
  obtain ⟨po, rfl⟩ := hr.ptr
  have ho' : ¬ s.over = true := by rw [ho]; simp
  rw [thr_8 _ _ _ _ _ _ ho' hk] at h
  have hT1 := Lib.hid (fun wx tv hx hy => TH _ q c s s' tv wx h hs (hok.tail.nodes (okT_kids hok.head)) hq hc hx hy)
  have HLN := Lib.hid hn.len
  have HN := Lib.hid hn
  have HR := Lib.hid hr
  obtain ⟨b, o, A, cap, rfl, hbp, hten, _⟩ := hn.kids
  have n0 := hten.c0
  have n9 := hten.c9
  rw [hk] at n0
  have lb := hten.lt
  have HB := Lib.hid hb
  obtain ⟨L, hL⟩ : ∃ L, L = n.l.length := ⟨_, rfl⟩
  rw [← hL] at n9
  have HLL := Lib.hid hL
  have hw0 : wrap64 ((L : Int) - 1) = (L : Int) - 1 := by have := HLN.out; unfold wrap64; omega
  clear h hs hok hq hc hb hn hr ho ho' hk hten TH hL
  go_enter Try.func87, Try.ntmps87
  go_wp2_with fail
  have HW0 := Lib.hid hw0
  clear n0 n9 lb hw0
  go_loopw [8, 2] (fun i v wr => ∃ (j : Nat) (tv : Value), i = .int .i64 ((j : Int) - 1) ∧ v = tv ∧ Hid (j ≤ L) ∧ Hid (TasksAt (Off p) wr ((n.l.drop j).map .node ++ r) tv) ∧ Hid (Keep Nb w wr)) (fun i _ _ => (intOf i + 1).toNat)
  case atStart => exact ⟨L, _, by first | rfl | rw [HW0.out], rfl, Lib.hid (Nat.le_refl _), Lib.hid (by rw [List.drop_eq_nil_of_le (by rw [HLL.out]; exact Nat.le_refl _)]; exact HR.out), Lib.hid (Keep.refl _ _)⟩
  case round =>
    obtain ⟨j, tv, rfl, rfl, hj, htk, hkk⟩ := hrel
    have hjl := hj.out
    obtain ⟨pv, hpv⟩ := htk.out.ptr
    subst hpv
    by_cases hz0 : j = 0
    · have HZ0 := Lib.hid hz0
      have g1 : decide ((0 : Int) ≤ (j : Int) - 1) = false := by simp; omega
      have g2 : decide ((1 : Int) ≤ (j : Int)) = false := by simp; omega
      have g3 : decide (1 ≤ j) = false := by simp; omega
      have g4 : decide (0 < j) = false := by simp; omega
      have PT := Lib.hid (show TasksAt (Off p) wr (n.l.map .node ++ r) (.pointer pv) from by have := htk.out; rw [HZ0.out] at this; exact this)
      have FT1 := Lib.hid (HB.out.keep hkk.out id)
      clear hz0
      go_wp2_with fail
      refine (hT1.out _ _ FT1.out PT.out).mono ?_
      rintro x z1 ⟨rfl, hz, hkz⟩
      have FZ := Lib.hid hz
      have KZ := Lib.hid ((hkk.out.mono (fun _ _ h => h.elim)).trans hkz (fun _ _ h => h))
      clear hz hkz
      go_wp2_with fail
      go_end0
      exact ⟨rfl, FZ.out, KZ.out⟩
    · obtain ⟨i, rfl⟩ : ∃ i, j = i + 1 := ⟨j - 1, by omega⟩
      have e1 : (((i + 1 : Nat) : Int) - 1) = (i : Int) := by omega
      rw [e1]
      have hil : i < n.l.length := by rw [← HLL.out]; omega
      have g1 : decide ((0 : Int) ≤ (i : Int)) = true := by simp
      have i0 : (0 : Int) ≤ (i : Int) := by omega
      have i2 : (i : Int) < (L : Int) := by omega
      have hw1 : wrap64 ((i : Int) - 1) = (i : Int) - 1 := by have := HLN.out; unfold wrap64; omega
      have HW1 := Lib.hid hw1
      have hn1 := HN.out.keep (p := p) (hkk.out.mono (fun _ _ h => h.elim))
      obtain ⟨b', o', A', cap', hnd', hbp', ten', hkids⟩ := hn1.kids
      cases hnd'
      obtain ⟨b2, o2, hA, hkid⟩ := hkids i hil
      subst hA
      rw [← HLL.out] at ten'
      have n9 := ten'.c9
      have lb := ten'.lt
      have lb2 : b2 < wr.heap.size := by obtain ⟨_, _, _, hbb, _, hlt2, _⟩ := id hkid; cases hbb; exact hlt2.lt
      have hpw : p < wr.heap.size := (HB.out.keep hkk.out id).lt
      have P1 := TasksAt.push (p := p) (t := .node n.l[i]) hpw hkid htk.out
      have hdr : (n.l.drop i).map Tk.node ++ r = .node n.l[i] :: ((n.l.drop (i + 1)).map .node ++ r) := by rw [List.drop_eq_getElem_cons hil]; rfl
      rw [← hdr] at P1
      have KA : Keep Nb w (wr.alloc (.cells (tRow (.node n.l[i]) (.pointer (some ⟨b2, o2 + i * 10, none⟩)) (.pointer pv)) 108)) := Keep.alloc hkk.out _
      simp only [tRow] at P1 KA
      have P1 := Lib.hid P1
      have KA := Lib.hid KA
      have HIL := Lib.hid (show i ≤ L by omega)
      clear hn1 hkids hkid ten' hdr htk hkk e1 hz0 hjl hil hj
      go_wp2_with fail
      go_roundw
      case rel => exact ⟨i, _, by first | rfl | rw [HW1.out], rfl, HIL, P1, KA⟩
      case measure => simp [intOf]; omega

theorem node_any (p : Nat) (T : ByteArray) (e : Env) (k : Nat) (hT : T.toList = e.L) (h6 : T.size ≤ 600) (TH : ThrSaid p T e k) (n : Nd) (r : List Tk) (q : Nat) (c : Caps) (s s' : St) (nd nx : Value) (w : World)
    (h : thr (k + 1) e (.node n :: r) q c s = some s') (ho : s.over = false) (hs : StOk e s) (hok : TksOk q s.tries (.node n :: r)) (hq : q ≤ T.size) (hc : CapsOk T.size c) (hb : FAt w p T e s c)
    (hn : NodeAt (Off p) w n nd) (hr : TasksAt (Off p) w r nx) : Calls Try.prog 87 #[.pointer (some ⟨p, 0, none⟩), nd, nx, .int .i64 (q : Int)] w fun x w' => x = .returned (.tuple #[]) ∧ FAt w' p T e s' c ∧ Keep (Ob p) w w' := by
  rcases kind_cases n.h.k with hk | hk | hk | hk | hk
  · exact node_8 p T e k hT h6 TH n r q c s s' nd nx w h ho hs hok hq hc hb hn hr hk
  · exact node_9 p T e k hT h6 TH n r q c s s' nd nx w h ho hs hok hq hc hb hn hr hk
  · exact node_6 p T e k hT h6 TH n r q c s s' nd nx w h ho hs hok hq hc hb hn hr hk
  · exact node_10 p T e k hT h6 TH n r q c s s' nd nx w h ho hs hok hq hc hb hn hr hk
  · exact node_leaf p T e k hT h6 TH n r q c s s' nd nx w h ho hs hok hq hc hb hn hr hk

end Go.Proofs.Ytkidjbfapldmbaa
