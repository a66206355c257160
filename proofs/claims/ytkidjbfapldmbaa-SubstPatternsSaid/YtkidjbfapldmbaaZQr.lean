import Derived.Test.YtkidjbfapldmbaaZQi
import Derived.Deep.DeepCutAuto
set_option linter.unusedVariables false
set_option linter.unusedSimpArgs false
set_option linter.unusedSectionVars false
namespace Go.Proofs.Ytkidjbfapldmbaa
open Go.RowKit P8
theorem wrap_small {x : Int} (h : -9223372036854775808 ≤ x ∧ x ≤ 9223372036854775807) : IntKind.i64.wrap x = x := by rw [IntKind.wrap_i64]; omega
theorem wrap64_small {x : Int} (h : -9223372036854775808 ≤ x ∧ x ≤ 9223372036854775807) : wrap64 x = x := by unfold wrap64; omega
theorem up_small {t : Nat} (h : t ≤ 3000) : wrap64 ((t : Int) + 1) = (t : Int) + 1 ∧ IntKind.i64.wrap ((t : Int) + 1) = (t : Int) + 1 := ⟨wrap64_small (by omega), wrap_small (by omega)⟩
def QThrSaid (p : Nat) (T : ByteArray) (e : Env) (k : Nat) : Prop := ∀ (ts : List Tk) (q : Nat) (c : Caps) (s s' : St) (tv : Value) (w : World), thr k e ts q c s = some s' → StOk e s → TksOk q s.tries ts → q ≤ T.size → CapsOk T.size c → QAt w p T e s → TodoAt (Off p) w ts tv →
 Calls Try.prog 67 #[.pointer (some ⟨p, 0, none⟩), tv, .int .i64 (e.start : Int), .int .i64 (q : Int), .agg (cRow c)] w fun x w' => x = .returned (.tuple #[]) ∧ QAt w' p T e s' ∧ Keep (Ob p) w w'
theorem QThrSaid.down {p : Nat} {T : ByteArray} {e : Env} {k j : Nat} (h : QThrSaid p T e k) (hj : j ≤ k) : QThrSaid p T e j :=
 fun ts q c s s' tv w ht => h ts q c s s' tv w (thr_more hj ht)
set_option maxRecDepth 100000 in
set_option maxHeartbeats 4000000 in
theorem qrepeat_any (p : Nat) (T : ByteArray) (e : Env) (k : Nat) (hT : T.toList = e.L) (TH : QThrSaid p T e k) (n : Nd) (S : Value) (t : Nat) (r : List Tk) (q : Nat) (c : Caps) (s s' : St) (nx : Value) (w : World)
  (h : rep (k + 1) e n t r q c s = some s') (hs : StOk e s) (hokn : okT n) (hk10 : n.h.k = 10) (hts : t ≤ s.tries) (hrt : TksOk q s.tries r) (hq : q ≤ T.size) (hc : CapsOk T.size c) (hb : QAt w p T e s)
  (hn : LiesP (Off p) w n S) (hr : TodoAt (Off p) w r nx) :
  Calls Try.prog 88 #[.pointer (some ⟨p, 0, none⟩), .agg (Nd.row n S), .int .i64 (t : Int), nx, .int .i64 (e.start : Int), .int .i64 (q : Int), .agg (cRow c)] w fun x w' => x = .returned (.tuple #[]) ∧ QAt w' p T e s' ∧ Keep (Ob p) w w' := by
 obtain ⟨po, rfl⟩ := hr.ptr
 obtain ⟨x9, hx9, hox⟩ := kid_of hokn (.inr hk10)
 have hn' := hn
 obtain ⟨A, cap, rfl, _, hkids⟩ := hn.kids
 obtain ⟨b2, o2, A2, c2, rfl, hb2p, hten0, hl20⟩ := hkids 0 (by rw [hx9]; exact Nat.zero_lt_one)
 have hten : Ten w b2 o2 x9 (.slice A2 x9.l.length c2) := by simpa [hx9] using hten0
 have hl2 : LiesP (Off p) w x9 (.slice A2 x9.l.length c2) := by simpa [hx9] using hl20
 rw [show n.l.length = 1 by rw [hx9]; rfl] at hn' ⊢
 clear hten0 hl20 hkids hn
 have HK10 := Lib.hid hk10
 have lp := hb.lt
 have HNP := Lib.hid (show ¬ Ob p w.heap.size by unfold Ob; omega)
 have HCP := Lib.hid (show ¬ Ob p (w.heap.size + 1) by unfold Ob; omega)
 have HB2 := Lib.hid (show ¬ Ob p b2 from hb2p)
 have hb0 : Blk ((w.alloc (.cells #[.int .i64 n.h.k, .int .u8 n.h.c, .int .u64 n.h.s0, .int .u64 n.h.s1, .int .u64 n.h.s2, .int .u64 n.h.s3, .int .i64 n.h.n, .int .i64 n.h.mn, .int .i64 n.h.mx, .slice (some ⟨b2, o2, none⟩) 1 cap] 27)).alloc (.cells #[.int .i64 (fromI (c 0)), .int .i64 (fromI (c 1)), .int .i64 (fromI (c 2)), .int .i64 (fromI (c 3)), .int .i64 (fromI (c 4)), .int .i64 (fromI (c 5)), .int .i64 (fromI (c 6)), .int .i64 (fromI (c 7)), .int .i64 (fromI (c 8)), .int .i64 (fromI (c 9)), .int .i64 (toI (c 0)), .int .i64 (toI (c 1)), .int .i64 (toI (c 2)), .int .i64 (toI (c 3)), .int .i64 (toI (c 4)), .int .i64 (toI (c 5)), .int .i64 (toI (c 6)), .int .i64 (toI (c 7)), .int .i64 (toI (c 8)), .int .i64 (toI (c 9)), .bool (c 0).isSome, .bool (c 1).isSome, .bool (c 2).isSome, .bool (c 3).isSome, .bool (c 4).isSome, .bool (c 5).isSome, .bool (c 6).isSome, .bool (c 7).isSome, .bool (c 8).isSome, .bool (c 9).isSome] 118)) w.heap.size (Nd.row n (.slice (some ⟨b2, o2, none⟩) 1 cap)) 27 := (Blk.new w _ _).alloc _
 have hb1 : Blk ((w.alloc (.cells #[.int .i64 n.h.k, .int .u8 n.h.c, .int .u64 n.h.s0, .int .u64 n.h.s1, .int .u64 n.h.s2, .int .u64 n.h.s3, .int .i64 n.h.n, .int .i64 n.h.mn, .int .i64 n.h.mx, .slice (some ⟨b2, o2, none⟩) 1 cap] 27)).alloc (.cells #[.int .i64 (fromI (c 0)), .int .i64 (fromI (c 1)), .int .i64 (fromI (c 2)), .int .i64 (fromI (c 3)), .int .i64 (fromI (c 4)), .int .i64 (fromI (c 5)), .int .i64 (fromI (c 6)), .int .i64 (fromI (c 7)), .int .i64 (fromI (c 8)), .int .i64 (fromI (c 9)), .int .i64 (toI (c 0)), .int .i64 (toI (c 1)), .int .i64 (toI (c 2)), .int .i64 (toI (c 3)), .int .i64 (toI (c 4)), .int .i64 (toI (c 5)), .int .i64 (toI (c 6)), .int .i64 (toI (c 7)), .int .i64 (toI (c 8)), .int .i64 (toI (c 9)), .bool (c 0).isSome, .bool (c 1).isSome, .bool (c 2).isSome, .bool (c 3).isSome, .bool (c 4).isSome, .bool (c 5).isSome, .bool (c 6).isSome, .bool (c 7).isSome, .bool (c 8).isSome, .bool (c 9).isSome] 118)) (w.heap.size + 1) (cRow c) 118 := Blk.new' (by simp) _ _
 have hbp : QAt ((w.alloc (.cells #[.int .i64 n.h.k, .int .u8 n.h.c, .int .u64 n.h.s0, .int .u64 n.h.s1, .int .u64 n.h.s2, .int .u64 n.h.s3, .int .i64 n.h.n, .int .i64 n.h.mn, .int .i64 n.h.mx, .slice (some ⟨b2, o2, none⟩) 1 cap] 27)).alloc (.cells #[.int .i64 (fromI (c 0)), .int .i64 (fromI (c 1)), .int .i64 (fromI (c 2)), .int .i64 (fromI (c 3)), .int .i64 (fromI (c 4)), .int .i64 (fromI (c 5)), .int .i64 (fromI (c 6)), .int .i64 (fromI (c 7)), .int .i64 (fromI (c 8)), .int .i64 (fromI (c 9)), .int .i64 (toI (c 0)), .int .i64 (toI (c 1)), .int .i64 (toI (c 2)), .int .i64 (toI (c 3)), .int .i64 (toI (c 4)), .int .i64 (toI (c 5)), .int .i64 (toI (c 6)), .int .i64 (toI (c 7)), .int .i64 (toI (c 8)), .int .i64 (toI (c 9)), .bool (c 0).isSome, .bool (c 1).isSome, .bool (c 2).isSome, .bool (c 3).isSome, .bool (c 4).isSome, .bool (c 5).isSome, .bool (c 6).isSome, .bool (c 7).isSome, .bool (c 8).isSome, .bool (c 9).isSome] 118)) p T e s := (hb.alloc (.cells #[.int .i64 n.h.k, .int .u8 n.h.c, .int .u64 n.h.s0, .int .u64 n.h.s1, .int .u64 n.h.s2, .int .u64 n.h.s3, .int .i64 n.h.n, .int .i64 n.h.mn, .int .i64 n.h.mx, .slice (some ⟨b2, o2, none⟩) 1 cap] 27)).alloc (.cells #[.int .i64 (fromI (c 0)), .int .i64 (fromI (c 1)), .int .i64 (fromI (c 2)), .int .i64 (fromI (c 3)), .int .i64 (fromI (c 4)), .int .i64 (fromI (c 5)), .int .i64 (fromI (c 6)), .int .i64 (fromI (c 7)), .int .i64 (fromI (c 8)), .int .i64 (fromI (c 9)), .int .i64 (toI (c 0)), .int .i64 (toI (c 1)), .int .i64 (toI (c 2)), .int .i64 (toI (c 3)), .int .i64 (toI (c 4)), .int .i64 (toI (c 5)), .int .i64 (toI (c 6)), .int .i64 (toI (c 7)), .int .i64 (toI (c 8)), .int .i64 (toI (c 9)), .bool (c 0).isSome, .bool (c 1).isSome, .bool (c 2).isSome, .bool (c 3).isSome, .bool (c 4).isSome, .bool (c 5).isSome, .bool (c 6).isSome, .bool (c 7).isSome, .bool (c 8).isSome, .bool (c 9).isSome] 118)
 have hk0 : Keep Nb w ((w.alloc (.cells #[.int .i64 n.h.k, .int .u8 n.h.c, .int .u64 n.h.s0, .int .u64 n.h.s1, .int .u64 n.h.s2, .int .u64 n.h.s3, .int .i64 n.h.n, .int .i64 n.h.mn, .int .i64 n.h.mx, .slice (some ⟨b2, o2, none⟩) 1 cap] 27)).alloc (.cells #[.int .i64 (fromI (c 0)), .int .i64 (fromI (c 1)), .int .i64 (fromI (c 2)), .int .i64 (fromI (c 3)), .int .i64 (fromI (c 4)), .int .i64 (fromI (c 5)), .int .i64 (fromI (c 6)), .int .i64 (fromI (c 7)), .int .i64 (fromI (c 8)), .int .i64 (fromI (c 9)), .int .i64 (toI (c 0)), .int .i64 (toI (c 1)), .int .i64 (toI (c 2)), .int .i64 (toI (c 3)), .int .i64 (toI (c 4)), .int .i64 (toI (c 5)), .int .i64 (toI (c 6)), .int .i64 (toI (c 7)), .int .i64 (toI (c 8)), .int .i64 (toI (c 9)), .bool (c 0).isSome, .bool (c 1).isSome, .bool (c 2).isSome, .bool (c 3).isSome, .bool (c 4).isSome, .bool (c 5).isSome, .bool (c 6).isSome, .bool (c 7).isSome, .bool (c 8).isSome, .bool (c 9).isSome] 118)) := Keep.alloc (Keep.alloc (Keep.refl _ _) _) _
 have B0 := Lib.hid hb0
 have B1 := Lib.hid hb1
 have BP := Lib.hid hbp
 have K0 := Lib.hid hk0
 clear hb0 hb1 hbp hk0
 have ho0 := s.over
 have HR := Lib.hid hr
 have HN := Lib.hid hn'
 have HT0 := Lib.hid hten
 have HX := Lib.hid hl2
 clear hr hn' hten hl2 hb2p
 by_cases ho : s.over = true
 ·rw [rep_over _ _ _ _ _ _ _ ho] at h
  cases h
  have HO := Lib.hid ho
  clear hrt hc TH ho hs hb hk10 hx9
  simp only [Nd.row, cRow]
  go_enter Try.func88, Try.ntmps88
  go_upto_region 1 with fail
  generalize ((w.alloc (.cells #[.int .i64 n.h.k, .int .u8 n.h.c, .int .u64 n.h.s0, .int .u64 n.h.s1, .int .u64 n.h.s2, .int .u64 n.h.s3, .int .i64 n.h.n, .int .i64 n.h.mn, .int .i64 n.h.mx, .slice (some ⟨b2, o2, none⟩) 1 cap] 27)).alloc (.cells #[.int .i64 (fromI (c 0)), .int .i64 (fromI (c 1)), .int .i64 (fromI (c 2)), .int .i64 (fromI (c 3)), .int .i64 (fromI (c 4)), .int .i64 (fromI (c 5)), .int .i64 (fromI (c 6)), .int .i64 (fromI (c 7)), .int .i64 (fromI (c 8)), .int .i64 (fromI (c 9)), .int .i64 (toI (c 0)), .int .i64 (toI (c 1)), .int .i64 (toI (c 2)), .int .i64 (toI (c 3)), .int .i64 (toI (c 4)), .int .i64 (toI (c 5)), .int .i64 (toI (c 6)), .int .i64 (toI (c 7)), .int .i64 (toI (c 8)), .int .i64 (toI (c 9)), .bool (c 0).isSome, .bool (c 1).isSome, .bool (c 2).isSome, .bool (c 3).isSome, .bool (c 4).isSome, .bool (c 5).isSome, .bool (c 6).isSome, .bool (c 7).isSome, .bool (c 8).isSome, .bool (c 9).isSome] 118)) = w1 at B0 B1 BP K0 ⊢
  have c26 := BP.out.cell 26 (u := .bool s.over) rfl
  have lp1 := BP.out.lt
  rw [HO.out] at c26
  go_wp2_with fail
  exact bodyPost_ret (results_none Try.results88 _ _ _) rfl ⟨rfl, BP.out, K0.out.mono (fun _ _ h => h.elim)⟩
 ·have ho2 : s.over = false := by simpa using ho
  rw [rep_go _ _ _ _ _ _ _ ho] at h
  have HY := Lib.hid (fun wx hx => qtry_any p T e s wx ho2 hs.tries hx)
  have HO := Lib.hid ho2
  rcases tryS_cases s with ⟨_, e1⟩ | ⟨hne, e1⟩
  ·rw [e1] at h HY
   cases h
   clear hrt hc TH ho hs e1 ho2 hb hk10 hx9
   simp only [Nd.row, cRow]
   go_enter Try.func88, Try.ntmps88
   go_upto_region 1 with fail
   generalize ((w.alloc (.cells #[.int .i64 n.h.k, .int .u8 n.h.c, .int .u64 n.h.s0, .int .u64 n.h.s1, .int .u64 n.h.s2, .int .u64 n.h.s3, .int .i64 n.h.n, .int .i64 n.h.mn, .int .i64 n.h.mx, .slice (some ⟨b2, o2, none⟩) 1 cap] 27)).alloc (.cells #[.int .i64 (fromI (c 0)), .int .i64 (fromI (c 1)), .int .i64 (fromI (c 2)), .int .i64 (fromI (c 3)), .int .i64 (fromI (c 4)), .int .i64 (fromI (c 5)), .int .i64 (fromI (c 6)), .int .i64 (fromI (c 7)), .int .i64 (fromI (c 8)), .int .i64 (fromI (c 9)), .int .i64 (toI (c 0)), .int .i64 (toI (c 1)), .int .i64 (toI (c 2)), .int .i64 (toI (c 3)), .int .i64 (toI (c 4)), .int .i64 (toI (c 5)), .int .i64 (toI (c 6)), .int .i64 (toI (c 7)), .int .i64 (toI (c 8)), .int .i64 (toI (c 9)), .bool (c 0).isSome, .bool (c 1).isSome, .bool (c 2).isSome, .bool (c 3).isSome, .bool (c 4).isSome, .bool (c 5).isSome, .bool (c 6).isSome, .bool (c 7).isSome, .bool (c 8).isSome, .bool (c 9).isSome] 118)) = w1 at B0 B1 BP K0 ⊢
   have c26 := BP.out.cell 26 (u := .bool s.over) rfl
   have lp1 := BP.out.lt
   rw [HO.out] at c26
   go_wp2_with fail
   refine (HY.out _ BP.out).mono ?_
   rintro x w2 ⟨rfl, hf, hk⟩
   have HF := Lib.hid hf
   have HK := Lib.hid ((K0.out.mono (Y := Ob p) (fun _ _ h => h.elim)).trans hk (fun _ _ h => h))
   clear hf hk
   go_wp2_with fail
   exact bodyPost_ret (results_none Try.results88 _ _ _) rfl ⟨rfl, HF.out, HK.out⟩
  ·rw [e1] at h HY
   simp only [] at h
   simp only [repF, hx9] at h
   rw [Option.bind_eq_some_iff] at h
   obtain ⟨s2, g1, g2⟩ := h
   have hS1 := hs.tries_up hne
   have hi := inv_all e k
   have hlen : T.size = e.L.length := by rw [← hT, toList_len]
   have hrt1 : TksOk q (s.tries + 1) r := hrt.mono (Nat.le_refl _) (by omega)
   have i1 : StOk e s2 ∧ s.tries + 1 ≤ s2.tries := by
    split at g1
    ·exact hi.1 _ _ _ _ _ g1 hS1 (TksOk.cons (show TkOk q (s.tries + 1) (.node x9) from hox) (TksOk.cons (show TkOk q (s.tries + 1) (.again n q (t + 1)) from ⟨hokn, hk10, by omega⟩) hrt1)) (by omega) (by rw [← hlen]; exact hc)
    ·cases g1; exact ⟨hS1, Nat.le_refl _⟩
   have S1 := Lib.hid hS1
   have S2 := Lib.hid i1.1
   have L2 := Lib.hid i1.2
   have HRT := Lib.hid hrt1
   have HQ := Lib.hid hq
   have HC := Lib.hid hc
   have ht3 : t ≤ 3000 := Nat.le_trans hts hs.tries
   have hmx := ((okT_head hokn).2.2.2.2.1 hk10).2.2.2.1
   have hw1 : wrap64 ((t : Int) + 1) = (t : Int) + 1 := (up_small ht3).1
   have hw9 : IntKind.i64.wrap ((t : Int) + 1) = (t : Int) + 1 := (up_small ht3).2
   have W1 := Lib.hid hw1
   have W9 := Lib.hid hw9
   clear hrt hrt1 hc hs e1 ho2 ho i1 hi hS1 hq hlen hne hT hb hw1 hw9 ht3 hk10 hx9
   simp only [Nd.row, cRow]
   go_enter Try.func88, Try.ntmps88
   go_upto_region 1 with fail
   generalize ((w.alloc (.cells #[.int .i64 n.h.k, .int .u8 n.h.c, .int .u64 n.h.s0, .int .u64 n.h.s1, .int .u64 n.h.s2, .int .u64 n.h.s3, .int .i64 n.h.n, .int .i64 n.h.mn, .int .i64 n.h.mx, .slice (some ⟨b2, o2, none⟩) 1 cap] 27)).alloc (.cells #[.int .i64 (fromI (c 0)), .int .i64 (fromI (c 1)), .int .i64 (fromI (c 2)), .int .i64 (fromI (c 3)), .int .i64 (fromI (c 4)), .int .i64 (fromI (c 5)), .int .i64 (fromI (c 6)), .int .i64 (fromI (c 7)), .int .i64 (fromI (c 8)), .int .i64 (fromI (c 9)), .int .i64 (toI (c 0)), .int .i64 (toI (c 1)), .int .i64 (toI (c 2)), .int .i64 (toI (c 3)), .int .i64 (toI (c 4)), .int .i64 (toI (c 5)), .int .i64 (toI (c 6)), .int .i64 (toI (c 7)), .int .i64 (toI (c 8)), .int .i64 (toI (c 9)), .bool (c 0).isSome, .bool (c 1).isSome, .bool (c 2).isSome, .bool (c 3).isSome, .bool (c 4).isSome, .bool (c 5).isSome, .bool (c 6).isSome, .bool (c 7).isSome, .bool (c 8).isSome, .bool (c 9).isSome] 118)) = w1 at B0 B1 BP K0 ⊢
   have c26 := BP.out.cell 26 (u := .bool s.over) rfl
   have lp1 := BP.out.lt
   rw [HO.out] at c26
   go_wp2_with fail
   refine (HY.out _ BP.out).mono ?_
   rintro x w2 ⟨rfl, hf, hk⟩
   have F2 := Lib.hid hf
   have K2 := Lib.hid ((K0.out.mono (Y := Ob p) (fun _ _ h => h.elim)).trans hk (fun _ _ h => h))
   have HN2 := Lib.hid (B0.out.keep hk HNP.out)
   have HC2 := Lib.hid (B1.out.keep hk HCP.out)
   clear hf hk c26 lp1 HY B0 B1 BP K0 lp
   have HL2 := Lib.hid (LiesP_keep K2.out (fun _ hb hx => hb hx) HN.out)
   have HX2 := Lib.hid (LiesP_keep K2.out (fun _ hb hx => hb hx) HX.out)
   have HR2 := Lib.hid (TodoAt.keep K2.out HR.out)
   have HLP := Lib.hid F2.out.lt
   have hN2 := HN2.out
   have lo := hN2.lt
   have lc := HC2.out.lt
   (have y0 := Blk.cell hN2 0 (u := .int .i64 n.h.k) rfl; have y1 := Blk.cell hN2 1 (u := .int .u8 n.h.c) rfl; have y2 := Blk.cell hN2 2 (u := .int .u64 n.h.s0) rfl; have y3 := Blk.cell hN2 3 (u := .int .u64 n.h.s1) rfl; have y4 := Blk.cell hN2 4 (u := .int .u64 n.h.s2) rfl; have y5 := Blk.cell hN2 5 (u := .int .u64 n.h.s3) rfl; have y6 := Blk.cell hN2 6 (u := .int .i64 n.h.n) rfl; have y7 := Blk.cell hN2 7 (u := .int .i64 n.h.mn) rfl; have y8 := Blk.cell hN2 8 (u := .int .i64 n.h.mx) rfl; have y9 := Blk.cell hN2 9 (u := (.slice (some ⟨b2, o2, none⟩) 1 cap)) rfl)
   clear hN2
   have ht2 := HT0.out.keepX K2.out HB2.out
   obtain ⟨u0, u1, u2, u3, u4, u5, u6, u7, u8, u9, lu⟩ := ht2
   have hw1 := W1.out
   have hw9 := W9.out
   by_cases hg : n.h.mx < 0 ∨ (t : Int) < n.h.mx
   ·by_cases hm1 : n.h.mx < 0
    ·rw [if_pos hg] at g1
     have m1 : (n.h.mx == -1) = true := beq_int (by omega)
     have hT1 := Lib.hid (fun wx tv hx hy => TH _ q c _ s2 tv wx g1 S1.out (TksOk.cons (show TkOk q (s.tries + 1) (.node x9) from hox) (TksOk.cons (show TkOk q (s.tries + 1) (.again n q (t + 1)) from ⟨hokn, HK10.out, by omega⟩) HRT.out)) HQ.out HC.out hx hy)
     clear g1 hg hm1 hox hokn hts
     go_wp2_with fail
     (refine wp_region_f [] (InX (Ob p) _) (by kernel_rfl) (InX.mk (Keep.drew (Keep.refl _ _))) (fun hI => ?_))
     have xx1 : ¬ Ob p w.heap.size := HNP.out
     have xx2 : ¬ Ob p (w.heap.size + 1) := HCP.out
     have xx3 : ¬ Ob p b2 := HB2.out
     have hK0 : Keep Nb w2 w2.drew := (Keep.refl _ _).drew
     generalize w2.drew = x0 at hK0 hI ⊢
     (refine wpI_from 0 ?_; (iterate 11 ((first | (refine wpI_take (v := ?_) rfl (by kernel_rfl) (fun _ _ _ h => h) hI rfl ?_ ?_; rotate_left; (focus (rintro _ ⟨E, rfl⟩; go_simp; (try with_reducible rfl)))) | refine wpI_skip rfl (by kernel_rfl) (fun _ _ _ h => h) hI rfl ?_); simp only [Act.put, tk, Nat.reduceAdd])); refine wpI_till ?_)
     (refine wpI_from 14 ?_; (iterate 2 ((first | (refine wpI_take (v := ?_) rfl (by kernel_rfl) (fun _ _ _ h => h) hI rfl ?_ ?_; rotate_left; (focus (rintro _ ⟨E, rfl⟩; go_simp; (try with_reducible rfl)))) | refine wpI_skip rfl (by kernel_rfl) (fun _ _ _ h => h) hI rfl ?_); simp only [Act.put, tk, Nat.reduceAdd])); refine wpI_till ?_)
     (refine wpF_take_row 16 rfl (by kernel_rfl) (by kernel_rfl) (by kernel_rfl) (by kernel_rfl) (fun _ _ _ _ h => h) (by assumption) rfl 118 (.tmp 13) rfl (w.heap.size + 1) rfl 118 _ (0, 0) _ (fun _ hS => InX.blk hS HC2.out xx2) Try.underlying118 rfl (by kernel_rfl) ?_; simp only [Act.put, tk])
     (refine wpF_one 11 rfl (by kernel_rfl) rfl (fun K hK => ?_))
     go_simp
     have hkx0 := hK0.mono (Y := Ob p) (fun _ _ h => h.elim)
     refine (fun (H : ∀ x, x = x0.alloc (.cells (todoRow (.again n q (t + 1)) (.slice (some ⟨b2, o2, none⟩) 1 cap) (.pointer po)) 115) → K _ x) => H _ rfl) ?_
     intro x1 hx1
     have P1 := Lib.hid (show TodoAt (Off p) x1 ((.again n q (t + 1)) :: r) (.pointer (some ⟨x0.heap.size, 0, none⟩)) from hx1 ▸ TodoAt.push (p := p) (t := (.again n q (t + 1))) (r := r) (Nat.lt_of_lt_of_le HLP.out hK0.size) (LiesP_keep hkx0 (fun _ hb hx => hb hx) HL2.out) (TodoAt.keep hkx0 HR2.out))
     have K1 := Lib.hid (show Keep Nb x0 x1 from hx1 ▸ Keep.alloc (Keep.refl _ _) _)
     clear hx1
     have HK1 := Lib.hid (hkx0.trans K1.out (fun _ _ h => h.elim))
     clear hkx0
     (refine hK _ _ (fun _ => InX.mk HK1.out) (fun hI => ?_); have hI := hI (by simp); clear hK K; try simp only [Act.put, tk])
     (refine wpF_take2 (v := ?_) 12 rfl (by kernel_rfl) (fun _ _ _ h => h) hI rfl ?_ ?_; rotate_left; (focus (rintro _ ⟨E, rfl⟩; go_simp; (try with_reducible rfl))); simp only [Act.put, tk])
     (refine wpF_one 13 rfl (by kernel_rfl) rfl (fun K hK => ?_))
     go_simp
     refine (fun (H : ∀ x, x = x1.alloc (.cells (todoRow (.node x9) (.slice A2 x9.l.length c2) (.pointer (some ⟨x0.heap.size, 0, none⟩))) 115) → K _ x) => H _ rfl) ?_
     intro x3 hx3
     have P3 := Lib.hid (show TodoAt (Off p) x3 ((.node x9) :: .again n q (t + 1) :: r) (.pointer (some ⟨x1.heap.size, 0, none⟩)) from hx3 ▸ TodoAt.push (p := p) (t := (.node x9)) (r := .again n q (t + 1) :: r) (Nat.lt_of_lt_of_le HLP.out HK1.out.size) (LiesP_keep HK1.out (fun _ hb hx => hb hx) HX2.out) P1.out)
     have K3 := Lib.hid (show Keep Nb x1 x3 from hx3 ▸ Keep.alloc (Keep.refl _ _) _)
     clear hx3
     have HK3 := Lib.hid (HK1.out.trans (K3.out.mono (Y := Ob p) (fun _ _ h => h.elim)) (fun _ _ h => h))
     have F3 := Lib.hid (F2.out.keep (hK0.trans (K1.out.trans K3.out (fun _ _ h => h)) (fun _ _ h => h)) id)
     (refine hK _ _ (fun _ => InX.mk HK3.out) (fun hI => ?_); have hI := hI (by simp); clear hK K; try simp only [Act.put, tk])
     (refine wpF_one 17 rfl (by kernel_rfl) rfl (fun K hK => ?_))
     go_simp
     refine (hT1.out _ _ F3.out P3.out).mono ?_
     rintro y z1 ⟨he, hz, hkz⟩
     subst he
     have FZ := Lib.hid hz
     have KX := Lib.hid (HK3.out.trans hkz (fun _ _ h => h))
     clear hz hkz
     (refine hK _ _ (fun _ => InX.mk KX.out) (fun hI => ?_); have hI := hI (by simp); clear hK K; try simp only [Act.put, tk])
     (refine wpF_done (by kernel_rfl) ?_ _)
     clear y0 y1 y2 y3 y4 y5 y6 y7 y8 y9 u0 u1 u2 u3 u4 u5 u6 u7 u8 u9 lo lc lu P1 P3 K1 K3 HK1 HK3 F3 hK0
     have KZ := Lib.hid (K2.out.trans KX.out (fun _ _ h => h))
     by_cases h2 : n.h.mn ≤ (t : Int)
     ·have HN3 := Lib.hid (HN2.out.keep KX.out HNP.out)
      have HC3 := Lib.hid (HC2.out.keep KX.out HCP.out)
      have n7 := HN3.out.cell 7 (u := .int .i64 n.h.mn) rfl
      have lz := HN3.out.lt
      rw [if_pos h2] at g2
      have m5 : decide (n.h.mn ≤ (t : Int)) = true := by simpa using h2
      have hT2 := Lib.hid (fun wx hx hy => TH r q c s2 s' (.pointer po) wx g2 S2.out (HRT.out.mono (Nat.le_refl _) L2.out) HQ.out HC.out hx hy)
      have HRZ := Lib.hid (TodoAt.keep KZ.out HR.out)
      clear g2 h2
      go_wp2_with (refine (wpList_load_row rfl 118 (.tmp 13) rfl (w.heap.size + 1) rfl 118 (cRow c) (0, 0) _ HC3.out Try.underlying118 rfl (by kernel_rfl) ?_))
      refine (hT2.out _ FZ.out HRZ.out).mono ?_
      rintro x z2 ⟨rfl, hz2, hkz2⟩
      clear n7 lz
      have FF := Lib.hid hz2
      have KK := Lib.hid (KZ.out.trans hkz2 (fun _ _ h => h))
      clear hz2 hkz2
      go_wp2_with fail
      go_end0
      exact ⟨rfl, FF.out, KK.out⟩
     ·have HN3 := Lib.hid (HN2.out.keep KX.out HNP.out)
      have HC3 := Lib.hid (HC2.out.keep KX.out HCP.out)
      have n7 := HN3.out.cell 7 (u := .int .i64 n.h.mn) rfl
      have lz := HN3.out.lt
      rw [if_neg h2] at g2
      cases g2
      have m5 : decide (n.h.mn ≤ (t : Int)) = false := by simpa using h2
      clear h2
      go_wp2_with fail
      go_end0
      exact ⟨rfl, FZ.out, KZ.out⟩
    ·rw [if_pos hg] at g1
     have m1 : (n.h.mx == -1) = false := bne_int (by omega)
     have m2 : decide ((t : Int) < n.h.mx) = true := by simp; omega
     have hT1 := Lib.hid (fun wx tv hx hy => TH _ q c _ s2 tv wx g1 S1.out (TksOk.cons (show TkOk q (s.tries + 1) (.node x9) from hox) (TksOk.cons (show TkOk q (s.tries + 1) (.again n q (t + 1)) from ⟨hokn, HK10.out, by omega⟩) HRT.out)) HQ.out HC.out hx hy)
     clear g1 hg hm1 hox hokn hts
     go_wp2_with fail
     (refine wp_region_f [] (InX (Ob p) _) (by kernel_rfl) (InX.mk (Keep.drew (Keep.refl _ _))) (fun hI => ?_))
     have xx1 : ¬ Ob p w.heap.size := HNP.out
     have xx2 : ¬ Ob p (w.heap.size + 1) := HCP.out
     have xx3 : ¬ Ob p b2 := HB2.out
     have hK0 : Keep Nb w2 w2.drew := (Keep.refl _ _).drew
     generalize w2.drew = x0 at hK0 hI ⊢
     (refine wpI_from 0 ?_; (iterate 11 ((first | (refine wpI_take (v := ?_) rfl (by kernel_rfl) (fun _ _ _ h => h) hI rfl ?_ ?_; rotate_left; (focus (rintro _ ⟨E, rfl⟩; go_simp; (try with_reducible rfl)))) | refine wpI_skip rfl (by kernel_rfl) (fun _ _ _ h => h) hI rfl ?_); simp only [Act.put, tk, Nat.reduceAdd])); refine wpI_till ?_)
     (refine wpI_from 14 ?_; (iterate 2 ((first | (refine wpI_take (v := ?_) rfl (by kernel_rfl) (fun _ _ _ h => h) hI rfl ?_ ?_; rotate_left; (focus (rintro _ ⟨E, rfl⟩; go_simp; (try with_reducible rfl)))) | refine wpI_skip rfl (by kernel_rfl) (fun _ _ _ h => h) hI rfl ?_); simp only [Act.put, tk, Nat.reduceAdd])); refine wpI_till ?_)
     (refine wpF_take_row 16 rfl (by kernel_rfl) (by kernel_rfl) (by kernel_rfl) (by kernel_rfl) (fun _ _ _ _ h => h) (by assumption) rfl 118 (.tmp 13) rfl (w.heap.size + 1) rfl 118 _ (0, 0) _ (fun _ hS => InX.blk hS HC2.out xx2) Try.underlying118 rfl (by kernel_rfl) ?_; simp only [Act.put, tk])
     (refine wpF_one 11 rfl (by kernel_rfl) rfl (fun K hK => ?_))
     go_simp
     have hkx0 := hK0.mono (Y := Ob p) (fun _ _ h => h.elim)
     refine (fun (H : ∀ x, x = x0.alloc (.cells (todoRow (.again n q (t + 1)) (.slice (some ⟨b2, o2, none⟩) 1 cap) (.pointer po)) 115) → K _ x) => H _ rfl) ?_
     intro x1 hx1
     have P1 := Lib.hid (show TodoAt (Off p) x1 ((.again n q (t + 1)) :: r) (.pointer (some ⟨x0.heap.size, 0, none⟩)) from hx1 ▸ TodoAt.push (p := p) (t := (.again n q (t + 1))) (r := r) (Nat.lt_of_lt_of_le HLP.out hK0.size) (LiesP_keep hkx0 (fun _ hb hx => hb hx) HL2.out) (TodoAt.keep hkx0 HR2.out))
     have K1 := Lib.hid (show Keep Nb x0 x1 from hx1 ▸ Keep.alloc (Keep.refl _ _) _)
     clear hx1
     have HK1 := Lib.hid (hkx0.trans K1.out (fun _ _ h => h.elim))
     clear hkx0
     (refine hK _ _ (fun _ => InX.mk HK1.out) (fun hI => ?_); have hI := hI (by simp); clear hK K; try simp only [Act.put, tk])
     (refine wpF_take2 (v := ?_) 12 rfl (by kernel_rfl) (fun _ _ _ h => h) hI rfl ?_ ?_; rotate_left; (focus (rintro _ ⟨E, rfl⟩; go_simp; (try with_reducible rfl))); simp only [Act.put, tk])
     (refine wpF_one 13 rfl (by kernel_rfl) rfl (fun K hK => ?_))
     go_simp
     refine (fun (H : ∀ x, x = x1.alloc (.cells (todoRow (.node x9) (.slice A2 x9.l.length c2) (.pointer (some ⟨x0.heap.size, 0, none⟩))) 115) → K _ x) => H _ rfl) ?_
     intro x3 hx3
     have P3 := Lib.hid (show TodoAt (Off p) x3 ((.node x9) :: .again n q (t + 1) :: r) (.pointer (some ⟨x1.heap.size, 0, none⟩)) from hx3 ▸ TodoAt.push (p := p) (t := (.node x9)) (r := .again n q (t + 1) :: r) (Nat.lt_of_lt_of_le HLP.out HK1.out.size) (LiesP_keep HK1.out (fun _ hb hx => hb hx) HX2.out) P1.out)
     have K3 := Lib.hid (show Keep Nb x1 x3 from hx3 ▸ Keep.alloc (Keep.refl _ _) _)
     clear hx3
     have HK3 := Lib.hid (HK1.out.trans (K3.out.mono (Y := Ob p) (fun _ _ h => h.elim)) (fun _ _ h => h))
     have F3 := Lib.hid (F2.out.keep (hK0.trans (K1.out.trans K3.out (fun _ _ h => h)) (fun _ _ h => h)) id)
     (refine hK _ _ (fun _ => InX.mk HK3.out) (fun hI => ?_); have hI := hI (by simp); clear hK K; try simp only [Act.put, tk])
     (refine wpF_one 17 rfl (by kernel_rfl) rfl (fun K hK => ?_))
     go_simp
     refine (hT1.out _ _ F3.out P3.out).mono ?_
     rintro y z1 ⟨he, hz, hkz⟩
     subst he
     have FZ := Lib.hid hz
     have KX := Lib.hid (HK3.out.trans hkz (fun _ _ h => h))
     clear hz hkz
     (refine hK _ _ (fun _ => InX.mk KX.out) (fun hI => ?_); have hI := hI (by simp); clear hK K; try simp only [Act.put, tk])
     (refine wpF_done (by kernel_rfl) ?_ _)
     clear y0 y1 y2 y3 y4 y5 y6 y7 y8 y9 u0 u1 u2 u3 u4 u5 u6 u7 u8 u9 lo lc lu P1 P3 K1 K3 HK1 HK3 F3 hK0
     have KZ := Lib.hid (K2.out.trans KX.out (fun _ _ h => h))
     by_cases h2 : n.h.mn ≤ (t : Int)
     ·have HN3 := Lib.hid (HN2.out.keep KX.out HNP.out)
      have HC3 := Lib.hid (HC2.out.keep KX.out HCP.out)
      have n7 := HN3.out.cell 7 (u := .int .i64 n.h.mn) rfl
      have lz := HN3.out.lt
      rw [if_pos h2] at g2
      have m5 : decide (n.h.mn ≤ (t : Int)) = true := by simpa using h2
      have hT2 := Lib.hid (fun wx hx hy => TH r q c s2 s' (.pointer po) wx g2 S2.out (HRT.out.mono (Nat.le_refl _) L2.out) HQ.out HC.out hx hy)
      have HRZ := Lib.hid (TodoAt.keep KZ.out HR.out)
      clear g2 h2
      go_wp2_with (refine (wpList_load_row rfl 118 (.tmp 13) rfl (w.heap.size + 1) rfl 118 (cRow c) (0, 0) _ HC3.out Try.underlying118 rfl (by kernel_rfl) ?_))
      refine (hT2.out _ FZ.out HRZ.out).mono ?_
      rintro x z2 ⟨rfl, hz2, hkz2⟩
      clear n7 lz
      have FF := Lib.hid hz2
      have KK := Lib.hid (KZ.out.trans hkz2 (fun _ _ h => h))
      clear hz2 hkz2
      go_wp2_with fail
      go_end0
      exact ⟨rfl, FF.out, KK.out⟩
     ·have HN3 := Lib.hid (HN2.out.keep KX.out HNP.out)
      have HC3 := Lib.hid (HC2.out.keep KX.out HCP.out)
      have n7 := HN3.out.cell 7 (u := .int .i64 n.h.mn) rfl
      have lz := HN3.out.lt
      rw [if_neg h2] at g2
      cases g2
      have m5 : decide (n.h.mn ≤ (t : Int)) = false := by simpa using h2
      clear h2
      go_wp2_with fail
      go_end0
      exact ⟨rfl, FZ.out, KZ.out⟩
   ·rw [if_neg hg] at g1
    have hg1 := Option.some.inj g1
    have m1 : (n.h.mx == -1) = false := bne_int (by omega)
    have m2 : decide ((t : Int) < n.h.mx) = false := by simp; omega
    have FZ := Lib.hid (show QAt w2 p T e s2 from hg1 ▸ F2.out)
    have KZ := K2
    clear g1 hg hg1 hox hokn hts
    by_cases h2 : n.h.mn ≤ (t : Int)
    ·have HN3 := Lib.hid (HN2.out.keep (Keep.refl (Ob p) w2) HNP.out)
     have HC3 := Lib.hid (HC2.out.keep (Keep.refl (Ob p) w2) HCP.out)
     have n7 := HN3.out.cell 7 (u := .int .i64 n.h.mn) rfl
     have lz := HN3.out.lt
     rw [if_pos h2] at g2
     have m5 : decide (n.h.mn ≤ (t : Int)) = true := by simpa using h2
     have hT2 := Lib.hid (fun wx hx hy => TH r q c s2 s' (.pointer po) wx g2 S2.out (HRT.out.mono (Nat.le_refl _) L2.out) HQ.out HC.out hx hy)
     have HRZ := Lib.hid (TodoAt.keep KZ.out HR.out)
     clear g2 h2
     go_wp2_with (refine (wpList_load_row rfl 118 (.tmp 13) rfl (w.heap.size + 1) rfl 118 (cRow c) (0, 0) _ HC3.out Try.underlying118 rfl (by kernel_rfl) ?_))
     refine (hT2.out _ FZ.out HRZ.out).mono ?_
     rintro x z2 ⟨rfl, hz2, hkz2⟩
     clear n7 lz
     have FF := Lib.hid hz2
     have KK := Lib.hid (KZ.out.trans hkz2 (fun _ _ h => h))
     clear hz2 hkz2
     go_wp2_with fail
     go_end0
     exact ⟨rfl, FF.out, KK.out⟩
    ·have HN3 := Lib.hid (HN2.out.keep (Keep.refl (Ob p) w2) HNP.out)
     have HC3 := Lib.hid (HC2.out.keep (Keep.refl (Ob p) w2) HCP.out)
     have n7 := HN3.out.cell 7 (u := .int .i64 n.h.mn) rfl
     have lz := HN3.out.lt
     rw [if_neg h2] at g2
     cases g2
     have m5 : decide (n.h.mn ≤ (t : Int)) = false := by simpa using h2
     clear h2
     go_wp2_with fail
     go_end0
     exact ⟨rfl, FZ.out, KZ.out⟩
end Go.Proofs.Ytkidjbfapldmbaa
