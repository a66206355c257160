import Derived.Test.YtkidjbfapldmbaaZQr
import Derived.Deep.DeepCutAuto
set_option linter.unusedVariables false
set_option linter.unusedSimpArgs false
set_option linter.unusedSectionVars false
namespace Go.Proofs.Ytkidjbfapldmbaa
open Go.RowKit P8
theorem Blk.same {w : World} {b : Nat} {cs cs' : Array Value} {t : TypeId} (h : Blk w b cs t) (e : cs = cs') : Blk w b cs' t := e ▸ h
def xRow (T : ByteArray) (e : Env) (tr : Nat) (ov : Bool) (q : Nat) (m : Caps) : Array Value :=
 #[.string T, .bool e.bound, .int .i64 (tr : Int), .int .i64 (q : Int), .complex .f64 (F e.start) (F q), grpV (m 0), grpV (m 1), grpV (m 2), grpV (m 3), grpV (m 4), grpV (m 5), grpV (m 6), grpV (m 7), grpV (m 8), grpV (m 9), hasV (m 0), hasV (m 1), hasV (m 2), hasV (m 3), hasV (m 4), hasV (m 5), hasV (m 6), hasV (m 7), hasV (m 8), hasV (m 9), .int .i64 0, .bool ov]
def mix (B C : Caps) (j : Nat) : Caps := fun i => if i < j then C i else B i
theorem mix_start (T : ByteArray) (e : Env) (s : St) (q : Nat) (C : Caps) : ((qRow T e s).setIfInBounds 3 (.int .i64 (q : Int))).setIfInBounds 4 (.complex .f64 (F e.start) (F q)) = xRow T e s.tries s.over q (mix (bestC s) C 0) := by
 simp [qRow, xRow, mix]
theorem mix_end (T : ByteArray) (e : Env) (tr : Nat) (ov : Bool) (q : Nat) (B c : Caps) : xRow T e tr ov q (mix B (put c 0 e.start q) 10) = qRow T e ⟨tr, ov, some (q, put c 0 e.start q)⟩ := by
 simp [xRow, qRow, mix, bestC, bestI, put, grpV]
theorem xRow_grp (T : ByteArray) (e : Env) (tr : Nat) (ov : Bool) (q : Nat) (m : Caps) (j : Nat) (h : j < 10) : (xRow T e tr ov q m)[5 + j]? = some (grpV (m j)) := by
 rcases lt10 h with rfl | rfl | rfl | rfl | rfl | rfl | rfl | rfl | rfl | rfl <;> rfl
theorem xRow_has (T : ByteArray) (e : Env) (tr : Nat) (ov : Bool) (q : Nat) (m : Caps) (j : Nat) (h : j < 10) : (xRow T e tr ov q m)[15 + j]? = some (hasV (m j)) := by
 rcases lt10 h with rfl | rfl | rfl | rfl | rfl | rfl | rfl | rfl | rfl | rfl <;> rfl
theorem xRow_h1 (T : ByteArray) (e : Env) (tr : Nat) (ov : Bool) (q : Nat) (m : Caps) (j : Nat) (h : j < 10) (v : Value) : ((xRow T e tr ov q m).setIfInBounds (5 + j) v)[15 + j]? = some (hasV (m j)) := by
 rw [Array.getElem?_setIfInBounds_ne (by omega)]
 exact xRow_has T e tr ov q m j h
theorem xRow_g2 (T : ByteArray) (e : Env) (tr : Nat) (ov : Bool) (q : Nat) (m : Caps) (j : Nat) (h : j < 10) (v u : Value) : (((xRow T e tr ov q m).setIfInBounds (5 + j) v).setIfInBounds (15 + j) u)[5 + j]? = some v := by
 rw [Array.getElem?_setIfInBounds_ne (by omega), Array.getElem?_setIfInBounds_self]
 rw [if_pos (by simp [xRow]; omega)]
theorem mix_none (T : ByteArray) (e : Env) (tr : Nat) (ov : Bool) (q : Nat) (B C : Caps) (j : Nat) (h : j < 10) (hc : C j = none) : ((xRow T e tr ov q (mix B C j)).setIfInBounds (5 + j) (.complex .f64 0 0)).setIfInBounds (15 + j) (.bool (C j).isSome) = xRow T e tr ov q (mix B C (j + 1)) := by
 rcases lt10 h with rfl | rfl | rfl | rfl | rfl | rfl | rfl | rfl | rfl | rfl <;> simp [xRow, mix, hc, grpV, hasV]
theorem mix_some (T : ByteArray) (e : Env) (tr : Nat) (ov : Bool) (q : Nat) (B C : Caps) (j a b : Nat) (h : j < 10) (hc : C j = some (a, b)) : (((xRow T e tr ov q (mix B C j)).setIfInBounds (5 + j) (.complex .f64 0 0)).setIfInBounds (15 + j) (.bool (C j).isSome)).setIfInBounds (5 + j) (.complex .f64 (F a) (F b)) = xRow T e tr ov q (mix B C (j + 1)) := by
 rcases lt10 h with rfl | rfl | rfl | rfl | rfl | rfl | rfl | rfl | rfl | rfl <;> simp [xRow, mix, hc, grpV, hasV]
theorem cRow_put0 (c : Caps) (a b : Nat) : (((cRow c).setIfInBounds 0 (.int .i64 (a : Int))).setIfInBounds 10 (.int .i64 (b : Int))).setIfInBounds 20 (.bool true) = cRow (put c 0 a b) := by
 simp [cRow, put, fromI, toI]
theorem come_up {e : Env} {q : Nat} {c : Caps} {s : St} (h : bestI s < (q : Int)) : comeF e q c s = ⟨s.tries, s.over, some (q, put c 0 e.start q)⟩ := by
 obtain ⟨tr, ov, be⟩ := s
 cases be with
 | none => rfl
 | some x =>
  obtain ⟨r, B⟩ := x
  have h' : (r : Int) < (q : Int) := h
  simp only [comeF]
  rw [if_neg (by omega)]
theorem come_no {e : Env} {q : Nat} {c : Caps} {s : St} (h : ¬ bestI s < (q : Int)) : comeF e q c s = s := by
 obtain ⟨tr, ov, be⟩ := s
 cases be with
 | none => exact absurd (show (-1 : Int) < (q : Int) by omega) h
 | some x =>
  obtain ⟨r, B⟩ := x
  have h' : ¬ (r : Int) < (q : Int) := h
  simp only [comeF]
  rw [if_pos (by omega)]
set_option maxRecDepth 100000 in
set_option maxHeartbeats 4000000 in
theorem qcome_any (p : Nat) (T : ByteArray) (e : Env) (s : St) (c : Caps) (q : Nat) (w : World) (ho : s.over = false) (hb : QAt w p T e s) :
  Calls Try.prog 67 #[.pointer (some ⟨p, 0, none⟩), .pointer none, .int .i64 (e.start : Int), .int .i64 (q : Int), .agg (cRow c)] w fun x w' => x = .returned (.tuple #[]) ∧ QAt w' p T e (comeF e q c s) ∧ Keep (Ob p) w w' := by
 have lp := hb.lt
 have HCP := Lib.hid (show ¬ Ob p w.heap.size by unfold Ob; omega)
 have hb1 : Blk (w.alloc (.cells #[.int .i64 (fromI (c 0)), .int .i64 (fromI (c 1)), .int .i64 (fromI (c 2)), .int .i64 (fromI (c 3)), .int .i64 (fromI (c 4)), .int .i64 (fromI (c 5)), .int .i64 (fromI (c 6)), .int .i64 (fromI (c 7)), .int .i64 (fromI (c 8)), .int .i64 (fromI (c 9)), .int .i64 (toI (c 0)), .int .i64 (toI (c 1)), .int .i64 (toI (c 2)), .int .i64 (toI (c 3)), .int .i64 (toI (c 4)), .int .i64 (toI (c 5)), .int .i64 (toI (c 6)), .int .i64 (toI (c 7)), .int .i64 (toI (c 8)), .int .i64 (toI (c 9)), .bool (c 0).isSome, .bool (c 1).isSome, .bool (c 2).isSome, .bool (c 3).isSome, .bool (c 4).isSome, .bool (c 5).isSome, .bool (c 6).isSome, .bool (c 7).isSome, .bool (c 8).isSome, .bool (c 9).isSome] 118)) w.heap.size (cRow c) 118 := Blk.new w _ _
 have hbp : QAt (w.alloc (.cells #[.int .i64 (fromI (c 0)), .int .i64 (fromI (c 1)), .int .i64 (fromI (c 2)), .int .i64 (fromI (c 3)), .int .i64 (fromI (c 4)), .int .i64 (fromI (c 5)), .int .i64 (fromI (c 6)), .int .i64 (fromI (c 7)), .int .i64 (fromI (c 8)), .int .i64 (fromI (c 9)), .int .i64 (toI (c 0)), .int .i64 (toI (c 1)), .int .i64 (toI (c 2)), .int .i64 (toI (c 3)), .int .i64 (toI (c 4)), .int .i64 (toI (c 5)), .int .i64 (toI (c 6)), .int .i64 (toI (c 7)), .int .i64 (toI (c 8)), .int .i64 (toI (c 9)), .bool (c 0).isSome, .bool (c 1).isSome, .bool (c 2).isSome, .bool (c 3).isSome, .bool (c 4).isSome, .bool (c 5).isSome, .bool (c 6).isSome, .bool (c 7).isSome, .bool (c 8).isSome, .bool (c 9).isSome] 118)) p T e s := hb.alloc _
 have hk0 : Keep Nb w (w.alloc (.cells #[.int .i64 (fromI (c 0)), .int .i64 (fromI (c 1)), .int .i64 (fromI (c 2)), .int .i64 (fromI (c 3)), .int .i64 (fromI (c 4)), .int .i64 (fromI (c 5)), .int .i64 (fromI (c 6)), .int .i64 (fromI (c 7)), .int .i64 (fromI (c 8)), .int .i64 (fromI (c 9)), .int .i64 (toI (c 0)), .int .i64 (toI (c 1)), .int .i64 (toI (c 2)), .int .i64 (toI (c 3)), .int .i64 (toI (c 4)), .int .i64 (toI (c 5)), .int .i64 (toI (c 6)), .int .i64 (toI (c 7)), .int .i64 (toI (c 8)), .int .i64 (toI (c 9)), .bool (c 0).isSome, .bool (c 1).isSome, .bool (c 2).isSome, .bool (c 3).isSome, .bool (c 4).isSome, .bool (c 5).isSome, .bool (c 6).isSome, .bool (c 7).isSome, .bool (c 8).isSome, .bool (c 9).isSome] 118)) := Keep.alloc (Keep.refl _ _) _
 have B1 := Lib.hid hb1
 have BP := Lib.hid hbp
 have K0 := Lib.hid hk0
 have HO := Lib.hid ho
 clear hb1 hbp hk0 hb ho
 by_cases hg : bestI s < (q : Int)
 ·rw [come_up hg]
  have m1 : decide (bestI s < (q : Int)) = true := by simpa using hg
  have f1 := F_of e.start
  have f2 := F_of q
  have hne1 : ¬ p = w.heap.size := by omega
  have hne2 : ¬ w.heap.size = p := by omega
  clear hg
  simp only [cRow]
  go_enter Try.func67, Try.ntmps67
  go_upto_region 1 with fail
  generalize (w.alloc (.cells #[.int .i64 (fromI (c 0)), .int .i64 (fromI (c 1)), .int .i64 (fromI (c 2)), .int .i64 (fromI (c 3)), .int .i64 (fromI (c 4)), .int .i64 (fromI (c 5)), .int .i64 (fromI (c 6)), .int .i64 (fromI (c 7)), .int .i64 (fromI (c 8)), .int .i64 (fromI (c 9)), .int .i64 (toI (c 0)), .int .i64 (toI (c 1)), .int .i64 (toI (c 2)), .int .i64 (toI (c 3)), .int .i64 (toI (c 4)), .int .i64 (toI (c 5)), .int .i64 (toI (c 6)), .int .i64 (toI (c 7)), .int .i64 (toI (c 8)), .int .i64 (toI (c 9)), .bool (c 0).isSome, .bool (c 1).isSome, .bool (c 2).isSome, .bool (c 3).isSome, .bool (c 4).isSome, .bool (c 5).isSome, .bool (c 6).isSome, .bool (c 7).isSome, .bool (c 8).isSome, .bool (c 9).isSome] 118)) = w1 at B1 BP K0 ⊢
  have c26 := BP.out.cell 26 (u := .bool s.over) rfl
  have lp1 := BP.out.lt
  rw [HO.out] at c26
  have c3 := BP.out.cell 3 (u := .int .i64 (bestI s)) rfl
  have e3 := BP.out.frozen 3
  have c4 := BP.out.cell 4 (u := grpV (bestC s 0)) rfl
  have e4 := BP.out.frozen 4
  have n0 := B1.out.cell 0 (u := .int .i64 (fromI (c 0))) rfl
  have n1 := B1.out.cell 10 (u := .int .i64 (toI (c 0))) rfl
  have n2 := B1.out.cell 20 (u := .bool (c 0).isSome) rfl
  have o0 := B1.out.frozen 0
  have o1 := B1.out.frozen 10
  have o2 := B1.out.frozen 20
  have lc := B1.out.lt
  have bz : Blk (((((w1.setCell ⟨p, 3, none⟩ (.int .i64 (q : Int))).setCell ⟨p, 4, none⟩ (.complex .f64 (F e.start) (F q))).setCell ⟨w.heap.size, 0, none⟩ (.int .i64 (e.start : Int))).setCell ⟨w.heap.size, 10, none⟩ (.int .i64 (q : Int))).setCell ⟨w.heap.size, 20, none⟩ (.bool true)) p (xRow T e s.tries s.over q (mix (bestC s) (put c 0 e.start q) 0)) 111 :=
   (((((BP.out.set 3 (.int .i64 (q : Int))).set 4 (.complex .f64 (F e.start) (F q))).setOther (p := ⟨w.heap.size, 0, none⟩) hne2 (.int .i64 (e.start : Int))).setOther (p := ⟨w.heap.size, 10, none⟩) hne2 (.int .i64 (q : Int))).setOther (p := ⟨w.heap.size, 20, none⟩) hne2 (.bool true)).same (mix_start T e s q _)
  have cz : Blk (((((w1.setCell ⟨p, 3, none⟩ (.int .i64 (q : Int))).setCell ⟨p, 4, none⟩ (.complex .f64 (F e.start) (F q))).setCell ⟨w.heap.size, 0, none⟩ (.int .i64 (e.start : Int))).setCell ⟨w.heap.size, 10, none⟩ (.int .i64 (q : Int))).setCell ⟨w.heap.size, 20, none⟩ (.bool true)) w.heap.size (cRow (put c 0 e.start q)) 118 :=
   (((((B1.out.setOther (p := ⟨p, 3, none⟩) hne1 (.int .i64 (q : Int))).setOther (p := ⟨p, 4, none⟩) hne1 (.complex .f64 (F e.start) (F q))).set 0 (.int .i64 (e.start : Int))).set 10 (.int .i64 (q : Int))).set 20 (.bool true)).same (cRow_put0 c e.start q)
  have kz : Keep (Ob p) w (((((w1.setCell ⟨p, 3, none⟩ (.int .i64 (q : Int))).setCell ⟨p, 4, none⟩ (.complex .f64 (F e.start) (F q))).setCell ⟨w.heap.size, 0, none⟩ (.int .i64 (e.start : Int))).setCell ⟨w.heap.size, 10, none⟩ (.int .i64 (q : Int))).setCell ⟨w.heap.size, 20, none⟩ (.bool true)) :=
   Keep.setCell (X := Ob p) (a := w) (p := ⟨w.heap.size, 20, none⟩) (Keep.setCell (X := Ob p) (a := w) (p := ⟨w.heap.size, 10, none⟩) (Keep.setCell (X := Ob p) (a := w) (p := ⟨w.heap.size, 0, none⟩) (Keep.setCell (X := Ob p) (a := w) (p := ⟨p, 4, none⟩) (Keep.setCell (X := Ob p) (a := w) (p := ⟨p, 3, none⟩) (K0.out.mono (fun _ _ h => h.elim)) (Or.inr rfl) (.int .i64 (q : Int))) (Or.inr rfl) (.complex .f64 (F e.start) (F q))) (Or.inl (Nat.le_refl _)) (.int .i64 (e.start : Int))) (Or.inl (Nat.le_refl _)) (.int .i64 (q : Int))) (Or.inl (Nat.le_refl _)) (.bool true)
  have BZ := Lib.hid bz
  have CZ := Lib.hid cz
  have KZ := Lib.hid kz
  clear bz cz kz
  go_wp2_with fail
  generalize (((((w1.setCell ⟨p, 3, none⟩ (.int .i64 (q : Int))).setCell ⟨p, 4, none⟩ (.complex .f64 (F e.start) (F q))).setCell ⟨w.heap.size, 0, none⟩ (.int .i64 (e.start : Int))).setCell ⟨w.heap.size, 10, none⟩ (.int .i64 (q : Int))).setCell ⟨w.heap.size, 20, none⟩ (.bool true)) = wz at BZ CZ KZ ⊢
  clear c3 e3 c4 e4 n0 n1 n2 o0 o1 o2 lc c26 lp1 B1 BP K0 f1 f2 m1 hne1 hne2
  obtain ⟨tr, ov, be⟩ := s
  have hov : ov = false := HO.out
  have HOV := Lib.hid hov
  clear hov HO
  simp only [] at BZ ⊢
  obtain ⟨B, hB0⟩ : ∃ B, B = bestC ⟨tr, ov, be⟩ := ⟨_, rfl⟩
  rw [← hB0] at BZ
  obtain ⟨C, hC0⟩ : ∃ C, C = put c 0 e.start q := ⟨_, rfl⟩
  rw [← hC0] at BZ CZ
  have HC0 := Lib.hid hC0
  clear hB0 hC0
  go_loopw [51] (fun i wr => ∃ j : Nat, i = .int .i64 (j : Int) ∧ Hid (j ≤ 10) ∧ Hid (Blk wr p (xRow T e tr ov q (mix B C j)) 111) ∧ Hid (Blk wr w.heap.size (cRow C) 118) ∧ Hid (Keep (Ob p) w wr)) (fun i _ => 10 - (intOf i).toNat)
  case atStart => exact ⟨0, rfl, Lib.hid (by omega), BZ, CZ, KZ⟩
  case round =>
   obtain ⟨j, rfl, hj, hB, hC, hK⟩ := hrel
   by_cases hlt : j < 10
   ·have g1 : decide ((j : Int) < 10) = true := by simp; omega
    have g2 : decide (j < 10) = true := by simp; omega
    have i0 : (0 : Int) ≤ (j : Int) := by omega
    have i1 : (j : Int) < 10 := by omega
    have HJ := Lib.hid hlt
    have lpr := hB.out.lt
    have lcr := hC.out.lt
    have ch := hC.out.cell (20 + j) (cRow_has C j hlt)
    have hjj : IntKind.i64.wrap ((j : Int) + 1) = (j : Int) + 1 := (up_small (Nat.le_trans (Nat.le_of_lt hlt) (by decide))).2
    have hjj2 : wrap64 ((j : Int) + 1) = (j : Int) + 1 := (up_small (Nat.le_trans (Nat.le_of_lt hlt) (by decide))).1
    have J1 := Lib.hid hjj
    have J2 := Lib.hid hjj2
    clear hlt hjj hjj2
    go_wp2_with fail
    (refine wp_region_f [] (InX (Ob p) _) (by kernel_rfl) (InX.mk (Keep.drew (Keep.refl _ _))) (fun hI => ?_))
    have xx : ¬ Ob p w.heap.size := HCP.out
    have hK0 : Keep (Ob p) wr wr.drew := (Keep.refl _ _).drew
    have bX := Lib.hid (hB.out.drew)
    generalize wr.drew = y0 at hK0 hI bX ⊢
    have bX := bX.out
    have dg := bX.cell (5 + j) (xRow_grp T e tr ov q (mix B C j) j HJ.out)
    have eg := bX.frozen (5 + j)
    have dh := bX.cell (15 + j) (xRow_has T e tr ov q (mix B C j) j HJ.out)
    have eh := bX.frozen (15 + j)
    have lX := bX.lt
    (refine wpI_from 0 ?_; (iterate 12 ((first | (refine wpI_take (v := ?_) rfl (by kernel_rfl) (fun _ _ _ h => h) hI rfl ?_ ?_; rotate_left; (focus (rintro _ ⟨E, rfl⟩; go_simp; (try with_reducible rfl)))) | refine wpI_skip rfl (by kernel_rfl) (fun _ _ _ h => h) hI rfl ?_); simp only [Act.put, tk, Nat.reduceAdd])); refine wpI_till ?_)
    (refine wpI_from 13 ?_; (iterate 3 ((first | (refine wpI_take (v := ?_) rfl (by kernel_rfl) (fun _ _ _ h => h) hI rfl ?_ ?_; rotate_left; (focus (rintro _ ⟨E, rfl⟩; go_simp; (try with_reducible rfl)))) | refine wpI_skip rfl (by kernel_rfl) (fun _ _ _ h => h) hI rfl ?_); simp only [Act.put, tk, Nat.reduceAdd])); refine wpI_till ?_)
    (refine wpF_one 12 rfl (by kernel_rfl) rfl (fun K hK => ?_))
    have bY := Lib.hid (bX.set (5 + j) (.complex .f64 0 0))
    have KbY := Lib.hid (Keep.setCell (p := ⟨p, 5 + j, none⟩) hK0 (Or.inr rfl) (.complex .f64 0 0))
    clear bX
    go_simp
    generalize y0.setCell ⟨p, 5 + j, none⟩ (.complex .f64 0 0) = y1 at bY KbY ⊢
    clear hK0 dg eg dh eh lX
    have bX := bY.out
    have hK0 := KbY.out
    have dh := bX.cell (15 + j) (xRow_h1 T e tr ov q (mix B C j) j HJ.out _)
    have eh := bX.frozen (15 + j)
    have lX := bX.lt
    have dg := True.intro
    have eg := True.intro
    (refine hK _ _ (fun _ => InX.mk hK0) (fun hI => ?_); have hI := hI (by simp); clear hK K; try simp only [Act.put, tk])
    (refine wpF_take2 (v := ?_) 16 rfl (by kernel_rfl) (fun _ _ _ h => h) hI rfl ?_ ?_; rotate_left; (focus (rintro _ ⟨E, rfl⟩; go_simp; (try with_reducible rfl))); simp only [Act.put, tk])
    (refine wpF_one 17 rfl (by kernel_rfl) rfl (fun K hK => ?_))
    have bZ := Lib.hid (bX.set (15 + j) (.bool (C j).isSome))
    have KbZ := Lib.hid (Keep.setCell (p := ⟨p, 15 + j, none⟩) hK0 (Or.inr rfl) (.bool (C j).isSome))
    clear bX
    go_simp
    generalize y1.setCell ⟨p, 15 + j, none⟩ (.bool (C j).isSome) = y2 at bZ KbZ ⊢
    (refine hK _ _ (fun _ => InX.mk KbZ.out) (fun hI => ?_); have hI := hI (by simp); clear hK K; try simp only [Act.put, tk])
    (refine wpF_done (by kernel_rfl) ?_ _)
    clear lpr lcr ch
    have HC2 := Lib.hid (hC.out.keep KbZ.out HCP.out)
    have KK := Lib.hid (hK.out.trans KbZ.out (fun _ _ h => h))
    have ly := bZ.out.lt
    have lcy := HC2.out.lt
    have ch2 := HC2.out.cell (20 + j) (cRow_has C j HJ.out)
    cases hcj : C j with
    | none =>
     have HCJ := Lib.hid hcj
     rw [hcj] at ch2
     simp only [Option.isSome_none] at ch2
     have j1 := J1.out
     have j2 := J2.out
     clear hcj
     go_wp2_with fail
     go_roundw
     case rel => exact ⟨j + 1, by go_num, Lib.hid (by have := HJ.out; omega), Lib.hid (bZ.out.same (mix_none T e tr ov q B C j HJ.out HCJ.out)), HC2, KK⟩
     case measure => simp [intOf]; have := HJ.out; omega
    | some ab =>
     obtain ⟨a, b⟩ := ab
     have HCJ := Lib.hid hcj
     have cf := HC2.out.cell j (cRow_from C j HJ.out)
     have ct := HC2.out.cell (10 + j) (cRow_to C j HJ.out)
     rw [hcj] at ch2 cf ct
     simp only [Option.isSome_some, fromI, toI] at ch2 cf ct
     have f1 := F_of a
     have f2 := F_of b
     clear hcj
     go_wp2_with fail
     (refine wp_region_f [] (InX (Ob p) _) (by kernel_rfl) (InX.mk (Keep.drew (Keep.refl _ _))) (fun hI => ?_))
     have xx : ¬ Ob p w.heap.size := HCP.out
     have hK0 : Keep (Ob p) y2 y2.drew := (Keep.refl _ _).drew
     have bX := Lib.hid (bZ.out.drew)
     generalize y2.drew = v0 at hK0 hI bX ⊢
     have bX := bX.out
     have dg := bX.cell (5 + j) (xRow_g2 T e tr ov q (mix B C j) j HJ.out _ _)
     have eg := bX.frozen (5 + j)
     have lX := bX.lt
     (refine wpI_from 0 ?_; (iterate 17 ((first | (refine wpI_take (v := ?_) rfl (by kernel_rfl) (fun _ _ _ h => h) hI rfl ?_ ?_; rotate_left; (focus (rintro _ ⟨E, rfl⟩; go_simp; (try with_reducible rfl)))) | refine wpI_skip rfl (by kernel_rfl) (fun _ _ _ h => h) hI rfl ?_); simp only [Act.put, tk, Nat.reduceAdd])); refine wpI_till ?_)
     (refine wpF_one 17 rfl (by kernel_rfl) rfl (fun K hK => ?_))
     have bV := Lib.hid (bX.set (5 + j) (.complex .f64 (F a) (F b)))
     have KbV := Lib.hid (Keep.setCell (p := ⟨p, 5 + j, none⟩) hK0 (Or.inr rfl) (.complex .f64 (F a) (F b)))
     clear bX
     go_simp
     generalize v0.setCell ⟨p, 5 + j, none⟩ (.complex .f64 (F a) (F b)) = v1 at bV KbV ⊢
     (refine hK _ _ (fun _ => InX.mk KbV.out) (fun hI => ?_); have hI := hI (by simp); clear hK K; try simp only [Act.put, tk])
     (refine wpF_done (by kernel_rfl) ?_ _)
     have HC3 := Lib.hid (HC2.out.keep KbV.out HCP.out)
     have KV := Lib.hid (KK.out.trans KbV.out (fun _ _ h => h))
     have j1 := J1.out
     have j2 := J2.out
     clear ly lcy ch2 cf ct f1 f2
     go_wp2_with fail
     go_roundw
     case rel => exact ⟨j + 1, by go_num, Lib.hid (by have := HJ.out; omega), Lib.hid (bV.out.same (mix_some T e tr ov q B C j a b HJ.out HCJ.out)), HC3, KV⟩
     case measure => simp [intOf]; have := HJ.out; omega
   ·have hj10 : j = 10 := by have := hj.out; omega
    have HJ10 := Lib.hid hj10
    have g1 : decide ((j : Int) < 10) = false := by simp; omega
    have g2 : decide (j < 10) = false := by simp; omega
    clear hlt hj10
    go_wp2_with fail
    exact bodyPost_ret (results_none Try.results67 _ _ _) rfl ⟨rfl, hB.out.same (by rw [HJ10.out, HC0.out]; exact mix_end T e tr ov q B c), hK.out⟩
 ·rw [come_no hg]
  have m1 : decide (bestI s < (q : Int)) = false := by simpa using hg
  clear hg
  simp only [cRow]
  go_enter Try.func67, Try.ntmps67
  go_upto_region 1 with fail
  generalize (w.alloc (.cells #[.int .i64 (fromI (c 0)), .int .i64 (fromI (c 1)), .int .i64 (fromI (c 2)), .int .i64 (fromI (c 3)), .int .i64 (fromI (c 4)), .int .i64 (fromI (c 5)), .int .i64 (fromI (c 6)), .int .i64 (fromI (c 7)), .int .i64 (fromI (c 8)), .int .i64 (fromI (c 9)), .int .i64 (toI (c 0)), .int .i64 (toI (c 1)), .int .i64 (toI (c 2)), .int .i64 (toI (c 3)), .int .i64 (toI (c 4)), .int .i64 (toI (c 5)), .int .i64 (toI (c 6)), .int .i64 (toI (c 7)), .int .i64 (toI (c 8)), .int .i64 (toI (c 9)), .bool (c 0).isSome, .bool (c 1).isSome, .bool (c 2).isSome, .bool (c 3).isSome, .bool (c 4).isSome, .bool (c 5).isSome, .bool (c 6).isSome, .bool (c 7).isSome, .bool (c 8).isSome, .bool (c 9).isSome] 118)) = w1 at B1 BP K0 ⊢
  have c26 := BP.out.cell 26 (u := .bool s.over) rfl
  have lp1 := BP.out.lt
  rw [HO.out] at c26
  have c3 := BP.out.cell 3 (u := .int .i64 (bestI s)) rfl
  go_wp2_with fail
  exact bodyPost_ret (results_none Try.results67 _ _ _) rfl ⟨rfl, BP.out, K0.out.mono (fun _ _ h => h.elim)⟩
theorem cRow_g1 (c : Caps) (m : Nat) (h : m < 10) (v : Value) : ((cRow c).setIfInBounds m v)[10 + m]? = some (.int .i64 (toI (c m))) := by
 rw [Array.getElem?_setIfInBounds_ne (by omega)]
 exact cRow_to c m h
theorem cRow_g2 (c : Caps) (m : Nat) (h : m < 10) (v u : Value) : (((cRow c).setIfInBounds m v).setIfInBounds (10 + m) u)[20 + m]? = some (.bool (c m).isSome) := by
 rw [Array.getElem?_setIfInBounds_ne (by omega), Array.getElem?_setIfInBounds_ne (by omega)]
 exact cRow_has c m h
theorem cRow_put (c : Caps) (m a b : Nat) (h : m < 10) : (((cRow c).setIfInBounds m (.int .i64 (a : Int))).setIfInBounds (10 + m) (.int .i64 (b : Int))).setIfInBounds (20 + m) (.bool true) = cRow (put c m a b) := by
 rcases lt10 h with rfl | rfl | rfl | rfl | rfl | rfl | rfl | rfl | rfl | rfl <;> simp [cRow, put, fromI, toI]
theorem down_small {t : Nat} (h : t ≤ 3000) : wrap64 ((t : Int) - 1) = (t : Int) - 1 ∧ IntKind.i64.wrap ((t : Int) - 1) = (t : Int) - 1 := ⟨wrap64_small (by omega), wrap_small (by omega)⟩
set_option maxRecDepth 100000 in
set_option maxHeartbeats 4000000 in
theorem qend_any (p : Nat) (T : ByteArray) (e : Env) (k : Nat) (hT : T.toList = e.L) (h6 : T.size ≤ 600) (TH : QThrSaid p T e k) (n : Nd) (a : Nat) (r : List Tk) (q : Nat) (c : Caps) (s s' : St) (b : Nat) (S nx : Value) (w : World)
  (h : thr k e r q (put c n.h.n.toNat a q) s = some s') (hok : TksOk q s.tries (.grp n a :: r)) (hs : StOk e s) (hq : q ≤ T.size) (hc : CapsOk T.size c) (hb : QAt w p T e s) (ho : s.over = false) (hbp : b ≠ p)
  (ht : Blk w b (todoRow (.grp n a) S nx) 115) (hn : LiesP (Off p) w n S) (hr : TodoAt (Off p) w r nx) :
  Calls Try.prog 67 #[.pointer (some ⟨p, 0, none⟩), .pointer (some ⟨b, 0, none⟩), .int .i64 (e.start : Int), .int .i64 (q : Int), .agg (cRow c)] w fun x w' => x = .returned (.tuple #[]) ∧ QAt w' p T e s' ∧ Keep (Ob p) w w' := by
 obtain ⟨po, rfl⟩ := hr.ptr
 have h1 := okT_head hok.head.1
 have hk6 := hok.head.2.1
 have hn9 := h1.2.2.1 hk6
 obtain ⟨m, hm⟩ : ∃ m : Nat, n.h.n = (m : Int) := ⟨n.h.n.toNat, by omega⟩
 rw [hm, Int.toNat_natCast] at h
 have hm10 : m < 10 := by omega
 have hTH := Lib.hid (fun wx hx hy => TH r q (put c m a q) s s' (.pointer po) wx h hs hok.tail hq (hc.put hok.head.2.2 hq) hx hy)
 have HM := Lib.hid hm
 have HM10 := Lib.hid hm10
 have lp := hb.lt
 have HCP := Lib.hid (show ¬ Ob p w.heap.size by unfold Ob; omega)
 have HBP := Lib.hid (show ¬ Ob p b from hbp)
 have hb1 : Blk (w.alloc (.cells #[.int .i64 (fromI (c 0)), .int .i64 (fromI (c 1)), .int .i64 (fromI (c 2)), .int .i64 (fromI (c 3)), .int .i64 (fromI (c 4)), .int .i64 (fromI (c 5)), .int .i64 (fromI (c 6)), .int .i64 (fromI (c 7)), .int .i64 (fromI (c 8)), .int .i64 (fromI (c 9)), .int .i64 (toI (c 0)), .int .i64 (toI (c 1)), .int .i64 (toI (c 2)), .int .i64 (toI (c 3)), .int .i64 (toI (c 4)), .int .i64 (toI (c 5)), .int .i64 (toI (c 6)), .int .i64 (toI (c 7)), .int .i64 (toI (c 8)), .int .i64 (toI (c 9)), .bool (c 0).isSome, .bool (c 1).isSome, .bool (c 2).isSome, .bool (c 3).isSome, .bool (c 4).isSome, .bool (c 5).isSome, .bool (c 6).isSome, .bool (c 7).isSome, .bool (c 8).isSome, .bool (c 9).isSome] 118)) w.heap.size (cRow c) 118 := Blk.new w _ _
 have hbq : QAt (w.alloc (.cells #[.int .i64 (fromI (c 0)), .int .i64 (fromI (c 1)), .int .i64 (fromI (c 2)), .int .i64 (fromI (c 3)), .int .i64 (fromI (c 4)), .int .i64 (fromI (c 5)), .int .i64 (fromI (c 6)), .int .i64 (fromI (c 7)), .int .i64 (fromI (c 8)), .int .i64 (fromI (c 9)), .int .i64 (toI (c 0)), .int .i64 (toI (c 1)), .int .i64 (toI (c 2)), .int .i64 (toI (c 3)), .int .i64 (toI (c 4)), .int .i64 (toI (c 5)), .int .i64 (toI (c 6)), .int .i64 (toI (c 7)), .int .i64 (toI (c 8)), .int .i64 (toI (c 9)), .bool (c 0).isSome, .bool (c 1).isSome, .bool (c 2).isSome, .bool (c 3).isSome, .bool (c 4).isSome, .bool (c 5).isSome, .bool (c 6).isSome, .bool (c 7).isSome, .bool (c 8).isSome, .bool (c 9).isSome] 118)) p T e s := hb.alloc _
 have hk0 : Keep Nb w (w.alloc (.cells #[.int .i64 (fromI (c 0)), .int .i64 (fromI (c 1)), .int .i64 (fromI (c 2)), .int .i64 (fromI (c 3)), .int .i64 (fromI (c 4)), .int .i64 (fromI (c 5)), .int .i64 (fromI (c 6)), .int .i64 (fromI (c 7)), .int .i64 (fromI (c 8)), .int .i64 (fromI (c 9)), .int .i64 (toI (c 0)), .int .i64 (toI (c 1)), .int .i64 (toI (c 2)), .int .i64 (toI (c 3)), .int .i64 (toI (c 4)), .int .i64 (toI (c 5)), .int .i64 (toI (c 6)), .int .i64 (toI (c 7)), .int .i64 (toI (c 8)), .int .i64 (toI (c 9)), .bool (c 0).isSome, .bool (c 1).isSome, .bool (c 2).isSome, .bool (c 3).isSome, .bool (c 4).isSome, .bool (c 5).isSome, .bool (c 6).isSome, .bool (c 7).isSome, .bool (c 8).isSome, .bool (c 9).isSome] 118)) := Keep.alloc (Keep.refl _ _) _
 have htd := ht.alloc (.cells #[.int .i64 (fromI (c 0)), .int .i64 (fromI (c 1)), .int .i64 (fromI (c 2)), .int .i64 (fromI (c 3)), .int .i64 (fromI (c 4)), .int .i64 (fromI (c 5)), .int .i64 (fromI (c 6)), .int .i64 (fromI (c 7)), .int .i64 (fromI (c 8)), .int .i64 (fromI (c 9)), .int .i64 (toI (c 0)), .int .i64 (toI (c 1)), .int .i64 (toI (c 2)), .int .i64 (toI (c 3)), .int .i64 (toI (c 4)), .int .i64 (toI (c 5)), .int .i64 (toI (c 6)), .int .i64 (toI (c 7)), .int .i64 (toI (c 8)), .int .i64 (toI (c 9)), .bool (c 0).isSome, .bool (c 1).isSome, .bool (c 2).isSome, .bool (c 3).isSome, .bool (c 4).isSome, .bool (c 5).isSome, .bool (c 6).isSome, .bool (c 7).isSome, .bool (c 8).isSome, .bool (c 9).isSome] 118)
 have B1 := Lib.hid hb1
 have BP := Lib.hid hbq
 have BT := Lib.hid htd
 have K0 := Lib.hid hk0
 have HO := Lib.hid ho
 have HNB := Lib.hid (show ¬ b = w.heap.size by have := ht.lt; omega)
 have HNR := Lib.hid hn
 have HR := Lib.hid hr
 have i0 : (0 : Int) ≤ (m : Int) := by omega
 have i1 : (m : Int) < 10 := by omega
 clear hb1 hbq hk0 htd hb ho ht hn hr h hs hok hq hc hn9 h1 hk6 hm hm10 TH hT h6 hbp
 simp only [cRow]
 go_enter Try.func67, Try.ntmps67
 go_upto_region 1 with fail
 generalize (w.alloc (.cells #[.int .i64 (fromI (c 0)), .int .i64 (fromI (c 1)), .int .i64 (fromI (c 2)), .int .i64 (fromI (c 3)), .int .i64 (fromI (c 4)), .int .i64 (fromI (c 5)), .int .i64 (fromI (c 6)), .int .i64 (fromI (c 7)), .int .i64 (fromI (c 8)), .int .i64 (fromI (c 9)), .int .i64 (toI (c 0)), .int .i64 (toI (c 1)), .int .i64 (toI (c 2)), .int .i64 (toI (c 3)), .int .i64 (toI (c 4)), .int .i64 (toI (c 5)), .int .i64 (toI (c 6)), .int .i64 (toI (c 7)), .int .i64 (toI (c 8)), .int .i64 (toI (c 9)), .bool (c 0).isSome, .bool (c 1).isSome, .bool (c 2).isSome, .bool (c 3).isSome, .bool (c 4).isSome, .bool (c 5).isSome, .bool (c 6).isSome, .bool (c 7).isSome, .bool (c 8).isSome, .bool (c 9).isSome] 118)) = w1 at B1 BP BT K0 ⊢
 have c26 := BP.out.cell 26 (u := .bool s.over) rfl
 have lp1 := BP.out.lt
 rw [HO.out] at c26
 have t10 := BT.out.cell 10 (u := .int .i64 1) rfl
 have t11 := BT.out.cell 11 (u := .int .i64 (a : Int)) rfl
 have t12 := BT.out.cell 12 (u := .int .i64 0) rfl
 have t13 := BT.out.cell 13 (u := .pointer po) rfl
 have t6 := BT.out.cell 6 (u := .int .i64 n.h.n) rfl
 have t7 := BT.out.cell 7 (u := .int .i64 n.h.mn) rfl
 have lt1 := BT.out.lt
 rw [HM.out] at t6
 go_wp2_with fail
 (refine wp_region_f [] (InX (Ob w.heap.size) _) (by kernel_rfl) (InX.mk (Keep.drew (Keep.refl _ _))) (fun hI => ?_))
 have xx : ¬ Ob w.heap.size b := HNB.out
 have hK0 : Keep (Ob w.heap.size) w1 w1.drew := (Keep.refl _ _).drew
 have bX := Lib.hid (B1.out.drew)
 generalize w1.drew = x0 at hK0 hI bX ⊢
 have bX := bX.out
 have dg := bX.cell m (cRow_from c m HM10.out)
 have eg := bX.frozen m
 have lX := bX.lt
 (refine wpI_from 0 ?_; (iterate 22 ((first | (refine wpI_take (v := ?_) rfl (by kernel_rfl) (fun _ _ _ h => h) hI rfl ?_ ?_; rotate_left; (focus (rintro _ ⟨E, rfl⟩; go_simp; (try with_reducible rfl)))) | refine wpI_skip rfl (by kernel_rfl) (fun _ _ _ h => h) hI rfl ?_); simp only [Act.put, tk, Nat.reduceAdd])); refine wpI_till ?_)
 (refine wpF_take2 (v := ?_) 23 rfl (by kernel_rfl) (fun _ _ _ h => h) hI rfl ?_ ?_; rotate_left; (focus (rintro _ ⟨E, rfl⟩; go_simp; (try with_reducible rfl))); simp only [Act.put, tk])
 (refine wpF_take2 (v := ?_) 26 rfl (by kernel_rfl) (fun _ _ _ h => h) hI rfl ?_ ?_; rotate_left; (focus (rintro _ ⟨E, rfl⟩; go_simp; (try with_reducible rfl))); simp only [Act.put, tk])
 (refine wpF_one 22 rfl (by kernel_rfl) rfl (fun K hK => ?_))
 have b1 := Lib.hid (bX.set (m) (.int .i64 (a : Int)))
 have Kb1 := Lib.hid (Keep.setCell (p := ⟨w.heap.size, m, none⟩) hK0 (Or.inr rfl) (.int .i64 (a : Int)))
 clear bX
 go_simp
 generalize x0.setCell ⟨w.heap.size, m, none⟩ (.int .i64 (a : Int)) = x1 at b1 Kb1 ⊢
 clear hK0 dg eg lX
 have bX := b1.out
 have hK0 := Kb1.out
 have dg := bX.cell (10 + m) (cRow_g1 c m HM10.out _)
 have eg := bX.frozen (10 + m)
 have lX := bX.lt
 (refine hK _ _ (fun _ => InX.mk hK0) (fun hI => ?_); have hI := hI (by simp); clear hK K; try simp only [Act.put, tk])
 (refine wpF_take2 (v := ?_) 24 rfl (by kernel_rfl) (fun _ _ _ h => h) hI rfl ?_ ?_; rotate_left; (focus (rintro _ ⟨E, rfl⟩; go_simp; (try with_reducible rfl))); simp only [Act.put, tk])
 (refine wpF_one 25 rfl (by kernel_rfl) rfl (fun K hK => ?_))
 have b2 := Lib.hid (bX.set (10 + m) (.int .i64 (q : Int)))
 have Kb2 := Lib.hid (Keep.setCell (p := ⟨w.heap.size, 10 + m, none⟩) hK0 (Or.inr rfl) (.int .i64 (q : Int)))
 clear bX
 go_simp
 generalize x1.setCell ⟨w.heap.size, 10 + m, none⟩ (.int .i64 (q : Int)) = x2 at b2 Kb2 ⊢
 clear hK0 dg eg lX
 have bX := b2.out
 have hK0 := Kb2.out
 have dg := bX.cell (20 + m) (cRow_g2 c m HM10.out _ _)
 have eg := bX.frozen (20 + m)
 have lX := bX.lt
 (refine hK _ _ (fun _ => InX.mk hK0) (fun hI => ?_); have hI := hI (by simp); clear hK K; try simp only [Act.put, tk])
 (refine wpF_take2 (v := ?_) 27 rfl (by kernel_rfl) (fun _ _ _ h => h) hI rfl ?_ ?_; rotate_left; (focus (rintro _ ⟨E, rfl⟩; go_simp; (try with_reducible rfl))); simp only [Act.put, tk])
 (refine wpF_one 28 rfl (by kernel_rfl) rfl (fun K hK => ?_))
 have b3 := Lib.hid (bX.set (20 + m) (.bool true))
 have Kb3 := Lib.hid (Keep.setCell (p := ⟨w.heap.size, 20 + m, none⟩) hK0 (Or.inr rfl) (.bool true))
 clear bX
 go_simp
 generalize x2.setCell ⟨w.heap.size, 20 + m, none⟩ (.bool true) = x3 at b3 Kb3 ⊢
 (refine hK _ _ (fun _ => InX.mk Kb3.out) (fun hI => ?_); have hI := hI (by simp); clear hK K; try simp only [Act.put, tk])
 (refine wpF_done (by kernel_rfl) ?_ _)
 have BC := Lib.hid (b3.out.same (cRow_put c m a q HM10.out))
 have K3 := Lib.hid (show Keep (Ob p) w x3 from (K0.out.mono (Y := Ob p) (fun _ _ h => h.elim)).trans Kb3.out (fun k hk h => absurd h (by unfold Ob; omega)))
 have FP := Lib.hid (BP.out.keep Kb3.out (show ¬ Ob w.heap.size p by unfold Ob; omega))
 have BT3 := Lib.hid (BT.out.keep Kb3.out HNB.out)
 clear t10 t11 t12 t13 t6 t7 lt1 c26 lp1 b3 Kb3 i0 i1
 have t13 := BT3.out.cell 13 (u := .pointer po) rfl
 have lt1 := BT3.out.lt
 have HR3 := Lib.hid (TodoAt.keep K3.out HR.out)
 go_wp2_with fail
 (refine wp_region_f [] (InX (Ob p) _) (by kernel_rfl) (InX.mk (Keep.drew (Keep.refl _ _))) (fun hI => ?_))
 have xx1 : ¬ Ob p w.heap.size := HCP.out
 have xx2 : ¬ Ob p b := HBP.out
 have hK0 : Keep Nb x3 x3.drew := (Keep.refl _ _).drew
 generalize x3.drew = v0 at hK0 hI ⊢
 (refine wpI_from 0 ?_; (iterate 7 ((first | (refine wpI_take (v := ?_) rfl (by kernel_rfl) (fun _ _ _ h => h) hI rfl ?_ ?_; rotate_left; (focus (rintro _ ⟨E, rfl⟩; go_simp; (try with_reducible rfl)))) | refine wpI_skip rfl (by kernel_rfl) (fun _ _ _ h => h) hI rfl ?_); simp only [Act.put, tk, Nat.reduceAdd])); refine wpI_till ?_)
 (refine wpF_take_row 7 rfl (by kernel_rfl) (by kernel_rfl) (by kernel_rfl) (by kernel_rfl) (fun _ _ _ _ h => h) (by assumption) rfl 118 (.tmp 9) rfl w.heap.size rfl 118 _ (0, 0) _ (fun _ hS => InX.blk hS BC.out xx1) Try.underlying118 rfl (by kernel_rfl) ?_; simp only [Act.put, tk])
 (refine wpF_one 8 rfl (by kernel_rfl) rfl (fun K hK => ?_))
 go_simp
 refine (hTH.out _ (FP.out.keep hK0 id) (TodoAt.keep (hK0.mono (fun _ _ h => h.elim)) HR3.out)).mono ?_
 rintro y z1 ⟨he, hz, hkz⟩
 subst he
 have FZ := Lib.hid hz
 have KX := Lib.hid ((hK0.mono (Y := Ob p) (fun _ _ h => h.elim)).trans hkz (fun _ _ h => h))
 clear hz hkz
 (refine hK _ _ (fun _ => InX.mk KX.out) (fun hI => ?_); have hI := hI (by simp); clear hK K; try simp only [Act.put, tk])
 (refine wpF_done (by kernel_rfl) ?_ _)
 have KZ := Lib.hid (K3.out.trans KX.out (fun _ _ h => h))
 go_wp2_with fail
 exact bodyPost_ret (results_none Try.results67 _ _ _) rfl ⟨rfl, FZ.out, KZ.out⟩
set_option maxRecDepth 100000 in
set_option maxHeartbeats 4000000 in
theorem qagain_any (p : Nat) (T : ByteArray) (e : Env) (k : Nat) (hT : T.toList = e.L) (h6 : T.size ≤ 600) (TH : QThrSaid p T e k) (n : Nd) (a t : Nat) (r : List Tk) (q : Nat) (c : Caps) (s s' : St) (b : Nat) (S nx : Value) (w : World)
  (h : (if q ≠ a ∨ (t : Int) ≤ n.h.mn then rep k e n t r q c s else some s) = some s') (hok : TksOk q s.tries (.again n a t :: r)) (hs : StOk e s) (hq : q ≤ T.size) (hc : CapsOk T.size c) (hb : QAt w p T e s) (ho : s.over = false) (hbp : b ≠ p)
  (ht : Blk w b (todoRow (.again n a t) S nx) 115) (hn : LiesP (Off p) w n S) (hr : TodoAt (Off p) w r nx) :
  Calls Try.prog 67 #[.pointer (some ⟨p, 0, none⟩), .pointer (some ⟨b, 0, none⟩), .int .i64 (e.start : Int), .int .i64 (q : Int), .agg (cRow c)] w fun x w' => x = .returned (.tuple #[]) ∧ QAt w' p T e s' ∧ Keep (Ob p) w w' := by
 obtain ⟨po, rfl⟩ := hr.ptr
 obtain ⟨A, cap, rfl, _, _⟩ := hn.kids
 have lp := hb.lt
 have HCP := Lib.hid (show ¬ Ob p w.heap.size by unfold Ob; omega)
 have HBP := Lib.hid (show ¬ Ob p b from hbp)
 have hb1 : Blk (w.alloc (.cells #[.int .i64 (fromI (c 0)), .int .i64 (fromI (c 1)), .int .i64 (fromI (c 2)), .int .i64 (fromI (c 3)), .int .i64 (fromI (c 4)), .int .i64 (fromI (c 5)), .int .i64 (fromI (c 6)), .int .i64 (fromI (c 7)), .int .i64 (fromI (c 8)), .int .i64 (fromI (c 9)), .int .i64 (toI (c 0)), .int .i64 (toI (c 1)), .int .i64 (toI (c 2)), .int .i64 (toI (c 3)), .int .i64 (toI (c 4)), .int .i64 (toI (c 5)), .int .i64 (toI (c 6)), .int .i64 (toI (c 7)), .int .i64 (toI (c 8)), .int .i64 (toI (c 9)), .bool (c 0).isSome, .bool (c 1).isSome, .bool (c 2).isSome, .bool (c 3).isSome, .bool (c 4).isSome, .bool (c 5).isSome, .bool (c 6).isSome, .bool (c 7).isSome, .bool (c 8).isSome, .bool (c 9).isSome] 118)) w.heap.size (cRow c) 118 := Blk.new w _ _
 have hbq : QAt (w.alloc (.cells #[.int .i64 (fromI (c 0)), .int .i64 (fromI (c 1)), .int .i64 (fromI (c 2)), .int .i64 (fromI (c 3)), .int .i64 (fromI (c 4)), .int .i64 (fromI (c 5)), .int .i64 (fromI (c 6)), .int .i64 (fromI (c 7)), .int .i64 (fromI (c 8)), .int .i64 (fromI (c 9)), .int .i64 (toI (c 0)), .int .i64 (toI (c 1)), .int .i64 (toI (c 2)), .int .i64 (toI (c 3)), .int .i64 (toI (c 4)), .int .i64 (toI (c 5)), .int .i64 (toI (c 6)), .int .i64 (toI (c 7)), .int .i64 (toI (c 8)), .int .i64 (toI (c 9)), .bool (c 0).isSome, .bool (c 1).isSome, .bool (c 2).isSome, .bool (c 3).isSome, .bool (c 4).isSome, .bool (c 5).isSome, .bool (c 6).isSome, .bool (c 7).isSome, .bool (c 8).isSome, .bool (c 9).isSome] 118)) p T e s := hb.alloc _
 have hk0 : Keep Nb w (w.alloc (.cells #[.int .i64 (fromI (c 0)), .int .i64 (fromI (c 1)), .int .i64 (fromI (c 2)), .int .i64 (fromI (c 3)), .int .i64 (fromI (c 4)), .int .i64 (fromI (c 5)), .int .i64 (fromI (c 6)), .int .i64 (fromI (c 7)), .int .i64 (fromI (c 8)), .int .i64 (fromI (c 9)), .int .i64 (toI (c 0)), .int .i64 (toI (c 1)), .int .i64 (toI (c 2)), .int .i64 (toI (c 3)), .int .i64 (toI (c 4)), .int .i64 (toI (c 5)), .int .i64 (toI (c 6)), .int .i64 (toI (c 7)), .int .i64 (toI (c 8)), .int .i64 (toI (c 9)), .bool (c 0).isSome, .bool (c 1).isSome, .bool (c 2).isSome, .bool (c 3).isSome, .bool (c 4).isSome, .bool (c 5).isSome, .bool (c 6).isSome, .bool (c 7).isSome, .bool (c 8).isSome, .bool (c 9).isSome] 118)) := Keep.alloc (Keep.refl _ _) _
 have htd := ht.alloc (.cells #[.int .i64 (fromI (c 0)), .int .i64 (fromI (c 1)), .int .i64 (fromI (c 2)), .int .i64 (fromI (c 3)), .int .i64 (fromI (c 4)), .int .i64 (fromI (c 5)), .int .i64 (fromI (c 6)), .int .i64 (fromI (c 7)), .int .i64 (fromI (c 8)), .int .i64 (fromI (c 9)), .int .i64 (toI (c 0)), .int .i64 (toI (c 1)), .int .i64 (toI (c 2)), .int .i64 (toI (c 3)), .int .i64 (toI (c 4)), .int .i64 (toI (c 5)), .int .i64 (toI (c 6)), .int .i64 (toI (c 7)), .int .i64 (toI (c 8)), .int .i64 (toI (c 9)), .bool (c 0).isSome, .bool (c 1).isSome, .bool (c 2).isSome, .bool (c 3).isSome, .bool (c 4).isSome, .bool (c 5).isSome, .bool (c 6).isSome, .bool (c 7).isSome, .bool (c 8).isSome, .bool (c 9).isSome] 118)
 have B1 := Lib.hid hb1
 have BP := Lib.hid hbq
 have BT := Lib.hid htd
 have K0 := Lib.hid hk0
 have HO := Lib.hid ho
 have HNB := Lib.hid (show ¬ b = w.heap.size by have := ht.lt; omega)
 have HNR := Lib.hid hn
 have HR := Lib.hid hr
 have ht3 : t ≤ 3000 := Nat.le_trans hok.head.2.2 hs.tries
 have hw1 := (down_small ht3).1
 have hw2 := (down_small ht3).2
 clear ht3
 by_cases hc2 : (t : Int) ≤ n.h.mn
 ·rw [if_pos (.inr hc2)] at h
  have m2 : decide (n.h.mn ≤ (t : Int) - 1) = false := by simp; omega
  have m3 : ¬ n.h.mn ≤ (t : Int) - 1 := by omega
  obtain ⟨kk, rfl⟩ : ∃ i, k = i + 1 := by
   cases k with
   | zero => rw [rep.eq_def] at h; cases h
   | succ i => exact ⟨i, rfl⟩
  have HY := Lib.hid (fun wx (hx : QAt wx p T e s) (hy : LiesP (Off p) wx n (.slice A n.l.length cap)) (hz : TodoAt (Off p) wx r (.pointer po)) => qrepeat_any p T e kk hT (TH.down (Nat.le_succ _)) n _ t r q c s s' _ wx h hs hok.head.1 hok.head.2.1 hok.head.2.2 hok.tail hq hc hx hy hz)
  clear hb1 hbq hk0 htd hb ho ht hn hr h hs hok hq hc TH hT h6 hbp
  simp only [cRow]
  go_enter Try.func67, Try.ntmps67
  go_upto_region 1 with fail
  generalize (w.alloc (.cells #[.int .i64 (fromI (c 0)), .int .i64 (fromI (c 1)), .int .i64 (fromI (c 2)), .int .i64 (fromI (c 3)), .int .i64 (fromI (c 4)), .int .i64 (fromI (c 5)), .int .i64 (fromI (c 6)), .int .i64 (fromI (c 7)), .int .i64 (fromI (c 8)), .int .i64 (fromI (c 9)), .int .i64 (toI (c 0)), .int .i64 (toI (c 1)), .int .i64 (toI (c 2)), .int .i64 (toI (c 3)), .int .i64 (toI (c 4)), .int .i64 (toI (c 5)), .int .i64 (toI (c 6)), .int .i64 (toI (c 7)), .int .i64 (toI (c 8)), .int .i64 (toI (c 9)), .bool (c 0).isSome, .bool (c 1).isSome, .bool (c 2).isSome, .bool (c 3).isSome, .bool (c 4).isSome, .bool (c 5).isSome, .bool (c 6).isSome, .bool (c 7).isSome, .bool (c 8).isSome, .bool (c 9).isSome] 118)) = w1 at B1 BP BT K0 ⊢
  have c26 := BP.out.cell 26 (u := .bool s.over) rfl
  have lp1 := BP.out.lt
  rw [HO.out] at c26
  have t10 := BT.out.cell 10 (u := .int .i64 2) rfl
  have t11 := BT.out.cell 11 (u := .int .i64 (a : Int)) rfl
  have t12 := BT.out.cell 12 (u := .int .i64 (t : Int)) rfl
  have t13 := BT.out.cell 13 (u := .pointer po) rfl
  have t6 := BT.out.cell 6 (u := .int .i64 n.h.n) rfl
  have t7 := BT.out.cell 7 (u := .int .i64 n.h.mn) rfl
  have lt1 := BT.out.lt
  go_wp2_with fail
  refine wp_region_x (by kernel_rfl) (by kernel_rfl) ?_; (repeat (go_big_quiet_step ((fail)))); refine wpQuiet_nil ?_; rintro w3 ⟨⟨_, hk3⟩, rfl⟩
  have BT3 := Lib.hid (BT.out.keep hk3 id)
  have BC := Lib.hid (B1.out.keep hk3 id)
  have FP := Lib.hid (BP.out.keep hk3 id)
  have K3 := Lib.hid (K0.out.trans hk3 (fun _ _ h => h))
  clear t10 t11 t12 t13 t6 t7 lt1 c26 lp1 hk3
  have HR3 := Lib.hid (TodoAt.keep (K3.out.mono (Y := Ob p) (fun _ _ h => h.elim)) HR.out)
  have HN3 := Lib.hid (Lies_keep K3.out HNR.out)
  have t0 := BT3.out.cell 0 (u := .int .i64 n.h.k) rfl
  have t1 := BT3.out.cell 1 (u := .int .u8 n.h.c) rfl
  have t2 := BT3.out.cell 2 (u := .int .u64 n.h.s0) rfl
  have t3 := BT3.out.cell 3 (u := .int .u64 n.h.s1) rfl
  have t4 := BT3.out.cell 4 (u := .int .u64 n.h.s2) rfl
  have t5 := BT3.out.cell 5 (u := .int .u64 n.h.s3) rfl
  have t8 := BT3.out.cell 8 (u := .int .i64 n.h.mx) rfl
  have t9 := BT3.out.cell 9 (u := .slice A n.l.length cap) rfl
  have t10 := BT3.out.cell 10 (u := .int .i64 2) rfl
  have t11 := BT3.out.cell 11 (u := .int .i64 (a : Int)) rfl
  have t12 := BT3.out.cell 12 (u := .int .i64 (t : Int)) rfl
  have t13 := BT3.out.cell 13 (u := .pointer po) rfl
  have t6 := BT3.out.cell 6 (u := .int .i64 n.h.n) rfl
  have t7 := BT3.out.cell 7 (u := .int .i64 n.h.mn) rfl
  have lt1 := BT3.out.lt
  go_wp2_with fail
  (refine wp_region_f [] (InX (Ob p) _) (by kernel_rfl) (InX.mk (Keep.drew (Keep.refl _ _))) (fun hI => ?_))
  have xx1 : ¬ Ob p w.heap.size := HCP.out
  have xx2 : ¬ Ob p b := HBP.out
  have hK0 : Keep Nb w3 w3.drew := (Keep.refl _ _).drew
  generalize w3.drew = v0 at hK0 hI ⊢
  (refine wpI_from 0 ?_; (iterate 15 ((first | (refine wpI_take (v := ?_) rfl (by kernel_rfl) (fun _ _ _ h => h) hI rfl ?_ ?_; rotate_left; (focus (rintro _ ⟨E, rfl⟩; go_simp; (try with_reducible rfl)))) | refine wpI_skip rfl (by kernel_rfl) (fun _ _ _ h => h) hI rfl ?_); simp only [Act.put, tk, Nat.reduceAdd])); refine wpI_till ?_)
  (refine wpF_take_row 15 rfl (by kernel_rfl) (by kernel_rfl) (by kernel_rfl) (by kernel_rfl) (fun _ _ _ _ h => h) (by assumption) rfl 118 (.tmp 9) rfl w.heap.size rfl 118 _ (0, 0) _ (fun _ hS => InX.blk hS BC.out xx1) Try.underlying118 rfl (by kernel_rfl) ?_; simp only [Act.put, tk])
  (refine wpF_one 16 rfl (by kernel_rfl) rfl (fun K hK => ?_))
  go_simp
  refine (HY.out _ (FP.out.keep hK0 id) (Lies_keep hK0 HN3.out) (TodoAt.keep (hK0.mono (fun _ _ h => h.elim)) HR3.out)).mono ?_
  rintro y z1 ⟨he, hz, hkz⟩
  subst he
  have FZ := Lib.hid hz
  have KX := Lib.hid ((hK0.mono (Y := Ob p) (fun _ _ h => h.elim)).trans hkz (fun _ _ h => h))
  clear hz hkz
  (refine hK _ _ (fun _ => InX.mk KX.out) (fun hI => ?_); have hI := hI (by simp); clear hK K; try simp only [Act.put, tk])
  (refine wpF_done (by kernel_rfl) ?_ _)
  have KZ := Lib.hid ((K3.out.mono (Y := Ob p) (fun _ _ h => h.elim)).trans KX.out (fun _ _ h => h))
  go_wp2_with fail
  exact bodyPost_ret (results_none Try.results67 _ _ _) rfl ⟨rfl, FZ.out, KZ.out⟩
 ·have m2 : decide (n.h.mn ≤ (t : Int) - 1) = true := by simp; omega
  have m3 : n.h.mn ≤ (t : Int) - 1 := by omega
  by_cases hc1 : q = a
  ·subst hc1
   rw [if_neg (by rintro (h1 | h1); exact h1 rfl; exact hc2 h1)] at h
   cases h
   have m1 : ((q : Int) == (q : Int)) = true := by simp
   clear hb1 hbq hk0 htd hb ho ht hn hr hs hok hq hc TH hT h6 hbp hc2
   simp only [cRow]
   go_enter Try.func67, Try.ntmps67
   go_upto_region 1 with fail
   generalize (w.alloc (.cells #[.int .i64 (fromI (c 0)), .int .i64 (fromI (c 1)), .int .i64 (fromI (c 2)), .int .i64 (fromI (c 3)), .int .i64 (fromI (c 4)), .int .i64 (fromI (c 5)), .int .i64 (fromI (c 6)), .int .i64 (fromI (c 7)), .int .i64 (fromI (c 8)), .int .i64 (fromI (c 9)), .int .i64 (toI (c 0)), .int .i64 (toI (c 1)), .int .i64 (toI (c 2)), .int .i64 (toI (c 3)), .int .i64 (toI (c 4)), .int .i64 (toI (c 5)), .int .i64 (toI (c 6)), .int .i64 (toI (c 7)), .int .i64 (toI (c 8)), .int .i64 (toI (c 9)), .bool (c 0).isSome, .bool (c 1).isSome, .bool (c 2).isSome, .bool (c 3).isSome, .bool (c 4).isSome, .bool (c 5).isSome, .bool (c 6).isSome, .bool (c 7).isSome, .bool (c 8).isSome, .bool (c 9).isSome] 118)) = w1 at B1 BP BT K0 ⊢
   have c26 := BP.out.cell 26 (u := .bool s.over) rfl
   have lp1 := BP.out.lt
   rw [HO.out] at c26
   have t10 := BT.out.cell 10 (u := .int .i64 2) rfl
   have t11 := BT.out.cell 11 (u := .int .i64 (q : Int)) rfl
   have t12 := BT.out.cell 12 (u := .int .i64 (t : Int)) rfl
   have t13 := BT.out.cell 13 (u := .pointer po) rfl
   have t6 := BT.out.cell 6 (u := .int .i64 n.h.n) rfl
   have t7 := BT.out.cell 7 (u := .int .i64 n.h.mn) rfl
   have lt1 := BT.out.lt
   go_wp2_with fail
   refine wp_region_x (by kernel_rfl) (by kernel_rfl) ?_; (repeat (go_big_quiet_step ((fail)))); refine wpQuiet_nil ?_; rintro w3 ⟨⟨_, hk3⟩, rfl⟩
   go_wp2_with fail
   exact bodyPost_ret (results_none Try.results67 _ _ _) rfl ⟨rfl, BP.out.keep hk3 id, (K0.out.trans hk3 (fun _ _ h => h)).mono (fun _ _ h => h.elim)⟩
  ·rw [if_pos (.inl hc1)] at h
   have m1 : ((q : Int) == (a : Int)) = false := bne_int (by omega)
   have m4 : ¬ (q : Int) = (a : Int) := by omega
   clear hc1 hc2
   obtain ⟨kk, rfl⟩ : ∃ i, k = i + 1 := by
    cases k with
    | zero => rw [rep.eq_def] at h; cases h
    | succ i => exact ⟨i, rfl⟩
   have HY := Lib.hid (fun wx (hx : QAt wx p T e s) (hy : LiesP (Off p) wx n (.slice A n.l.length cap)) (hz : TodoAt (Off p) wx r (.pointer po)) => qrepeat_any p T e kk hT (TH.down (Nat.le_succ _)) n _ t r q c s s' _ wx h hs hok.head.1 hok.head.2.1 hok.head.2.2 hok.tail hq hc hx hy hz)
   clear hb1 hbq hk0 htd hb ho ht hn hr h hs hok hq hc TH hT h6 hbp
   simp only [cRow]
   go_enter Try.func67, Try.ntmps67
   go_upto_region 1 with fail
   generalize (w.alloc (.cells #[.int .i64 (fromI (c 0)), .int .i64 (fromI (c 1)), .int .i64 (fromI (c 2)), .int .i64 (fromI (c 3)), .int .i64 (fromI (c 4)), .int .i64 (fromI (c 5)), .int .i64 (fromI (c 6)), .int .i64 (fromI (c 7)), .int .i64 (fromI (c 8)), .int .i64 (fromI (c 9)), .int .i64 (toI (c 0)), .int .i64 (toI (c 1)), .int .i64 (toI (c 2)), .int .i64 (toI (c 3)), .int .i64 (toI (c 4)), .int .i64 (toI (c 5)), .int .i64 (toI (c 6)), .int .i64 (toI (c 7)), .int .i64 (toI (c 8)), .int .i64 (toI (c 9)), .bool (c 0).isSome, .bool (c 1).isSome, .bool (c 2).isSome, .bool (c 3).isSome, .bool (c 4).isSome, .bool (c 5).isSome, .bool (c 6).isSome, .bool (c 7).isSome, .bool (c 8).isSome, .bool (c 9).isSome] 118)) = w1 at B1 BP BT K0 ⊢
   have c26 := BP.out.cell 26 (u := .bool s.over) rfl
   have lp1 := BP.out.lt
   rw [HO.out] at c26
   have t10 := BT.out.cell 10 (u := .int .i64 2) rfl
   have t11 := BT.out.cell 11 (u := .int .i64 (a : Int)) rfl
   have t12 := BT.out.cell 12 (u := .int .i64 (t : Int)) rfl
   have t13 := BT.out.cell 13 (u := .pointer po) rfl
   have t6 := BT.out.cell 6 (u := .int .i64 n.h.n) rfl
   have t7 := BT.out.cell 7 (u := .int .i64 n.h.mn) rfl
   have lt1 := BT.out.lt
   go_wp2_with fail
   refine wp_region_x (by kernel_rfl) (by kernel_rfl) ?_; (repeat (go_big_quiet_step ((fail)))); refine wpQuiet_nil ?_; rintro w3 ⟨⟨_, hk3⟩, rfl⟩
   have BT3 := Lib.hid (BT.out.keep hk3 id)
   have BC := Lib.hid (B1.out.keep hk3 id)
   have FP := Lib.hid (BP.out.keep hk3 id)
   have K3 := Lib.hid (K0.out.trans hk3 (fun _ _ h => h))
   clear t10 t11 t12 t13 t6 t7 lt1 c26 lp1 hk3
   have HR3 := Lib.hid (TodoAt.keep (K3.out.mono (Y := Ob p) (fun _ _ h => h.elim)) HR.out)
   have HN3 := Lib.hid (Lies_keep K3.out HNR.out)
   have t0 := BT3.out.cell 0 (u := .int .i64 n.h.k) rfl
   have t1 := BT3.out.cell 1 (u := .int .u8 n.h.c) rfl
   have t2 := BT3.out.cell 2 (u := .int .u64 n.h.s0) rfl
   have t3 := BT3.out.cell 3 (u := .int .u64 n.h.s1) rfl
   have t4 := BT3.out.cell 4 (u := .int .u64 n.h.s2) rfl
   have t5 := BT3.out.cell 5 (u := .int .u64 n.h.s3) rfl
   have t8 := BT3.out.cell 8 (u := .int .i64 n.h.mx) rfl
   have t9 := BT3.out.cell 9 (u := .slice A n.l.length cap) rfl
   have t10 := BT3.out.cell 10 (u := .int .i64 2) rfl
   have t11 := BT3.out.cell 11 (u := .int .i64 (a : Int)) rfl
   have t12 := BT3.out.cell 12 (u := .int .i64 (t : Int)) rfl
   have t13 := BT3.out.cell 13 (u := .pointer po) rfl
   have t6 := BT3.out.cell 6 (u := .int .i64 n.h.n) rfl
   have t7 := BT3.out.cell 7 (u := .int .i64 n.h.mn) rfl
   have lt1 := BT3.out.lt
   go_wp2_with fail
   (refine wp_region_f [] (InX (Ob p) _) (by kernel_rfl) (InX.mk (Keep.drew (Keep.refl _ _))) (fun hI => ?_))
   have xx1 : ¬ Ob p w.heap.size := HCP.out
   have xx2 : ¬ Ob p b := HBP.out
   have hK0 : Keep Nb w3 w3.drew := (Keep.refl _ _).drew
   generalize w3.drew = v0 at hK0 hI ⊢
   (refine wpI_from 0 ?_; (iterate 15 ((first | (refine wpI_take (v := ?_) rfl (by kernel_rfl) (fun _ _ _ h => h) hI rfl ?_ ?_; rotate_left; (focus (rintro _ ⟨E, rfl⟩; go_simp; (try with_reducible rfl)))) | refine wpI_skip rfl (by kernel_rfl) (fun _ _ _ h => h) hI rfl ?_); simp only [Act.put, tk, Nat.reduceAdd])); refine wpI_till ?_)
   (refine wpF_take_row 15 rfl (by kernel_rfl) (by kernel_rfl) (by kernel_rfl) (by kernel_rfl) (fun _ _ _ _ h => h) (by assumption) rfl 118 (.tmp 9) rfl w.heap.size rfl 118 _ (0, 0) _ (fun _ hS => InX.blk hS BC.out xx1) Try.underlying118 rfl (by kernel_rfl) ?_; simp only [Act.put, tk])
   (refine wpF_one 16 rfl (by kernel_rfl) rfl (fun K hK => ?_))
   go_simp
   refine (HY.out _ (FP.out.keep hK0 id) (Lies_keep hK0 HN3.out) (TodoAt.keep (hK0.mono (fun _ _ h => h.elim)) HR3.out)).mono ?_
   rintro y z1 ⟨he, hz, hkz⟩
   subst he
   have FZ := Lib.hid hz
   have KX := Lib.hid ((hK0.mono (Y := Ob p) (fun _ _ h => h.elim)).trans hkz (fun _ _ h => h))
   clear hz hkz
   (refine hK _ _ (fun _ => InX.mk KX.out) (fun hI => ?_); have hI := hI (by simp); clear hK K; try simp only [Act.put, tk])
   (refine wpF_done (by kernel_rfl) ?_ _)
   have KZ := Lib.hid ((K3.out.mono (Y := Ob p) (fun _ _ h => h.elim)).trans KX.out (fun _ _ h => h))
   go_wp2_with fail
   exact bodyPost_ret (results_none Try.results67 _ _ _) rfl ⟨rfl, FZ.out, KZ.out⟩
end Go.Proofs.Ytkidjbfapldmbaa
