import Derived.Test.YtkidjbfapldmbaaZMk
import Derived.Deep.CutBlock
import Derived.Deep.DeepCutAuto
set_option linter.unusedVariables false
set_option linter.unusedSimpArgs false
set_option linter.unusedSectionVars false
namespace Go.Proofs.Ytkidjbfapldmbaa
open Go.RowKit P8
section
variable {P : Program} {ops : Array Oper} {Q : Exit → Act → World → Prop} {md : Region.Mode} {S : World → Prop} {fin : List Nat}
theorem wpF_take_row (i : Nat) {o : Oper} {n : Nat} {L : Array Bool} {a : Act} {w : World} (hi : ops[i]? = some o)
  (hs : Region.noSelect ops = true) (hf : Region.free md ops L i = true) (hr : (Region.ready md ops L).contains i = true) (hn : finOk md ops fin i = true)
  (hQ : ∀ c a v w, Q (.panic c) (a.put o.dst v) w → Q (.panic c) a w) (hS : S w) (hw : Region.wanted o (yielded ops a.tmps) = true)
  (ty : TypeId) (x : Operand) (ho : o.op = .load ty x) (g : Nat) (hx : a.eval x = .pointer (some ⟨g, 0, none⟩)) (t : TypeId) (cs : Array Value) (fr : Nat × Nat) (d : TypeDesc)
  (hg : ∀ w, S w → w.heap[g]? = some (.cells cs t fr)) (hu : P.underlying ty = some d) (hd : (match d with | .struct _ | .array _ _ => true | _ => false) = true) (hz : (P.info? ty).map (·.size) = some cs.size)
  (h : wpF P md ops Q S fin n (L.setIfInBounds i true) (a.put o.dst (.agg cs)) w) : wpF P md ops Q S fin (n + 1) L a w :=
 wpF_take i hi hs hf hr hn (fun c a w h => hQ c a _ w h) hS hw (fun w hw' => by
  unfold execOp
  simp only [ho, hx, Instr.loadAt, Instr.sureAddr, Sem.run_bind, Sem.run_pure, Result.andThen_ok, run_loadVar_row w g t ty cs fr d (hg w hw') hu hd hz]) h
end
theorem InX.blk {X : Nat → Prop} {W w : World} {b : Nat} {cs : Array Value} {t : TypeId} (h : InX X W w) (hb : Blk W b cs t) (hx : ¬ X b) : Blk w b cs t := hb.keep h.keep hx
def bestI (s : St) : Int := match s.best with
 | none => -1
 | some (q, _) => q
def qRow (T : ByteArray) (e : Env) (s : St) : Array Value :=
 #[.string T, .bool e.bound, .int .i64 (s.tries : Int), .int .i64 (bestI s), grpV (bestC s 0), grpV (bestC s 0), grpV (bestC s 1), grpV (bestC s 2), grpV (bestC s 3), grpV (bestC s 4), grpV (bestC s 5), grpV (bestC s 6), grpV (bestC s 7), grpV (bestC s 8), grpV (bestC s 9), hasV (bestC s 0), hasV (bestC s 1), hasV (bestC s 2), hasV (bestC s 3), hasV (bestC s 4), hasV (bestC s 5), hasV (bestC s 6), hasV (bestC s 7), hasV (bestC s 8), hasV (bestC s 9), .int .i64 0, .bool s.over]
abbrev QAt (w : World) (p : Nat) (T : ByteArray) (e : Env) (s : St) : Prop := Blk w p (qRow T e s) 111
def fromI : Option (Nat × Nat) → Int
 | none => 0
 | some (a, _) => a
def toI : Option (Nat × Nat) → Int
 | none => 0
 | some (_, b) => b
def cRow (c : Caps) : Array Value :=
 #[.int .i64 (fromI (c 0)), .int .i64 (fromI (c 1)), .int .i64 (fromI (c 2)), .int .i64 (fromI (c 3)), .int .i64 (fromI (c 4)), .int .i64 (fromI (c 5)), .int .i64 (fromI (c 6)), .int .i64 (fromI (c 7)), .int .i64 (fromI (c 8)), .int .i64 (fromI (c 9)), .int .i64 (toI (c 0)), .int .i64 (toI (c 1)), .int .i64 (toI (c 2)), .int .i64 (toI (c 3)), .int .i64 (toI (c 4)), .int .i64 (toI (c 5)), .int .i64 (toI (c 6)), .int .i64 (toI (c 7)), .int .i64 (toI (c 8)), .int .i64 (toI (c 9)), .bool (c 0).isSome, .bool (c 1).isSome, .bool (c 2).isSome, .bool (c 3).isSome, .bool (c 4).isSome, .bool (c 5).isSome, .bool (c 6).isSome, .bool (c 7).isSome, .bool (c 8).isSome, .bool (c 9).isSome]
def todoRow (t : Tk) (S nx : Value) : Array Value := match t with
 | .node n => #[.int .i64 n.h.k, .int .u8 n.h.c, .int .u64 n.h.s0, .int .u64 n.h.s1, .int .u64 n.h.s2, .int .u64 n.h.s3, .int .i64 n.h.n, .int .i64 n.h.mn, .int .i64 n.h.mx, S, .int .i64 0, .int .i64 0, .int .i64 0, nx]
 | .grp n a => #[.int .i64 n.h.k, .int .u8 n.h.c, .int .u64 n.h.s0, .int .u64 n.h.s1, .int .u64 n.h.s2, .int .u64 n.h.s3, .int .i64 n.h.n, .int .i64 n.h.mn, .int .i64 n.h.mx, S, .int .i64 1, .int .i64 (a : Int), .int .i64 0, nx]
 | .again n a k => #[.int .i64 n.h.k, .int .u8 n.h.c, .int .u64 n.h.s0, .int .u64 n.h.s1, .int .u64 n.h.s2, .int .u64 n.h.s3, .int .i64 n.h.n, .int .i64 n.h.mn, .int .i64 n.h.mx, S, .int .i64 2, .int .i64 (a : Int), .int .i64 (k : Int), nx]
def TodoAt (Ok : Nat → Prop) (w : World) : List Tk → Value → Prop
 | [], v => v = .pointer none
 | t :: r, v => ∃ b S nx, v = .pointer (some ⟨b, 0, none⟩) ∧ Ok b ∧ Blk w b (todoRow t S nx) 115 ∧ LiesP Ok w t.nd S ∧ TodoAt Ok w r nx
theorem TodoAt.keep {p : Nat} {w w' : World} (hk : Keep (Ob p) w w') : ∀ {ts : List Tk} {v : Value}, TodoAt (Off p) w ts v → TodoAt (Off p) w' ts v
 | [], _, h => h
 | t :: r, v, ⟨b, S, nx, hv, hb, hB, hn, hr⟩ => ⟨b, S, nx, hv, hb, hB.keep hk hb, LiesP_keep hk (fun _ hb hx => hb hx) hn, TodoAt.keep hk hr⟩
theorem TodoAt.ptr {Ok : Nat → Prop} {w : World} {ts : List Tk} {v : Value} (h : TodoAt Ok w ts v) : ∃ o, v = .pointer o := by
 cases ts with
 | nil => exact ⟨none, h⟩
 | cons t r => obtain ⟨b, _, _, hv, _⟩ := h; exact ⟨_, hv⟩
theorem TodoAt.push {p : Nat} {w : World} {t : Tk} {r : List Tk} {S nx : Value} (hp : p < w.heap.size) (hn : LiesP (Off p) w t.nd S) (hr : TodoAt (Off p) w r nx) :
  TodoAt (Off p) (w.alloc (.cells (todoRow t S nx) 115)) (t :: r) (.pointer (some ⟨w.heap.size, 0, none⟩)) := by
 have hk : Keep (Ob p) w (w.alloc (.cells (todoRow t S nx) 115)) := Keep.alloc (Keep.refl _ _) _
 exact ⟨w.heap.size, S, nx, rfl, by unfold Off; omega, Blk.new w _ _, LiesP_keep hk (fun _ hb hx => hb hx) hn, hr.keep hk⟩
theorem LiesP.kids {p : Nat} {w : World} {n : Nd} {S : Value} (h : LiesP (Off p) w n S) : ∃ A cap, S = .slice A n.l.length cap ∧ n.l.length ≤ 9223372036854775807 ∧
  ∀ j, (hj : j < n.l.length) → ∃ b2 o2 A2 c2, A = some ⟨b2, o2, none⟩ ∧ b2 ≠ p ∧ Ten w b2 (o2 + j * 10) n.l[j] (.slice A2 n.l[j].l.length c2) ∧ LiesP (Off p) w n.l[j] (.slice A2 n.l[j].l.length c2) := by
 rw [LiesP_def] at h
 obtain ⟨A, cap, rfl, h1, h2, hL⟩ := h
 refine ⟨A, cap, rfl, by unfold maxLen at h2; omega, fun j hj => ?_⟩
 obtain ⟨b2, o2, A2, c2, hA, hb2, ht2, hl2⟩ := LiesPL.atP hL j hj
 exact ⟨b2, o2, A2, c2, hA, hb2, ht2, hl2⟩
set_option maxRecDepth 100000 in
theorem qtry_any (p : Nat) (T : ByteArray) (e : Env) (s : St) (w : World) (ho : s.over = false) (ht : s.tries ≤ 3000) (hb : QAt w p T e s) :
  Calls Try.prog 89 #[.pointer (some ⟨p, 0, none⟩)] w fun x w' => x = .returned (.bool (tryS s).2) ∧ QAt w' p T e (tryS s).1 ∧ Keep (Ob p) w w' := by
 have c2 := hb.cell 2 (u := .int .i64 (s.tries : Int)) rfl
 have c26 := hb.cell 26 (u := .bool s.over) rfl
 have f2 := hb.frozen 2
 have f26 := hb.frozen 26
 have hl := hb.lt
 rw [ho] at c26
 rcases tryS_cases s with ⟨h1, h2⟩ | ⟨h1, h2⟩
 ·rw [h2]
  have b1 := Lib.hid (show QAt (w.setCell ⟨p, 26, none⟩ (.bool true)) p T e { s with over := true } from hb.set 26 (.bool true))
  have k1 := Lib.hid (Keep.setOb w p 26 (.bool true))
  rw [h1] at c2
  clear h1 h2 hb
  go_enter Try.func89, Try.ntmps89
  go_wp2_with fail
  go_ret
  exact ⟨rfl, b1.out, k1.out⟩
 ·rw [h2]
  have hx : wrap64 ((s.tries : Int) + 1) = (s.tries : Int) + 1 := by unfold wrap64; omega
  have m1 : ((s.tries : Int) == 3000) = false := beq_eq_false_iff_ne.2 (by omega)
  have m2 : ¬ ((s.tries : Int) = 3000) := by omega
  have b1 := Lib.hid (show QAt (w.setCell ⟨p, 2, none⟩ (.int .i64 ((s.tries : Int) + 1))) p T e { s with tries := s.tries + 1 } from hb.set 2 (.int .i64 ((s.tries : Int) + 1)))
  have k1 := Lib.hid (Keep.setOb w p 2 (.int .i64 ((s.tries : Int) + 1)))
  clear h1 h2 hb
  go_enter Try.func89, Try.ntmps89
  go_wp2_with fail
  go_ret
  exact ⟨rfl, b1.out, k1.out⟩
theorem cRow_from (c : Caps) (m : Nat) (h : m < 10) : (cRow c)[m]? = some (.int .i64 (fromI (c m))) := by
 rcases lt10 h with rfl | rfl | rfl | rfl | rfl | rfl | rfl | rfl | rfl | rfl <;> rfl
theorem cRow_to (c : Caps) (m : Nat) (h : m < 10) : (cRow c)[10 + m]? = some (.int .i64 (toI (c m))) := by
 rcases lt10 h with rfl | rfl | rfl | rfl | rfl | rfl | rfl | rfl | rfl | rfl <;> rfl
theorem cRow_has (c : Caps) (m : Nat) (h : m < 10) : (cRow c)[20 + m]? = some (.bool (c m).isSome) := by
 rcases lt10 h with rfl | rfl | rfl | rfl | rfl | rfl | rfl | rfl | rfl | rfl <;> rfl
section
variable (p : Nat) (T : ByteArray) (e : Env) (s : St) (c : Caps) (N : Nd) (S : Value) (q : Nat) (w : World) (hT : T.toList = e.L) (h6 : T.size ≤ 600) (hq : q ≤ T.size) (hc : CapsOk T.size c) (hb : QAt w p T e s)
include hT h6 hq hc hb
set_option maxRecDepth 100000 in
set_option maxHeartbeats 2000000 in
theorem qfits_1 (hk : N.h.k = 1) : Calls Try.prog 90 #[.pointer (some ⟨p, 0, none⟩), .agg (Nd.row N S), .int .i64 (q : Int), .agg (cRow c)] w fun x w' => x = .returned (.int .i64 (fitsI (fitsF e N.h q c))) ∧ Keep Nb w w' := by
 have hb0 : Blk ((w.alloc (.cells #[.int .i64 N.h.k, .int .u8 N.h.c, .int .u64 N.h.s0, .int .u64 N.h.s1, .int .u64 N.h.s2, .int .u64 N.h.s3, .int .i64 N.h.n, .int .i64 N.h.mn, .int .i64 N.h.mx, S] 27)).alloc (.cells #[.int .i64 (fromI (c 0)), .int .i64 (fromI (c 1)), .int .i64 (fromI (c 2)), .int .i64 (fromI (c 3)), .int .i64 (fromI (c 4)), .int .i64 (fromI (c 5)), .int .i64 (fromI (c 6)), .int .i64 (fromI (c 7)), .int .i64 (fromI (c 8)), .int .i64 (fromI (c 9)), .int .i64 (toI (c 0)), .int .i64 (toI (c 1)), .int .i64 (toI (c 2)), .int .i64 (toI (c 3)), .int .i64 (toI (c 4)), .int .i64 (toI (c 5)), .int .i64 (toI (c 6)), .int .i64 (toI (c 7)), .int .i64 (toI (c 8)), .int .i64 (toI (c 9)), .bool (c 0).isSome, .bool (c 1).isSome, .bool (c 2).isSome, .bool (c 3).isSome, .bool (c 4).isSome, .bool (c 5).isSome, .bool (c 6).isSome, .bool (c 7).isSome, .bool (c 8).isSome, .bool (c 9).isSome] 118)) w.heap.size #[.int .i64 N.h.k, .int .u8 N.h.c, .int .u64 N.h.s0, .int .u64 N.h.s1, .int .u64 N.h.s2, .int .u64 N.h.s3, .int .i64 N.h.n, .int .i64 N.h.mn, .int .i64 N.h.mx, S] 27 := (Blk.new w _ _).alloc _
 have hb1 : Blk ((w.alloc (.cells #[.int .i64 N.h.k, .int .u8 N.h.c, .int .u64 N.h.s0, .int .u64 N.h.s1, .int .u64 N.h.s2, .int .u64 N.h.s3, .int .i64 N.h.n, .int .i64 N.h.mn, .int .i64 N.h.mx, S] 27)).alloc (.cells #[.int .i64 (fromI (c 0)), .int .i64 (fromI (c 1)), .int .i64 (fromI (c 2)), .int .i64 (fromI (c 3)), .int .i64 (fromI (c 4)), .int .i64 (fromI (c 5)), .int .i64 (fromI (c 6)), .int .i64 (fromI (c 7)), .int .i64 (fromI (c 8)), .int .i64 (fromI (c 9)), .int .i64 (toI (c 0)), .int .i64 (toI (c 1)), .int .i64 (toI (c 2)), .int .i64 (toI (c 3)), .int .i64 (toI (c 4)), .int .i64 (toI (c 5)), .int .i64 (toI (c 6)), .int .i64 (toI (c 7)), .int .i64 (toI (c 8)), .int .i64 (toI (c 9)), .bool (c 0).isSome, .bool (c 1).isSome, .bool (c 2).isSome, .bool (c 3).isSome, .bool (c 4).isSome, .bool (c 5).isSome, .bool (c 6).isSome, .bool (c 7).isSome, .bool (c 8).isSome, .bool (c 9).isSome] 118)) (w.heap.size + 1) #[.int .i64 (fromI (c 0)), .int .i64 (fromI (c 1)), .int .i64 (fromI (c 2)), .int .i64 (fromI (c 3)), .int .i64 (fromI (c 4)), .int .i64 (fromI (c 5)), .int .i64 (fromI (c 6)), .int .i64 (fromI (c 7)), .int .i64 (fromI (c 8)), .int .i64 (fromI (c 9)), .int .i64 (toI (c 0)), .int .i64 (toI (c 1)), .int .i64 (toI (c 2)), .int .i64 (toI (c 3)), .int .i64 (toI (c 4)), .int .i64 (toI (c 5)), .int .i64 (toI (c 6)), .int .i64 (toI (c 7)), .int .i64 (toI (c 8)), .int .i64 (toI (c 9)), .bool (c 0).isSome, .bool (c 1).isSome, .bool (c 2).isSome, .bool (c 3).isSome, .bool (c 4).isSome, .bool (c 5).isSome, .bool (c 6).isSome, .bool (c 7).isSome, .bool (c 8).isSome, .bool (c 9).isSome] 118 := Blk.new' (by simp) _ _
 have hbp := (hb.alloc (.cells #[.int .i64 N.h.k, .int .u8 N.h.c, .int .u64 N.h.s0, .int .u64 N.h.s1, .int .u64 N.h.s2, .int .u64 N.h.s3, .int .i64 N.h.n, .int .i64 N.h.mn, .int .i64 N.h.mx, S] 27)).alloc (.cells #[.int .i64 (fromI (c 0)), .int .i64 (fromI (c 1)), .int .i64 (fromI (c 2)), .int .i64 (fromI (c 3)), .int .i64 (fromI (c 4)), .int .i64 (fromI (c 5)), .int .i64 (fromI (c 6)), .int .i64 (fromI (c 7)), .int .i64 (fromI (c 8)), .int .i64 (fromI (c 9)), .int .i64 (toI (c 0)), .int .i64 (toI (c 1)), .int .i64 (toI (c 2)), .int .i64 (toI (c 3)), .int .i64 (toI (c 4)), .int .i64 (toI (c 5)), .int .i64 (toI (c 6)), .int .i64 (toI (c 7)), .int .i64 (toI (c 8)), .int .i64 (toI (c 9)), .bool (c 0).isSome, .bool (c 1).isSome, .bool (c 2).isSome, .bool (c 3).isSome, .bool (c 4).isSome, .bool (c 5).isSome, .bool (c 6).isSome, .bool (c 7).isSome, .bool (c 8).isSome, .bool (c 9).isSome] 118)
 have hk : Keep Nb w ((w.alloc (.cells #[.int .i64 N.h.k, .int .u8 N.h.c, .int .u64 N.h.s0, .int .u64 N.h.s1, .int .u64 N.h.s2, .int .u64 N.h.s3, .int .i64 N.h.n, .int .i64 N.h.mn, .int .i64 N.h.mx, S] 27)).alloc (.cells #[.int .i64 (fromI (c 0)), .int .i64 (fromI (c 1)), .int .i64 (fromI (c 2)), .int .i64 (fromI (c 3)), .int .i64 (fromI (c 4)), .int .i64 (fromI (c 5)), .int .i64 (fromI (c 6)), .int .i64 (fromI (c 7)), .int .i64 (fromI (c 8)), .int .i64 (fromI (c 9)), .int .i64 (toI (c 0)), .int .i64 (toI (c 1)), .int .i64 (toI (c 2)), .int .i64 (toI (c 3)), .int .i64 (toI (c 4)), .int .i64 (toI (c 5)), .int .i64 (toI (c 6)), .int .i64 (toI (c 7)), .int .i64 (toI (c 8)), .int .i64 (toI (c 9)), .bool (c 0).isSome, .bool (c 1).isSome, .bool (c 2).isSome, .bool (c 3).isSome, .bool (c 4).isSome, .bool (c 5).isSome, .bool (c 6).isSome, .bool (c 7).isSome, .bool (c 8).isSome, .bool (c 9).isSome] 118)) := Keep.alloc (Keep.alloc (Keep.refl _ _) _) _
 have B0 := Lib.hid hb0
 have B1 := Lib.hid hb1
 have BP := Lib.hid hbp
 have HKW := Lib.hid hk
 clear hb0 hb1 hbp hk
 have j0 : (0 : Int) ≤ (q : Int) := by omega
 have k1 : (N.h.k == 1) = true := beq_int hk
 have k2 : (N.h.k == 2) = false := bne_int (by omega)
 have k3 : (N.h.k == 3) = false := bne_int (by omega)
 have k4 : (N.h.k == 4) = false := bne_int (by omega)
 have k5 : (N.h.k == 5) = false := bne_int (by omega)
 have k7 : (N.h.k == 7) = false := bne_int (by omega)
 have HKK := Lib.hid hk
 by_cases h : q < T.size
 ·have g1 : decide ((q : Int) < (T.size : Int)) = true := by simp; omega
  have g2 : decide (q < T.size) = true := by simp; omega
  have i1 : (q : Int) < (T.size : Int) := by omega
  obtain ⟨x, hx⟩ : ∃ x, T.toList[q]? = some x := ⟨_, List.getElem?_eq_getElem (by rw [toList_len]; omega)⟩
  obtain ⟨b0, e0⟩ := byte_at hx
  by_cases hcx : (x.toNat : Int) = N.h.c
  ·have m1 := beq_int hcx
   have HF : fitsF e N.h q c = some 1 := by rw [fitsF, if_pos hk, ← hT, hx]; simp only []; rw [if_pos hcx]
   rw [HF]
   clear HF hb hc hT h6 hq hx hcx h hk
   simp only [fitsI]
   simp only [Nd.row, cRow]
   go_enter Try.func90, Try.ntmps90
   go_upto_block 0 with fail
   generalize ((w.alloc (.cells #[.int .i64 N.h.k, .int .u8 N.h.c, .int .u64 N.h.s0, .int .u64 N.h.s1, .int .u64 N.h.s2, .int .u64 N.h.s3, .int .i64 N.h.n, .int .i64 N.h.mn, .int .i64 N.h.mx, S] 27)).alloc (.cells #[.int .i64 (fromI (c 0)), .int .i64 (fromI (c 1)), .int .i64 (fromI (c 2)), .int .i64 (fromI (c 3)), .int .i64 (fromI (c 4)), .int .i64 (fromI (c 5)), .int .i64 (fromI (c 6)), .int .i64 (fromI (c 7)), .int .i64 (fromI (c 8)), .int .i64 (fromI (c 9)), .int .i64 (toI (c 0)), .int .i64 (toI (c 1)), .int .i64 (toI (c 2)), .int .i64 (toI (c 3)), .int .i64 (toI (c 4)), .int .i64 (toI (c 5)), .int .i64 (toI (c 6)), .int .i64 (toI (c 7)), .int .i64 (toI (c 8)), .int .i64 (toI (c 9)), .bool (c 0).isSome, .bool (c 1).isSome, .bool (c 2).isSome, .bool (c 3).isSome, .bool (c 4).isSome, .bool (c 5).isSome, .bool (c 6).isSome, .bool (c 7).isSome, .bool (c 8).isSome, .bool (c 9).isSome] 118)) = w1 at B0 B1 BP HKW ⊢
   generalize w.heap.size = nb at B0 B1 ⊢
   have hN := B0.out
   have hC := B1.out
   have hP := BP.out
   have c0 := hP.cell 0 (u := .string T) rfl
   have c1 := hP.cell 1 (u := .bool e.bound) rfl
   have hl := hP.lt
   have nl := hN.lt
   have cl := hC.lt
   have n0 := hN.cell 0 (u := .int .i64 N.h.k) rfl
   have n1 := hN.cell 1 (u := .int .u8 N.h.c) rfl
   have n2 := hN.cell 2 (u := .int .u64 N.h.s0) rfl
   have n3 := hN.cell 3 (u := .int .u64 N.h.s1) rfl
   have n4 := hN.cell 4 (u := .int .u64 N.h.s2) rfl
   have n5 := hN.cell 5 (u := .int .u64 N.h.s3) rfl
   have n6 := hN.cell 6 (u := .int .i64 N.h.n) rfl
   clear hN hC hP
   rw [HKK.out] at n0
   go_wp2_with fail
   (refine wp_region_f [] (InX Nb _) (by kernel_rfl) (InX.mk (Keep.drew (Keep.refl _ _))) (fun hI => ?_))
   have xx : ∀ k, ¬ Nb k := fun _ h => h
   have hK0 : Keep Nb w1 w1.drew := (Keep.refl _ _).drew
   generalize w1.drew = x0 at hK0 hI ⊢
   (refine wpI_from 0 ?_; (iterate 44 ((first | (refine wpI_take (v := ?_) rfl (by kernel_rfl) (fun _ _ _ h => h) hI rfl ?_ ?_; rotate_left; (focus (rintro _ ⟨E, rfl⟩; go_simp; (try with_reducible rfl)))) | refine wpI_skip rfl (by kernel_rfl) (fun _ _ _ h => h) hI rfl ?_); simp only [Act.put, tk, Nat.reduceAdd])); refine wpI_till ?_)
   (refine wpF_done (by kernel_rfl) ?_ _)
   go_wp2_with fail
   go_ret
   exact ⟨rfl, HKW.out.trans hK0 (fun _ _ h => h)⟩
  ·have m1 := bne_int hcx
   have HF : fitsF e N.h q c = none := by rw [fitsF, if_pos hk, ← hT, hx]; simp only []; rw [if_neg hcx]
   rw [HF]
   clear HF hb hc hT h6 hq hx hcx h hk
   simp only [fitsI]
   simp only [Nd.row, cRow]
   go_enter Try.func90, Try.ntmps90
   go_upto_block 0 with fail
   generalize ((w.alloc (.cells #[.int .i64 N.h.k, .int .u8 N.h.c, .int .u64 N.h.s0, .int .u64 N.h.s1, .int .u64 N.h.s2, .int .u64 N.h.s3, .int .i64 N.h.n, .int .i64 N.h.mn, .int .i64 N.h.mx, S] 27)).alloc (.cells #[.int .i64 (fromI (c 0)), .int .i64 (fromI (c 1)), .int .i64 (fromI (c 2)), .int .i64 (fromI (c 3)), .int .i64 (fromI (c 4)), .int .i64 (fromI (c 5)), .int .i64 (fromI (c 6)), .int .i64 (fromI (c 7)), .int .i64 (fromI (c 8)), .int .i64 (fromI (c 9)), .int .i64 (toI (c 0)), .int .i64 (toI (c 1)), .int .i64 (toI (c 2)), .int .i64 (toI (c 3)), .int .i64 (toI (c 4)), .int .i64 (toI (c 5)), .int .i64 (toI (c 6)), .int .i64 (toI (c 7)), .int .i64 (toI (c 8)), .int .i64 (toI (c 9)), .bool (c 0).isSome, .bool (c 1).isSome, .bool (c 2).isSome, .bool (c 3).isSome, .bool (c 4).isSome, .bool (c 5).isSome, .bool (c 6).isSome, .bool (c 7).isSome, .bool (c 8).isSome, .bool (c 9).isSome] 118)) = w1 at B0 B1 BP HKW ⊢
   generalize w.heap.size = nb at B0 B1 ⊢
   have hN := B0.out
   have hC := B1.out
   have hP := BP.out
   have c0 := hP.cell 0 (u := .string T) rfl
   have c1 := hP.cell 1 (u := .bool e.bound) rfl
   have hl := hP.lt
   have nl := hN.lt
   have cl := hC.lt
   have n0 := hN.cell 0 (u := .int .i64 N.h.k) rfl
   have n1 := hN.cell 1 (u := .int .u8 N.h.c) rfl
   have n2 := hN.cell 2 (u := .int .u64 N.h.s0) rfl
   have n3 := hN.cell 3 (u := .int .u64 N.h.s1) rfl
   have n4 := hN.cell 4 (u := .int .u64 N.h.s2) rfl
   have n5 := hN.cell 5 (u := .int .u64 N.h.s3) rfl
   have n6 := hN.cell 6 (u := .int .i64 N.h.n) rfl
   clear hN hC hP
   rw [HKK.out] at n0
   go_wp2_with fail
   (refine wp_region_f [] (InX Nb _) (by kernel_rfl) (InX.mk (Keep.drew (Keep.refl _ _))) (fun hI => ?_))
   have xx : ∀ k, ¬ Nb k := fun _ h => h
   have hK0 : Keep Nb w1 w1.drew := (Keep.refl _ _).drew
   generalize w1.drew = x0 at hK0 hI ⊢
   (refine wpI_from 0 ?_; (iterate 44 ((first | (refine wpI_take (v := ?_) rfl (by kernel_rfl) (fun _ _ _ h => h) hI rfl ?_ ?_; rotate_left; (focus (rintro _ ⟨E, rfl⟩; go_simp; (try with_reducible rfl)))) | refine wpI_skip rfl (by kernel_rfl) (fun _ _ _ h => h) hI rfl ?_); simp only [Act.put, tk, Nat.reduceAdd])); refine wpI_till ?_)
   (refine wpF_done (by kernel_rfl) ?_ _)
   go_wp2_with fail
   go_ret
   exact ⟨rfl, HKW.out.trans hK0 (fun _ _ h => h)⟩
 ·have g1 : decide ((q : Int) < (T.size : Int)) = false := by simp; omega
  have g2 : decide (q < T.size) = false := by simp; omega
  have hx : T.toList[q]? = none := List.getElem?_eq_none (by rw [toList_len]; omega)
  have HF : fitsF e N.h q c = none := by rw [fitsF, if_pos hk, ← hT, hx]
  rw [HF]
  clear HF hb hc hT h6 hq hx h hk
  simp only [fitsI]
  simp only [Nd.row, cRow]
  go_enter Try.func90, Try.ntmps90
  go_upto_block 0 with fail
  generalize ((w.alloc (.cells #[.int .i64 N.h.k, .int .u8 N.h.c, .int .u64 N.h.s0, .int .u64 N.h.s1, .int .u64 N.h.s2, .int .u64 N.h.s3, .int .i64 N.h.n, .int .i64 N.h.mn, .int .i64 N.h.mx, S] 27)).alloc (.cells #[.int .i64 (fromI (c 0)), .int .i64 (fromI (c 1)), .int .i64 (fromI (c 2)), .int .i64 (fromI (c 3)), .int .i64 (fromI (c 4)), .int .i64 (fromI (c 5)), .int .i64 (fromI (c 6)), .int .i64 (fromI (c 7)), .int .i64 (fromI (c 8)), .int .i64 (fromI (c 9)), .int .i64 (toI (c 0)), .int .i64 (toI (c 1)), .int .i64 (toI (c 2)), .int .i64 (toI (c 3)), .int .i64 (toI (c 4)), .int .i64 (toI (c 5)), .int .i64 (toI (c 6)), .int .i64 (toI (c 7)), .int .i64 (toI (c 8)), .int .i64 (toI (c 9)), .bool (c 0).isSome, .bool (c 1).isSome, .bool (c 2).isSome, .bool (c 3).isSome, .bool (c 4).isSome, .bool (c 5).isSome, .bool (c 6).isSome, .bool (c 7).isSome, .bool (c 8).isSome, .bool (c 9).isSome] 118)) = w1 at B0 B1 BP HKW ⊢
  generalize w.heap.size = nb at B0 B1 ⊢
  have hN := B0.out
  have hC := B1.out
  have hP := BP.out
  have c0 := hP.cell 0 (u := .string T) rfl
  have c1 := hP.cell 1 (u := .bool e.bound) rfl
  have hl := hP.lt
  have nl := hN.lt
  have cl := hC.lt
  have n0 := hN.cell 0 (u := .int .i64 N.h.k) rfl
  have n1 := hN.cell 1 (u := .int .u8 N.h.c) rfl
  have n2 := hN.cell 2 (u := .int .u64 N.h.s0) rfl
  have n3 := hN.cell 3 (u := .int .u64 N.h.s1) rfl
  have n4 := hN.cell 4 (u := .int .u64 N.h.s2) rfl
  have n5 := hN.cell 5 (u := .int .u64 N.h.s3) rfl
  have n6 := hN.cell 6 (u := .int .i64 N.h.n) rfl
  clear hN hC hP
  rw [HKK.out] at n0
  go_wp2_with fail
  (refine wp_region_f [] (InX Nb _) (by kernel_rfl) (InX.mk (Keep.drew (Keep.refl _ _))) (fun hI => ?_))
  have xx : ∀ k, ¬ Nb k := fun _ h => h
  have hK0 : Keep Nb w1 w1.drew := (Keep.refl _ _).drew
  generalize w1.drew = x0 at hK0 hI ⊢
  (refine wpI_from 0 ?_; (iterate 44 ((first | (refine wpI_take (v := ?_) rfl (by kernel_rfl) (fun _ _ _ h => h) hI rfl ?_ ?_; rotate_left; (focus (rintro _ ⟨E, rfl⟩; go_simp; (try with_reducible rfl)))) | refine wpI_skip rfl (by kernel_rfl) (fun _ _ _ h => h) hI rfl ?_); simp only [Act.put, tk, Nat.reduceAdd])); refine wpI_till ?_)
  (refine wpF_done (by kernel_rfl) ?_ _)
  go_wp2_with fail
  go_ret
  exact ⟨rfl, HKW.out.trans hK0 (fun _ _ h => h)⟩
set_option maxRecDepth 100000 in
set_option maxHeartbeats 2000000 in
theorem qfits_2 (hk : N.h.k = 2) : Calls Try.prog 90 #[.pointer (some ⟨p, 0, none⟩), .agg (Nd.row N S), .int .i64 (q : Int), .agg (cRow c)] w fun x w' => x = .returned (.int .i64 (fitsI (fitsF e N.h q c))) ∧ Keep Nb w w' := by
 have hb0 : Blk ((w.alloc (.cells #[.int .i64 N.h.k, .int .u8 N.h.c, .int .u64 N.h.s0, .int .u64 N.h.s1, .int .u64 N.h.s2, .int .u64 N.h.s3, .int .i64 N.h.n, .int .i64 N.h.mn, .int .i64 N.h.mx, S] 27)).alloc (.cells #[.int .i64 (fromI (c 0)), .int .i64 (fromI (c 1)), .int .i64 (fromI (c 2)), .int .i64 (fromI (c 3)), .int .i64 (fromI (c 4)), .int .i64 (fromI (c 5)), .int .i64 (fromI (c 6)), .int .i64 (fromI (c 7)), .int .i64 (fromI (c 8)), .int .i64 (fromI (c 9)), .int .i64 (toI (c 0)), .int .i64 (toI (c 1)), .int .i64 (toI (c 2)), .int .i64 (toI (c 3)), .int .i64 (toI (c 4)), .int .i64 (toI (c 5)), .int .i64 (toI (c 6)), .int .i64 (toI (c 7)), .int .i64 (toI (c 8)), .int .i64 (toI (c 9)), .bool (c 0).isSome, .bool (c 1).isSome, .bool (c 2).isSome, .bool (c 3).isSome, .bool (c 4).isSome, .bool (c 5).isSome, .bool (c 6).isSome, .bool (c 7).isSome, .bool (c 8).isSome, .bool (c 9).isSome] 118)) w.heap.size #[.int .i64 N.h.k, .int .u8 N.h.c, .int .u64 N.h.s0, .int .u64 N.h.s1, .int .u64 N.h.s2, .int .u64 N.h.s3, .int .i64 N.h.n, .int .i64 N.h.mn, .int .i64 N.h.mx, S] 27 := (Blk.new w _ _).alloc _
 have hb1 : Blk ((w.alloc (.cells #[.int .i64 N.h.k, .int .u8 N.h.c, .int .u64 N.h.s0, .int .u64 N.h.s1, .int .u64 N.h.s2, .int .u64 N.h.s3, .int .i64 N.h.n, .int .i64 N.h.mn, .int .i64 N.h.mx, S] 27)).alloc (.cells #[.int .i64 (fromI (c 0)), .int .i64 (fromI (c 1)), .int .i64 (fromI (c 2)), .int .i64 (fromI (c 3)), .int .i64 (fromI (c 4)), .int .i64 (fromI (c 5)), .int .i64 (fromI (c 6)), .int .i64 (fromI (c 7)), .int .i64 (fromI (c 8)), .int .i64 (fromI (c 9)), .int .i64 (toI (c 0)), .int .i64 (toI (c 1)), .int .i64 (toI (c 2)), .int .i64 (toI (c 3)), .int .i64 (toI (c 4)), .int .i64 (toI (c 5)), .int .i64 (toI (c 6)), .int .i64 (toI (c 7)), .int .i64 (toI (c 8)), .int .i64 (toI (c 9)), .bool (c 0).isSome, .bool (c 1).isSome, .bool (c 2).isSome, .bool (c 3).isSome, .bool (c 4).isSome, .bool (c 5).isSome, .bool (c 6).isSome, .bool (c 7).isSome, .bool (c 8).isSome, .bool (c 9).isSome] 118)) (w.heap.size + 1) #[.int .i64 (fromI (c 0)), .int .i64 (fromI (c 1)), .int .i64 (fromI (c 2)), .int .i64 (fromI (c 3)), .int .i64 (fromI (c 4)), .int .i64 (fromI (c 5)), .int .i64 (fromI (c 6)), .int .i64 (fromI (c 7)), .int .i64 (fromI (c 8)), .int .i64 (fromI (c 9)), .int .i64 (toI (c 0)), .int .i64 (toI (c 1)), .int .i64 (toI (c 2)), .int .i64 (toI (c 3)), .int .i64 (toI (c 4)), .int .i64 (toI (c 5)), .int .i64 (toI (c 6)), .int .i64 (toI (c 7)), .int .i64 (toI (c 8)), .int .i64 (toI (c 9)), .bool (c 0).isSome, .bool (c 1).isSome, .bool (c 2).isSome, .bool (c 3).isSome, .bool (c 4).isSome, .bool (c 5).isSome, .bool (c 6).isSome, .bool (c 7).isSome, .bool (c 8).isSome, .bool (c 9).isSome] 118 := Blk.new' (by simp) _ _
 have hbp := (hb.alloc (.cells #[.int .i64 N.h.k, .int .u8 N.h.c, .int .u64 N.h.s0, .int .u64 N.h.s1, .int .u64 N.h.s2, .int .u64 N.h.s3, .int .i64 N.h.n, .int .i64 N.h.mn, .int .i64 N.h.mx, S] 27)).alloc (.cells #[.int .i64 (fromI (c 0)), .int .i64 (fromI (c 1)), .int .i64 (fromI (c 2)), .int .i64 (fromI (c 3)), .int .i64 (fromI (c 4)), .int .i64 (fromI (c 5)), .int .i64 (fromI (c 6)), .int .i64 (fromI (c 7)), .int .i64 (fromI (c 8)), .int .i64 (fromI (c 9)), .int .i64 (toI (c 0)), .int .i64 (toI (c 1)), .int .i64 (toI (c 2)), .int .i64 (toI (c 3)), .int .i64 (toI (c 4)), .int .i64 (toI (c 5)), .int .i64 (toI (c 6)), .int .i64 (toI (c 7)), .int .i64 (toI (c 8)), .int .i64 (toI (c 9)), .bool (c 0).isSome, .bool (c 1).isSome, .bool (c 2).isSome, .bool (c 3).isSome, .bool (c 4).isSome, .bool (c 5).isSome, .bool (c 6).isSome, .bool (c 7).isSome, .bool (c 8).isSome, .bool (c 9).isSome] 118)
 have hk : Keep Nb w ((w.alloc (.cells #[.int .i64 N.h.k, .int .u8 N.h.c, .int .u64 N.h.s0, .int .u64 N.h.s1, .int .u64 N.h.s2, .int .u64 N.h.s3, .int .i64 N.h.n, .int .i64 N.h.mn, .int .i64 N.h.mx, S] 27)).alloc (.cells #[.int .i64 (fromI (c 0)), .int .i64 (fromI (c 1)), .int .i64 (fromI (c 2)), .int .i64 (fromI (c 3)), .int .i64 (fromI (c 4)), .int .i64 (fromI (c 5)), .int .i64 (fromI (c 6)), .int .i64 (fromI (c 7)), .int .i64 (fromI (c 8)), .int .i64 (fromI (c 9)), .int .i64 (toI (c 0)), .int .i64 (toI (c 1)), .int .i64 (toI (c 2)), .int .i64 (toI (c 3)), .int .i64 (toI (c 4)), .int .i64 (toI (c 5)), .int .i64 (toI (c 6)), .int .i64 (toI (c 7)), .int .i64 (toI (c 8)), .int .i64 (toI (c 9)), .bool (c 0).isSome, .bool (c 1).isSome, .bool (c 2).isSome, .bool (c 3).isSome, .bool (c 4).isSome, .bool (c 5).isSome, .bool (c 6).isSome, .bool (c 7).isSome, .bool (c 8).isSome, .bool (c 9).isSome] 118)) := Keep.alloc (Keep.alloc (Keep.refl _ _) _) _
 have B0 := Lib.hid hb0
 have B1 := Lib.hid hb1
 have BP := Lib.hid hbp
 have HKW := Lib.hid hk
 clear hb0 hb1 hbp hk
 have j0 : (0 : Int) ≤ (q : Int) := by omega
 have k1 : (N.h.k == 1) = false := bne_int (by omega)
 have k2 : (N.h.k == 2) = true := beq_int hk
 have k3 : (N.h.k == 3) = false := bne_int (by omega)
 have k4 : (N.h.k == 4) = false := bne_int (by omega)
 have k5 : (N.h.k == 5) = false := bne_int (by omega)
 have k7 : (N.h.k == 7) = false := bne_int (by omega)
 have HKK := Lib.hid hk
 by_cases h : q < T.size
 ·have g1 : decide ((q : Int) < (T.size : Int)) = true := by simp; omega
  have g2 : decide (q < T.size) = true := by simp; omega
  have i1 : (q : Int) < (T.size : Int) := by omega
  have HF : fitsF e N.h q c = some 1 := by rw [fitsF, if_neg (by omega), if_pos hk, ← hT, toList_len, if_pos h]
  rw [HF]
  clear HF hb hc hT h6 hq h hk
  simp only [fitsI]
  simp only [Nd.row, cRow]
  go_enter Try.func90, Try.ntmps90
  go_upto_block 0 with fail
  generalize ((w.alloc (.cells #[.int .i64 N.h.k, .int .u8 N.h.c, .int .u64 N.h.s0, .int .u64 N.h.s1, .int .u64 N.h.s2, .int .u64 N.h.s3, .int .i64 N.h.n, .int .i64 N.h.mn, .int .i64 N.h.mx, S] 27)).alloc (.cells #[.int .i64 (fromI (c 0)), .int .i64 (fromI (c 1)), .int .i64 (fromI (c 2)), .int .i64 (fromI (c 3)), .int .i64 (fromI (c 4)), .int .i64 (fromI (c 5)), .int .i64 (fromI (c 6)), .int .i64 (fromI (c 7)), .int .i64 (fromI (c 8)), .int .i64 (fromI (c 9)), .int .i64 (toI (c 0)), .int .i64 (toI (c 1)), .int .i64 (toI (c 2)), .int .i64 (toI (c 3)), .int .i64 (toI (c 4)), .int .i64 (toI (c 5)), .int .i64 (toI (c 6)), .int .i64 (toI (c 7)), .int .i64 (toI (c 8)), .int .i64 (toI (c 9)), .bool (c 0).isSome, .bool (c 1).isSome, .bool (c 2).isSome, .bool (c 3).isSome, .bool (c 4).isSome, .bool (c 5).isSome, .bool (c 6).isSome, .bool (c 7).isSome, .bool (c 8).isSome, .bool (c 9).isSome] 118)) = w1 at B0 B1 BP HKW ⊢
  generalize w.heap.size = nb at B0 B1 ⊢
  have hN := B0.out
  have hC := B1.out
  have hP := BP.out
  have c0 := hP.cell 0 (u := .string T) rfl
  have c1 := hP.cell 1 (u := .bool e.bound) rfl
  have hl := hP.lt
  have nl := hN.lt
  have cl := hC.lt
  have n0 := hN.cell 0 (u := .int .i64 N.h.k) rfl
  have n1 := hN.cell 1 (u := .int .u8 N.h.c) rfl
  have n2 := hN.cell 2 (u := .int .u64 N.h.s0) rfl
  have n3 := hN.cell 3 (u := .int .u64 N.h.s1) rfl
  have n4 := hN.cell 4 (u := .int .u64 N.h.s2) rfl
  have n5 := hN.cell 5 (u := .int .u64 N.h.s3) rfl
  have n6 := hN.cell 6 (u := .int .i64 N.h.n) rfl
  clear hN hC hP
  rw [HKK.out] at n0
  go_wp2_with fail
  (refine wp_region_f [] (InX Nb _) (by kernel_rfl) (InX.mk (Keep.drew (Keep.refl _ _))) (fun hI => ?_))
  have xx : ∀ k, ¬ Nb k := fun _ h => h
  have hK0 : Keep Nb w1 w1.drew := (Keep.refl _ _).drew
  generalize w1.drew = x0 at hK0 hI ⊢
  (refine wpI_from 0 ?_; (iterate 44 ((first | (refine wpI_take (v := ?_) rfl (by kernel_rfl) (fun _ _ _ h => h) hI rfl ?_ ?_; rotate_left; (focus (rintro _ ⟨E, rfl⟩; go_simp; (try with_reducible rfl)))) | refine wpI_skip rfl (by kernel_rfl) (fun _ _ _ h => h) hI rfl ?_); simp only [Act.put, tk, Nat.reduceAdd])); refine wpI_till ?_)
  (refine wpF_done (by kernel_rfl) ?_ _)
  go_wp2_with fail
  go_ret
  exact ⟨rfl, HKW.out.trans hK0 (fun _ _ h => h)⟩
 ·have g1 : decide ((q : Int) < (T.size : Int)) = false := by simp; omega
  have g2 : decide (q < T.size) = false := by simp; omega
  have HF : fitsF e N.h q c = none := by rw [fitsF, if_neg (by omega), if_pos hk, ← hT, toList_len, if_neg h]
  rw [HF]
  clear HF hb hc hT h6 hq h hk
  simp only [fitsI]
  simp only [Nd.row, cRow]
  go_enter Try.func90, Try.ntmps90
  go_upto_block 0 with fail
  generalize ((w.alloc (.cells #[.int .i64 N.h.k, .int .u8 N.h.c, .int .u64 N.h.s0, .int .u64 N.h.s1, .int .u64 N.h.s2, .int .u64 N.h.s3, .int .i64 N.h.n, .int .i64 N.h.mn, .int .i64 N.h.mx, S] 27)).alloc (.cells #[.int .i64 (fromI (c 0)), .int .i64 (fromI (c 1)), .int .i64 (fromI (c 2)), .int .i64 (fromI (c 3)), .int .i64 (fromI (c 4)), .int .i64 (fromI (c 5)), .int .i64 (fromI (c 6)), .int .i64 (fromI (c 7)), .int .i64 (fromI (c 8)), .int .i64 (fromI (c 9)), .int .i64 (toI (c 0)), .int .i64 (toI (c 1)), .int .i64 (toI (c 2)), .int .i64 (toI (c 3)), .int .i64 (toI (c 4)), .int .i64 (toI (c 5)), .int .i64 (toI (c 6)), .int .i64 (toI (c 7)), .int .i64 (toI (c 8)), .int .i64 (toI (c 9)), .bool (c 0).isSome, .bool (c 1).isSome, .bool (c 2).isSome, .bool (c 3).isSome, .bool (c 4).isSome, .bool (c 5).isSome, .bool (c 6).isSome, .bool (c 7).isSome, .bool (c 8).isSome, .bool (c 9).isSome] 118)) = w1 at B0 B1 BP HKW ⊢
  generalize w.heap.size = nb at B0 B1 ⊢
  have hN := B0.out
  have hC := B1.out
  have hP := BP.out
  have c0 := hP.cell 0 (u := .string T) rfl
  have c1 := hP.cell 1 (u := .bool e.bound) rfl
  have hl := hP.lt
  have nl := hN.lt
  have cl := hC.lt
  have n0 := hN.cell 0 (u := .int .i64 N.h.k) rfl
  have n1 := hN.cell 1 (u := .int .u8 N.h.c) rfl
  have n2 := hN.cell 2 (u := .int .u64 N.h.s0) rfl
  have n3 := hN.cell 3 (u := .int .u64 N.h.s1) rfl
  have n4 := hN.cell 4 (u := .int .u64 N.h.s2) rfl
  have n5 := hN.cell 5 (u := .int .u64 N.h.s3) rfl
  have n6 := hN.cell 6 (u := .int .i64 N.h.n) rfl
  clear hN hC hP
  rw [HKK.out] at n0
  go_wp2_with fail
  (refine wp_region_f [] (InX Nb _) (by kernel_rfl) (InX.mk (Keep.drew (Keep.refl _ _))) (fun hI => ?_))
  have xx : ∀ k, ¬ Nb k := fun _ h => h
  have hK0 : Keep Nb w1 w1.drew := (Keep.refl _ _).drew
  generalize w1.drew = x0 at hK0 hI ⊢
  (refine wpI_from 0 ?_; (iterate 44 ((first | (refine wpI_take (v := ?_) rfl (by kernel_rfl) (fun _ _ _ h => h) hI rfl ?_ ?_; rotate_left; (focus (rintro _ ⟨E, rfl⟩; go_simp; (try with_reducible rfl)))) | refine wpI_skip rfl (by kernel_rfl) (fun _ _ _ h => h) hI rfl ?_); simp only [Act.put, tk, Nat.reduceAdd])); refine wpI_till ?_)
  (refine wpF_done (by kernel_rfl) ?_ _)
  go_wp2_with fail
  go_ret
  exact ⟨rfl, HKW.out.trans hK0 (fun _ _ h => h)⟩
set_option maxRecDepth 100000 in
set_option maxHeartbeats 2000000 in
theorem qfits_3 (hk : N.h.k = 3) : Calls Try.prog 90 #[.pointer (some ⟨p, 0, none⟩), .agg (Nd.row N S), .int .i64 (q : Int), .agg (cRow c)] w fun x w' => x = .returned (.int .i64 (fitsI (fitsF e N.h q c))) ∧ Keep Nb w w' := by
 have hb0 : Blk ((w.alloc (.cells #[.int .i64 N.h.k, .int .u8 N.h.c, .int .u64 N.h.s0, .int .u64 N.h.s1, .int .u64 N.h.s2, .int .u64 N.h.s3, .int .i64 N.h.n, .int .i64 N.h.mn, .int .i64 N.h.mx, S] 27)).alloc (.cells #[.int .i64 (fromI (c 0)), .int .i64 (fromI (c 1)), .int .i64 (fromI (c 2)), .int .i64 (fromI (c 3)), .int .i64 (fromI (c 4)), .int .i64 (fromI (c 5)), .int .i64 (fromI (c 6)), .int .i64 (fromI (c 7)), .int .i64 (fromI (c 8)), .int .i64 (fromI (c 9)), .int .i64 (toI (c 0)), .int .i64 (toI (c 1)), .int .i64 (toI (c 2)), .int .i64 (toI (c 3)), .int .i64 (toI (c 4)), .int .i64 (toI (c 5)), .int .i64 (toI (c 6)), .int .i64 (toI (c 7)), .int .i64 (toI (c 8)), .int .i64 (toI (c 9)), .bool (c 0).isSome, .bool (c 1).isSome, .bool (c 2).isSome, .bool (c 3).isSome, .bool (c 4).isSome, .bool (c 5).isSome, .bool (c 6).isSome, .bool (c 7).isSome, .bool (c 8).isSome, .bool (c 9).isSome] 118)) w.heap.size #[.int .i64 N.h.k, .int .u8 N.h.c, .int .u64 N.h.s0, .int .u64 N.h.s1, .int .u64 N.h.s2, .int .u64 N.h.s3, .int .i64 N.h.n, .int .i64 N.h.mn, .int .i64 N.h.mx, S] 27 := (Blk.new w _ _).alloc _
 have hb1 : Blk ((w.alloc (.cells #[.int .i64 N.h.k, .int .u8 N.h.c, .int .u64 N.h.s0, .int .u64 N.h.s1, .int .u64 N.h.s2, .int .u64 N.h.s3, .int .i64 N.h.n, .int .i64 N.h.mn, .int .i64 N.h.mx, S] 27)).alloc (.cells #[.int .i64 (fromI (c 0)), .int .i64 (fromI (c 1)), .int .i64 (fromI (c 2)), .int .i64 (fromI (c 3)), .int .i64 (fromI (c 4)), .int .i64 (fromI (c 5)), .int .i64 (fromI (c 6)), .int .i64 (fromI (c 7)), .int .i64 (fromI (c 8)), .int .i64 (fromI (c 9)), .int .i64 (toI (c 0)), .int .i64 (toI (c 1)), .int .i64 (toI (c 2)), .int .i64 (toI (c 3)), .int .i64 (toI (c 4)), .int .i64 (toI (c 5)), .int .i64 (toI (c 6)), .int .i64 (toI (c 7)), .int .i64 (toI (c 8)), .int .i64 (toI (c 9)), .bool (c 0).isSome, .bool (c 1).isSome, .bool (c 2).isSome, .bool (c 3).isSome, .bool (c 4).isSome, .bool (c 5).isSome, .bool (c 6).isSome, .bool (c 7).isSome, .bool (c 8).isSome, .bool (c 9).isSome] 118)) (w.heap.size + 1) #[.int .i64 (fromI (c 0)), .int .i64 (fromI (c 1)), .int .i64 (fromI (c 2)), .int .i64 (fromI (c 3)), .int .i64 (fromI (c 4)), .int .i64 (fromI (c 5)), .int .i64 (fromI (c 6)), .int .i64 (fromI (c 7)), .int .i64 (fromI (c 8)), .int .i64 (fromI (c 9)), .int .i64 (toI (c 0)), .int .i64 (toI (c 1)), .int .i64 (toI (c 2)), .int .i64 (toI (c 3)), .int .i64 (toI (c 4)), .int .i64 (toI (c 5)), .int .i64 (toI (c 6)), .int .i64 (toI (c 7)), .int .i64 (toI (c 8)), .int .i64 (toI (c 9)), .bool (c 0).isSome, .bool (c 1).isSome, .bool (c 2).isSome, .bool (c 3).isSome, .bool (c 4).isSome, .bool (c 5).isSome, .bool (c 6).isSome, .bool (c 7).isSome, .bool (c 8).isSome, .bool (c 9).isSome] 118 := Blk.new' (by simp) _ _
 have hbp := (hb.alloc (.cells #[.int .i64 N.h.k, .int .u8 N.h.c, .int .u64 N.h.s0, .int .u64 N.h.s1, .int .u64 N.h.s2, .int .u64 N.h.s3, .int .i64 N.h.n, .int .i64 N.h.mn, .int .i64 N.h.mx, S] 27)).alloc (.cells #[.int .i64 (fromI (c 0)), .int .i64 (fromI (c 1)), .int .i64 (fromI (c 2)), .int .i64 (fromI (c 3)), .int .i64 (fromI (c 4)), .int .i64 (fromI (c 5)), .int .i64 (fromI (c 6)), .int .i64 (fromI (c 7)), .int .i64 (fromI (c 8)), .int .i64 (fromI (c 9)), .int .i64 (toI (c 0)), .int .i64 (toI (c 1)), .int .i64 (toI (c 2)), .int .i64 (toI (c 3)), .int .i64 (toI (c 4)), .int .i64 (toI (c 5)), .int .i64 (toI (c 6)), .int .i64 (toI (c 7)), .int .i64 (toI (c 8)), .int .i64 (toI (c 9)), .bool (c 0).isSome, .bool (c 1).isSome, .bool (c 2).isSome, .bool (c 3).isSome, .bool (c 4).isSome, .bool (c 5).isSome, .bool (c 6).isSome, .bool (c 7).isSome, .bool (c 8).isSome, .bool (c 9).isSome] 118)
 have hk : Keep Nb w ((w.alloc (.cells #[.int .i64 N.h.k, .int .u8 N.h.c, .int .u64 N.h.s0, .int .u64 N.h.s1, .int .u64 N.h.s2, .int .u64 N.h.s3, .int .i64 N.h.n, .int .i64 N.h.mn, .int .i64 N.h.mx, S] 27)).alloc (.cells #[.int .i64 (fromI (c 0)), .int .i64 (fromI (c 1)), .int .i64 (fromI (c 2)), .int .i64 (fromI (c 3)), .int .i64 (fromI (c 4)), .int .i64 (fromI (c 5)), .int .i64 (fromI (c 6)), .int .i64 (fromI (c 7)), .int .i64 (fromI (c 8)), .int .i64 (fromI (c 9)), .int .i64 (toI (c 0)), .int .i64 (toI (c 1)), .int .i64 (toI (c 2)), .int .i64 (toI (c 3)), .int .i64 (toI (c 4)), .int .i64 (toI (c 5)), .int .i64 (toI (c 6)), .int .i64 (toI (c 7)), .int .i64 (toI (c 8)), .int .i64 (toI (c 9)), .bool (c 0).isSome, .bool (c 1).isSome, .bool (c 2).isSome, .bool (c 3).isSome, .bool (c 4).isSome, .bool (c 5).isSome, .bool (c 6).isSome, .bool (c 7).isSome, .bool (c 8).isSome, .bool (c 9).isSome] 118)) := Keep.alloc (Keep.alloc (Keep.refl _ _) _) _
 have B0 := Lib.hid hb0
 have B1 := Lib.hid hb1
 have BP := Lib.hid hbp
 have HKW := Lib.hid hk
 clear hb0 hb1 hbp hk
 have j0 : (0 : Int) ≤ (q : Int) := by omega
 have k1 : (N.h.k == 1) = false := bne_int (by omega)
 have k2 : (N.h.k == 2) = false := bne_int (by omega)
 have k3 : (N.h.k == 3) = true := beq_int hk
 have k4 : (N.h.k == 4) = false := bne_int (by omega)
 have k5 : (N.h.k == 5) = false := bne_int (by omega)
 have k7 : (N.h.k == 7) = false := bne_int (by omega)
 have HKK := Lib.hid hk
 by_cases h : q < T.size
 ·have g1 : decide ((q : Int) < (T.size : Int)) = true := by simp; omega
  have g2 : decide (q < T.size) = true := by simp; omega
  have i1 : (q : Int) < (T.size : Int) := by omega
  obtain ⟨x, hx⟩ : ∃ x, T.toList[q]? = some x := ⟨_, List.getElem?_eq_getElem (by rw [toList_len]; omega)⟩
  obtain ⟨b0, e0⟩ := byte_at hx
  have HH := Lib.hid (fun wx => has_r N.h x.toNat (UInt8.toNat_lt x) wx)
  cases hh : hasH N.h x.toNat with
  | true =>
   rw [hh] at HH
   have HF : fitsF e N.h q c = some 1 := by rw [fitsF, if_neg (by omega), if_neg (by omega), if_pos hk, ← hT, hx]; simp only []; rw [if_pos hh]
   rw [HF]
   clear HF hb hc hT h6 hq hx hh h hk
   simp only [fitsI]
   simp only [Nd.row, cRow]
   go_enter Try.func90, Try.ntmps90
   go_upto_block 0 with fail
   generalize ((w.alloc (.cells #[.int .i64 N.h.k, .int .u8 N.h.c, .int .u64 N.h.s0, .int .u64 N.h.s1, .int .u64 N.h.s2, .int .u64 N.h.s3, .int .i64 N.h.n, .int .i64 N.h.mn, .int .i64 N.h.mx, S] 27)).alloc (.cells #[.int .i64 (fromI (c 0)), .int .i64 (fromI (c 1)), .int .i64 (fromI (c 2)), .int .i64 (fromI (c 3)), .int .i64 (fromI (c 4)), .int .i64 (fromI (c 5)), .int .i64 (fromI (c 6)), .int .i64 (fromI (c 7)), .int .i64 (fromI (c 8)), .int .i64 (fromI (c 9)), .int .i64 (toI (c 0)), .int .i64 (toI (c 1)), .int .i64 (toI (c 2)), .int .i64 (toI (c 3)), .int .i64 (toI (c 4)), .int .i64 (toI (c 5)), .int .i64 (toI (c 6)), .int .i64 (toI (c 7)), .int .i64 (toI (c 8)), .int .i64 (toI (c 9)), .bool (c 0).isSome, .bool (c 1).isSome, .bool (c 2).isSome, .bool (c 3).isSome, .bool (c 4).isSome, .bool (c 5).isSome, .bool (c 6).isSome, .bool (c 7).isSome, .bool (c 8).isSome, .bool (c 9).isSome] 118)) = w1 at B0 B1 BP HKW ⊢
   generalize w.heap.size = nb at B0 B1 ⊢
   have hN := B0.out
   have hC := B1.out
   have hP := BP.out
   have c0 := hP.cell 0 (u := .string T) rfl
   have c1 := hP.cell 1 (u := .bool e.bound) rfl
   have hl := hP.lt
   have nl := hN.lt
   have cl := hC.lt
   have n0 := hN.cell 0 (u := .int .i64 N.h.k) rfl
   have n1 := hN.cell 1 (u := .int .u8 N.h.c) rfl
   have n2 := hN.cell 2 (u := .int .u64 N.h.s0) rfl
   have n3 := hN.cell 3 (u := .int .u64 N.h.s1) rfl
   have n4 := hN.cell 4 (u := .int .u64 N.h.s2) rfl
   have n5 := hN.cell 5 (u := .int .u64 N.h.s3) rfl
   have n6 := hN.cell 6 (u := .int .i64 N.h.n) rfl
   clear hN hC hP
   rw [HKK.out] at n0
   go_wp2_with fail
   (refine wp_region_f [] (InX Nb _) (by kernel_rfl) (InX.mk (Keep.drew (Keep.refl _ _))) (fun hI => ?_))
   have xx : ∀ k, ¬ Nb k := fun _ h => h
   have hK0 : Keep Nb w1 w1.drew := (Keep.refl _ _).drew
   generalize w1.drew = x0 at hK0 hI ⊢
   (refine wpI_from 0 ?_; (iterate 40 ((first | (refine wpI_take (v := ?_) rfl (by kernel_rfl) (fun _ _ _ h => h) hI rfl ?_ ?_; rotate_left; (focus (rintro _ ⟨E, rfl⟩; go_simp; (try with_reducible rfl)))) | refine wpI_skip rfl (by kernel_rfl) (fun _ _ _ h => h) hI rfl ?_); simp only [Act.put, tk, Nat.reduceAdd])); refine wpI_till ?_)
   (refine wpF_one 40 rfl (by kernel_rfl) rfl (fun K hK => ?_))
   go_simp
   refine (HH.out _).mono ?_
   rintro y x1 ⟨he, hkn⟩
   subst he
   replace hK0 := Keep.trans hK0 hkn (fun _ _ h => h)
   clear hkn
   (refine hK _ _ (fun _ => InX.mk hK0) (fun hI => ?_); have hI := hI (by simp); clear hK K; try simp only [Act.put, tk])
   (refine wpI_from 41 ?_; (iterate 3 ((first | (refine wpI_take (v := ?_) rfl (by kernel_rfl) (fun _ _ _ h => h) hI rfl ?_ ?_; rotate_left; (focus (rintro _ ⟨E, rfl⟩; go_simp; (try with_reducible rfl)))) | refine wpI_skip rfl (by kernel_rfl) (fun _ _ _ h => h) hI rfl ?_); simp only [Act.put, tk, Nat.reduceAdd])); refine wpI_till ?_)
   (refine wpF_done (by kernel_rfl) ?_ _)
   go_wp2_with fail
   go_ret
   exact ⟨rfl, HKW.out.trans hK0 (fun _ _ h => h)⟩
  | false =>
   rw [hh] at HH
   have HF : fitsF e N.h q c = none := by rw [fitsF, if_neg (by omega), if_neg (by omega), if_pos hk, ← hT, hx]; simp only []; rw [if_neg (by rw [hh]; simp)]
   rw [HF]
   clear HF hb hc hT h6 hq hx hh h hk
   simp only [fitsI]
   simp only [Nd.row, cRow]
   go_enter Try.func90, Try.ntmps90
   go_upto_block 0 with fail
   generalize ((w.alloc (.cells #[.int .i64 N.h.k, .int .u8 N.h.c, .int .u64 N.h.s0, .int .u64 N.h.s1, .int .u64 N.h.s2, .int .u64 N.h.s3, .int .i64 N.h.n, .int .i64 N.h.mn, .int .i64 N.h.mx, S] 27)).alloc (.cells #[.int .i64 (fromI (c 0)), .int .i64 (fromI (c 1)), .int .i64 (fromI (c 2)), .int .i64 (fromI (c 3)), .int .i64 (fromI (c 4)), .int .i64 (fromI (c 5)), .int .i64 (fromI (c 6)), .int .i64 (fromI (c 7)), .int .i64 (fromI (c 8)), .int .i64 (fromI (c 9)), .int .i64 (toI (c 0)), .int .i64 (toI (c 1)), .int .i64 (toI (c 2)), .int .i64 (toI (c 3)), .int .i64 (toI (c 4)), .int .i64 (toI (c 5)), .int .i64 (toI (c 6)), .int .i64 (toI (c 7)), .int .i64 (toI (c 8)), .int .i64 (toI (c 9)), .bool (c 0).isSome, .bool (c 1).isSome, .bool (c 2).isSome, .bool (c 3).isSome, .bool (c 4).isSome, .bool (c 5).isSome, .bool (c 6).isSome, .bool (c 7).isSome, .bool (c 8).isSome, .bool (c 9).isSome] 118)) = w1 at B0 B1 BP HKW ⊢
   generalize w.heap.size = nb at B0 B1 ⊢
   have hN := B0.out
   have hC := B1.out
   have hP := BP.out
   have c0 := hP.cell 0 (u := .string T) rfl
   have c1 := hP.cell 1 (u := .bool e.bound) rfl
   have hl := hP.lt
   have nl := hN.lt
   have cl := hC.lt
   have n0 := hN.cell 0 (u := .int .i64 N.h.k) rfl
   have n1 := hN.cell 1 (u := .int .u8 N.h.c) rfl
   have n2 := hN.cell 2 (u := .int .u64 N.h.s0) rfl
   have n3 := hN.cell 3 (u := .int .u64 N.h.s1) rfl
   have n4 := hN.cell 4 (u := .int .u64 N.h.s2) rfl
   have n5 := hN.cell 5 (u := .int .u64 N.h.s3) rfl
   have n6 := hN.cell 6 (u := .int .i64 N.h.n) rfl
   clear hN hC hP
   rw [HKK.out] at n0
   go_wp2_with fail
   (refine wp_region_f [] (InX Nb _) (by kernel_rfl) (InX.mk (Keep.drew (Keep.refl _ _))) (fun hI => ?_))
   have xx : ∀ k, ¬ Nb k := fun _ h => h
   have hK0 : Keep Nb w1 w1.drew := (Keep.refl _ _).drew
   generalize w1.drew = x0 at hK0 hI ⊢
   (refine wpI_from 0 ?_; (iterate 40 ((first | (refine wpI_take (v := ?_) rfl (by kernel_rfl) (fun _ _ _ h => h) hI rfl ?_ ?_; rotate_left; (focus (rintro _ ⟨E, rfl⟩; go_simp; (try with_reducible rfl)))) | refine wpI_skip rfl (by kernel_rfl) (fun _ _ _ h => h) hI rfl ?_); simp only [Act.put, tk, Nat.reduceAdd])); refine wpI_till ?_)
   (refine wpF_one 40 rfl (by kernel_rfl) rfl (fun K hK => ?_))
   go_simp
   refine (HH.out _).mono ?_
   rintro y x1 ⟨he, hkn⟩
   subst he
   replace hK0 := Keep.trans hK0 hkn (fun _ _ h => h)
   clear hkn
   (refine hK _ _ (fun _ => InX.mk hK0) (fun hI => ?_); have hI := hI (by simp); clear hK K; try simp only [Act.put, tk])
   (refine wpI_from 41 ?_; (iterate 3 ((first | (refine wpI_take (v := ?_) rfl (by kernel_rfl) (fun _ _ _ h => h) hI rfl ?_ ?_; rotate_left; (focus (rintro _ ⟨E, rfl⟩; go_simp; (try with_reducible rfl)))) | refine wpI_skip rfl (by kernel_rfl) (fun _ _ _ h => h) hI rfl ?_); simp only [Act.put, tk, Nat.reduceAdd])); refine wpI_till ?_)
   (refine wpF_done (by kernel_rfl) ?_ _)
   go_wp2_with fail
   go_ret
   exact ⟨rfl, HKW.out.trans hK0 (fun _ _ h => h)⟩
 ·have g1 : decide ((q : Int) < (T.size : Int)) = false := by simp; omega
  have g2 : decide (q < T.size) = false := by simp; omega
  have hx : T.toList[q]? = none := List.getElem?_eq_none (by rw [toList_len]; omega)
  have HF : fitsF e N.h q c = none := by rw [fitsF, if_neg (by omega), if_neg (by omega), if_pos hk, ← hT, hx]
  rw [HF]
  clear HF hb hc hT h6 hq hx h hk
  simp only [fitsI]
  simp only [Nd.row, cRow]
  go_enter Try.func90, Try.ntmps90
  go_upto_block 0 with fail
  generalize ((w.alloc (.cells #[.int .i64 N.h.k, .int .u8 N.h.c, .int .u64 N.h.s0, .int .u64 N.h.s1, .int .u64 N.h.s2, .int .u64 N.h.s3, .int .i64 N.h.n, .int .i64 N.h.mn, .int .i64 N.h.mx, S] 27)).alloc (.cells #[.int .i64 (fromI (c 0)), .int .i64 (fromI (c 1)), .int .i64 (fromI (c 2)), .int .i64 (fromI (c 3)), .int .i64 (fromI (c 4)), .int .i64 (fromI (c 5)), .int .i64 (fromI (c 6)), .int .i64 (fromI (c 7)), .int .i64 (fromI (c 8)), .int .i64 (fromI (c 9)), .int .i64 (toI (c 0)), .int .i64 (toI (c 1)), .int .i64 (toI (c 2)), .int .i64 (toI (c 3)), .int .i64 (toI (c 4)), .int .i64 (toI (c 5)), .int .i64 (toI (c 6)), .int .i64 (toI (c 7)), .int .i64 (toI (c 8)), .int .i64 (toI (c 9)), .bool (c 0).isSome, .bool (c 1).isSome, .bool (c 2).isSome, .bool (c 3).isSome, .bool (c 4).isSome, .bool (c 5).isSome, .bool (c 6).isSome, .bool (c 7).isSome, .bool (c 8).isSome, .bool (c 9).isSome] 118)) = w1 at B0 B1 BP HKW ⊢
  generalize w.heap.size = nb at B0 B1 ⊢
  have hN := B0.out
  have hC := B1.out
  have hP := BP.out
  have c0 := hP.cell 0 (u := .string T) rfl
  have c1 := hP.cell 1 (u := .bool e.bound) rfl
  have hl := hP.lt
  have nl := hN.lt
  have cl := hC.lt
  have n0 := hN.cell 0 (u := .int .i64 N.h.k) rfl
  have n1 := hN.cell 1 (u := .int .u8 N.h.c) rfl
  have n2 := hN.cell 2 (u := .int .u64 N.h.s0) rfl
  have n3 := hN.cell 3 (u := .int .u64 N.h.s1) rfl
  have n4 := hN.cell 4 (u := .int .u64 N.h.s2) rfl
  have n5 := hN.cell 5 (u := .int .u64 N.h.s3) rfl
  have n6 := hN.cell 6 (u := .int .i64 N.h.n) rfl
  clear hN hC hP
  rw [HKK.out] at n0
  go_wp2_with fail
  (refine wp_region_f [] (InX Nb _) (by kernel_rfl) (InX.mk (Keep.drew (Keep.refl _ _))) (fun hI => ?_))
  have xx : ∀ k, ¬ Nb k := fun _ h => h
  have hK0 : Keep Nb w1 w1.drew := (Keep.refl _ _).drew
  generalize w1.drew = x0 at hK0 hI ⊢
  (refine wpI_from 0 ?_; (iterate 44 ((first | (refine wpI_take (v := ?_) rfl (by kernel_rfl) (fun _ _ _ h => h) hI rfl ?_ ?_; rotate_left; (focus (rintro _ ⟨E, rfl⟩; go_simp; (try with_reducible rfl)))) | refine wpI_skip rfl (by kernel_rfl) (fun _ _ _ h => h) hI rfl ?_); simp only [Act.put, tk, Nat.reduceAdd])); refine wpI_till ?_)
  (refine wpF_done (by kernel_rfl) ?_ _)
  go_wp2_with fail
  go_ret
  exact ⟨rfl, HKW.out.trans hK0 (fun _ _ h => h)⟩
set_option maxRecDepth 100000 in
set_option maxHeartbeats 2000000 in
theorem qfits_4 (hk : N.h.k = 4) : Calls Try.prog 90 #[.pointer (some ⟨p, 0, none⟩), .agg (Nd.row N S), .int .i64 (q : Int), .agg (cRow c)] w fun x w' => x = .returned (.int .i64 (fitsI (fitsF e N.h q c))) ∧ Keep Nb w w' := by
 have hb0 : Blk ((w.alloc (.cells #[.int .i64 N.h.k, .int .u8 N.h.c, .int .u64 N.h.s0, .int .u64 N.h.s1, .int .u64 N.h.s2, .int .u64 N.h.s3, .int .i64 N.h.n, .int .i64 N.h.mn, .int .i64 N.h.mx, S] 27)).alloc (.cells #[.int .i64 (fromI (c 0)), .int .i64 (fromI (c 1)), .int .i64 (fromI (c 2)), .int .i64 (fromI (c 3)), .int .i64 (fromI (c 4)), .int .i64 (fromI (c 5)), .int .i64 (fromI (c 6)), .int .i64 (fromI (c 7)), .int .i64 (fromI (c 8)), .int .i64 (fromI (c 9)), .int .i64 (toI (c 0)), .int .i64 (toI (c 1)), .int .i64 (toI (c 2)), .int .i64 (toI (c 3)), .int .i64 (toI (c 4)), .int .i64 (toI (c 5)), .int .i64 (toI (c 6)), .int .i64 (toI (c 7)), .int .i64 (toI (c 8)), .int .i64 (toI (c 9)), .bool (c 0).isSome, .bool (c 1).isSome, .bool (c 2).isSome, .bool (c 3).isSome, .bool (c 4).isSome, .bool (c 5).isSome, .bool (c 6).isSome, .bool (c 7).isSome, .bool (c 8).isSome, .bool (c 9).isSome] 118)) w.heap.size #[.int .i64 N.h.k, .int .u8 N.h.c, .int .u64 N.h.s0, .int .u64 N.h.s1, .int .u64 N.h.s2, .int .u64 N.h.s3, .int .i64 N.h.n, .int .i64 N.h.mn, .int .i64 N.h.mx, S] 27 := (Blk.new w _ _).alloc _
 have hb1 : Blk ((w.alloc (.cells #[.int .i64 N.h.k, .int .u8 N.h.c, .int .u64 N.h.s0, .int .u64 N.h.s1, .int .u64 N.h.s2, .int .u64 N.h.s3, .int .i64 N.h.n, .int .i64 N.h.mn, .int .i64 N.h.mx, S] 27)).alloc (.cells #[.int .i64 (fromI (c 0)), .int .i64 (fromI (c 1)), .int .i64 (fromI (c 2)), .int .i64 (fromI (c 3)), .int .i64 (fromI (c 4)), .int .i64 (fromI (c 5)), .int .i64 (fromI (c 6)), .int .i64 (fromI (c 7)), .int .i64 (fromI (c 8)), .int .i64 (fromI (c 9)), .int .i64 (toI (c 0)), .int .i64 (toI (c 1)), .int .i64 (toI (c 2)), .int .i64 (toI (c 3)), .int .i64 (toI (c 4)), .int .i64 (toI (c 5)), .int .i64 (toI (c 6)), .int .i64 (toI (c 7)), .int .i64 (toI (c 8)), .int .i64 (toI (c 9)), .bool (c 0).isSome, .bool (c 1).isSome, .bool (c 2).isSome, .bool (c 3).isSome, .bool (c 4).isSome, .bool (c 5).isSome, .bool (c 6).isSome, .bool (c 7).isSome, .bool (c 8).isSome, .bool (c 9).isSome] 118)) (w.heap.size + 1) #[.int .i64 (fromI (c 0)), .int .i64 (fromI (c 1)), .int .i64 (fromI (c 2)), .int .i64 (fromI (c 3)), .int .i64 (fromI (c 4)), .int .i64 (fromI (c 5)), .int .i64 (fromI (c 6)), .int .i64 (fromI (c 7)), .int .i64 (fromI (c 8)), .int .i64 (fromI (c 9)), .int .i64 (toI (c 0)), .int .i64 (toI (c 1)), .int .i64 (toI (c 2)), .int .i64 (toI (c 3)), .int .i64 (toI (c 4)), .int .i64 (toI (c 5)), .int .i64 (toI (c 6)), .int .i64 (toI (c 7)), .int .i64 (toI (c 8)), .int .i64 (toI (c 9)), .bool (c 0).isSome, .bool (c 1).isSome, .bool (c 2).isSome, .bool (c 3).isSome, .bool (c 4).isSome, .bool (c 5).isSome, .bool (c 6).isSome, .bool (c 7).isSome, .bool (c 8).isSome, .bool (c 9).isSome] 118 := Blk.new' (by simp) _ _
 have hbp := (hb.alloc (.cells #[.int .i64 N.h.k, .int .u8 N.h.c, .int .u64 N.h.s0, .int .u64 N.h.s1, .int .u64 N.h.s2, .int .u64 N.h.s3, .int .i64 N.h.n, .int .i64 N.h.mn, .int .i64 N.h.mx, S] 27)).alloc (.cells #[.int .i64 (fromI (c 0)), .int .i64 (fromI (c 1)), .int .i64 (fromI (c 2)), .int .i64 (fromI (c 3)), .int .i64 (fromI (c 4)), .int .i64 (fromI (c 5)), .int .i64 (fromI (c 6)), .int .i64 (fromI (c 7)), .int .i64 (fromI (c 8)), .int .i64 (fromI (c 9)), .int .i64 (toI (c 0)), .int .i64 (toI (c 1)), .int .i64 (toI (c 2)), .int .i64 (toI (c 3)), .int .i64 (toI (c 4)), .int .i64 (toI (c 5)), .int .i64 (toI (c 6)), .int .i64 (toI (c 7)), .int .i64 (toI (c 8)), .int .i64 (toI (c 9)), .bool (c 0).isSome, .bool (c 1).isSome, .bool (c 2).isSome, .bool (c 3).isSome, .bool (c 4).isSome, .bool (c 5).isSome, .bool (c 6).isSome, .bool (c 7).isSome, .bool (c 8).isSome, .bool (c 9).isSome] 118)
 have hk : Keep Nb w ((w.alloc (.cells #[.int .i64 N.h.k, .int .u8 N.h.c, .int .u64 N.h.s0, .int .u64 N.h.s1, .int .u64 N.h.s2, .int .u64 N.h.s3, .int .i64 N.h.n, .int .i64 N.h.mn, .int .i64 N.h.mx, S] 27)).alloc (.cells #[.int .i64 (fromI (c 0)), .int .i64 (fromI (c 1)), .int .i64 (fromI (c 2)), .int .i64 (fromI (c 3)), .int .i64 (fromI (c 4)), .int .i64 (fromI (c 5)), .int .i64 (fromI (c 6)), .int .i64 (fromI (c 7)), .int .i64 (fromI (c 8)), .int .i64 (fromI (c 9)), .int .i64 (toI (c 0)), .int .i64 (toI (c 1)), .int .i64 (toI (c 2)), .int .i64 (toI (c 3)), .int .i64 (toI (c 4)), .int .i64 (toI (c 5)), .int .i64 (toI (c 6)), .int .i64 (toI (c 7)), .int .i64 (toI (c 8)), .int .i64 (toI (c 9)), .bool (c 0).isSome, .bool (c 1).isSome, .bool (c 2).isSome, .bool (c 3).isSome, .bool (c 4).isSome, .bool (c 5).isSome, .bool (c 6).isSome, .bool (c 7).isSome, .bool (c 8).isSome, .bool (c 9).isSome] 118)) := Keep.alloc (Keep.alloc (Keep.refl _ _) _) _
 have B0 := Lib.hid hb0
 have B1 := Lib.hid hb1
 have BP := Lib.hid hbp
 have HKW := Lib.hid hk
 clear hb0 hb1 hbp hk
 have j0 : (0 : Int) ≤ (q : Int) := by omega
 have k1 : (N.h.k == 1) = false := bne_int (by omega)
 have k2 : (N.h.k == 2) = false := bne_int (by omega)
 have k3 : (N.h.k == 3) = false := bne_int (by omega)
 have k4 : (N.h.k == 4) = true := beq_int hk
 have k5 : (N.h.k == 5) = false := bne_int (by omega)
 have k7 : (N.h.k == 7) = false := bne_int (by omega)
 have HKK := Lib.hid hk
 by_cases h0 : q = 0
 ·have m0 : ((q : Int) == 0) = true := beq_int (by omega)
  cases hbd : e.bound with
  | true =>
   have HF : fitsF e N.h q c = none := by rw [fitsF, if_neg (by omega), if_neg (by omega), if_neg (by omega), if_pos hk, if_neg (by rw [hbd]; simp)]
   have HBD := Lib.hid hbd
   rw [HF]
   clear HF hb hc hT h6 hq h0 hk hbd
   simp only [fitsI]
   simp only [Nd.row, cRow]
   go_enter Try.func90, Try.ntmps90
   go_upto_block 0 with fail
   generalize ((w.alloc (.cells #[.int .i64 N.h.k, .int .u8 N.h.c, .int .u64 N.h.s0, .int .u64 N.h.s1, .int .u64 N.h.s2, .int .u64 N.h.s3, .int .i64 N.h.n, .int .i64 N.h.mn, .int .i64 N.h.mx, S] 27)).alloc (.cells #[.int .i64 (fromI (c 0)), .int .i64 (fromI (c 1)), .int .i64 (fromI (c 2)), .int .i64 (fromI (c 3)), .int .i64 (fromI (c 4)), .int .i64 (fromI (c 5)), .int .i64 (fromI (c 6)), .int .i64 (fromI (c 7)), .int .i64 (fromI (c 8)), .int .i64 (fromI (c 9)), .int .i64 (toI (c 0)), .int .i64 (toI (c 1)), .int .i64 (toI (c 2)), .int .i64 (toI (c 3)), .int .i64 (toI (c 4)), .int .i64 (toI (c 5)), .int .i64 (toI (c 6)), .int .i64 (toI (c 7)), .int .i64 (toI (c 8)), .int .i64 (toI (c 9)), .bool (c 0).isSome, .bool (c 1).isSome, .bool (c 2).isSome, .bool (c 3).isSome, .bool (c 4).isSome, .bool (c 5).isSome, .bool (c 6).isSome, .bool (c 7).isSome, .bool (c 8).isSome, .bool (c 9).isSome] 118)) = w1 at B0 B1 BP HKW ⊢
   generalize w.heap.size = nb at B0 B1 ⊢
   have hN := B0.out
   have hC := B1.out
   have hP := BP.out
   have c0 := hP.cell 0 (u := .string T) rfl
   have c1 := hP.cell 1 (u := .bool e.bound) rfl
   have hl := hP.lt
   have nl := hN.lt
   have cl := hC.lt
   have n0 := hN.cell 0 (u := .int .i64 N.h.k) rfl
   have n1 := hN.cell 1 (u := .int .u8 N.h.c) rfl
   have n2 := hN.cell 2 (u := .int .u64 N.h.s0) rfl
   have n3 := hN.cell 3 (u := .int .u64 N.h.s1) rfl
   have n4 := hN.cell 4 (u := .int .u64 N.h.s2) rfl
   have n5 := hN.cell 5 (u := .int .u64 N.h.s3) rfl
   have n6 := hN.cell 6 (u := .int .i64 N.h.n) rfl
   clear hN hC hP
   rw [HKK.out] at n0
   rw [HBD.out] at c1
   go_wp2_with fail
   go_ret
   exact ⟨rfl, HKW.out⟩
  | false =>
   have HF : fitsF e N.h q c = some 0 := by rw [fitsF, if_neg (by omega), if_neg (by omega), if_neg (by omega), if_pos hk, if_pos ⟨h0, hbd⟩]
   have HBD := Lib.hid hbd
   rw [HF]
   clear HF hb hc hT h6 hq h0 hk hbd
   simp only [fitsI]
   simp only [Nd.row, cRow]
   go_enter Try.func90, Try.ntmps90
   go_upto_block 0 with fail
   generalize ((w.alloc (.cells #[.int .i64 N.h.k, .int .u8 N.h.c, .int .u64 N.h.s0, .int .u64 N.h.s1, .int .u64 N.h.s2, .int .u64 N.h.s3, .int .i64 N.h.n, .int .i64 N.h.mn, .int .i64 N.h.mx, S] 27)).alloc (.cells #[.int .i64 (fromI (c 0)), .int .i64 (fromI (c 1)), .int .i64 (fromI (c 2)), .int .i64 (fromI (c 3)), .int .i64 (fromI (c 4)), .int .i64 (fromI (c 5)), .int .i64 (fromI (c 6)), .int .i64 (fromI (c 7)), .int .i64 (fromI (c 8)), .int .i64 (fromI (c 9)), .int .i64 (toI (c 0)), .int .i64 (toI (c 1)), .int .i64 (toI (c 2)), .int .i64 (toI (c 3)), .int .i64 (toI (c 4)), .int .i64 (toI (c 5)), .int .i64 (toI (c 6)), .int .i64 (toI (c 7)), .int .i64 (toI (c 8)), .int .i64 (toI (c 9)), .bool (c 0).isSome, .bool (c 1).isSome, .bool (c 2).isSome, .bool (c 3).isSome, .bool (c 4).isSome, .bool (c 5).isSome, .bool (c 6).isSome, .bool (c 7).isSome, .bool (c 8).isSome, .bool (c 9).isSome] 118)) = w1 at B0 B1 BP HKW ⊢
   generalize w.heap.size = nb at B0 B1 ⊢
   have hN := B0.out
   have hC := B1.out
   have hP := BP.out
   have c0 := hP.cell 0 (u := .string T) rfl
   have c1 := hP.cell 1 (u := .bool e.bound) rfl
   have hl := hP.lt
   have nl := hN.lt
   have cl := hC.lt
   have n0 := hN.cell 0 (u := .int .i64 N.h.k) rfl
   have n1 := hN.cell 1 (u := .int .u8 N.h.c) rfl
   have n2 := hN.cell 2 (u := .int .u64 N.h.s0) rfl
   have n3 := hN.cell 3 (u := .int .u64 N.h.s1) rfl
   have n4 := hN.cell 4 (u := .int .u64 N.h.s2) rfl
   have n5 := hN.cell 5 (u := .int .u64 N.h.s3) rfl
   have n6 := hN.cell 6 (u := .int .i64 N.h.n) rfl
   clear hN hC hP
   rw [HKK.out] at n0
   rw [HBD.out] at c1
   go_wp2_with fail
   go_ret
   exact ⟨rfl, HKW.out⟩
 ·have m0 : ((q : Int) == 0) = false := bne_int (by omega)
  have m1 : ¬ ((q : Int) = 0) := by omega
  have m2 : ¬ q = 0 := h0
  have HF : fitsF e N.h q c = none := by rw [fitsF, if_neg (by omega), if_neg (by omega), if_neg (by omega), if_pos hk, if_neg (fun hh => h0 hh.1)]
  rw [HF]
  clear HF hb hc hT h6 hq h0 hk
  simp only [fitsI]
  simp only [Nd.row, cRow]
  go_enter Try.func90, Try.ntmps90
  go_upto_block 0 with fail
  generalize ((w.alloc (.cells #[.int .i64 N.h.k, .int .u8 N.h.c, .int .u64 N.h.s0, .int .u64 N.h.s1, .int .u64 N.h.s2, .int .u64 N.h.s3, .int .i64 N.h.n, .int .i64 N.h.mn, .int .i64 N.h.mx, S] 27)).alloc (.cells #[.int .i64 (fromI (c 0)), .int .i64 (fromI (c 1)), .int .i64 (fromI (c 2)), .int .i64 (fromI (c 3)), .int .i64 (fromI (c 4)), .int .i64 (fromI (c 5)), .int .i64 (fromI (c 6)), .int .i64 (fromI (c 7)), .int .i64 (fromI (c 8)), .int .i64 (fromI (c 9)), .int .i64 (toI (c 0)), .int .i64 (toI (c 1)), .int .i64 (toI (c 2)), .int .i64 (toI (c 3)), .int .i64 (toI (c 4)), .int .i64 (toI (c 5)), .int .i64 (toI (c 6)), .int .i64 (toI (c 7)), .int .i64 (toI (c 8)), .int .i64 (toI (c 9)), .bool (c 0).isSome, .bool (c 1).isSome, .bool (c 2).isSome, .bool (c 3).isSome, .bool (c 4).isSome, .bool (c 5).isSome, .bool (c 6).isSome, .bool (c 7).isSome, .bool (c 8).isSome, .bool (c 9).isSome] 118)) = w1 at B0 B1 BP HKW ⊢
  generalize w.heap.size = nb at B0 B1 ⊢
  have hN := B0.out
  have hC := B1.out
  have hP := BP.out
  have c0 := hP.cell 0 (u := .string T) rfl
  have c1 := hP.cell 1 (u := .bool e.bound) rfl
  have hl := hP.lt
  have nl := hN.lt
  have cl := hC.lt
  have n0 := hN.cell 0 (u := .int .i64 N.h.k) rfl
  have n1 := hN.cell 1 (u := .int .u8 N.h.c) rfl
  have n2 := hN.cell 2 (u := .int .u64 N.h.s0) rfl
  have n3 := hN.cell 3 (u := .int .u64 N.h.s1) rfl
  have n4 := hN.cell 4 (u := .int .u64 N.h.s2) rfl
  have n5 := hN.cell 5 (u := .int .u64 N.h.s3) rfl
  have n6 := hN.cell 6 (u := .int .i64 N.h.n) rfl
  clear hN hC hP
  rw [HKK.out] at n0
  go_wp2_with fail
  go_ret
  exact ⟨rfl, HKW.out⟩
set_option maxRecDepth 100000 in
set_option maxHeartbeats 2000000 in
theorem qfits_5 (hk : N.h.k = 5) : Calls Try.prog 90 #[.pointer (some ⟨p, 0, none⟩), .agg (Nd.row N S), .int .i64 (q : Int), .agg (cRow c)] w fun x w' => x = .returned (.int .i64 (fitsI (fitsF e N.h q c))) ∧ Keep Nb w w' := by
 have hb0 : Blk ((w.alloc (.cells #[.int .i64 N.h.k, .int .u8 N.h.c, .int .u64 N.h.s0, .int .u64 N.h.s1, .int .u64 N.h.s2, .int .u64 N.h.s3, .int .i64 N.h.n, .int .i64 N.h.mn, .int .i64 N.h.mx, S] 27)).alloc (.cells #[.int .i64 (fromI (c 0)), .int .i64 (fromI (c 1)), .int .i64 (fromI (c 2)), .int .i64 (fromI (c 3)), .int .i64 (fromI (c 4)), .int .i64 (fromI (c 5)), .int .i64 (fromI (c 6)), .int .i64 (fromI (c 7)), .int .i64 (fromI (c 8)), .int .i64 (fromI (c 9)), .int .i64 (toI (c 0)), .int .i64 (toI (c 1)), .int .i64 (toI (c 2)), .int .i64 (toI (c 3)), .int .i64 (toI (c 4)), .int .i64 (toI (c 5)), .int .i64 (toI (c 6)), .int .i64 (toI (c 7)), .int .i64 (toI (c 8)), .int .i64 (toI (c 9)), .bool (c 0).isSome, .bool (c 1).isSome, .bool (c 2).isSome, .bool (c 3).isSome, .bool (c 4).isSome, .bool (c 5).isSome, .bool (c 6).isSome, .bool (c 7).isSome, .bool (c 8).isSome, .bool (c 9).isSome] 118)) w.heap.size #[.int .i64 N.h.k, .int .u8 N.h.c, .int .u64 N.h.s0, .int .u64 N.h.s1, .int .u64 N.h.s2, .int .u64 N.h.s3, .int .i64 N.h.n, .int .i64 N.h.mn, .int .i64 N.h.mx, S] 27 := (Blk.new w _ _).alloc _
 have hb1 : Blk ((w.alloc (.cells #[.int .i64 N.h.k, .int .u8 N.h.c, .int .u64 N.h.s0, .int .u64 N.h.s1, .int .u64 N.h.s2, .int .u64 N.h.s3, .int .i64 N.h.n, .int .i64 N.h.mn, .int .i64 N.h.mx, S] 27)).alloc (.cells #[.int .i64 (fromI (c 0)), .int .i64 (fromI (c 1)), .int .i64 (fromI (c 2)), .int .i64 (fromI (c 3)), .int .i64 (fromI (c 4)), .int .i64 (fromI (c 5)), .int .i64 (fromI (c 6)), .int .i64 (fromI (c 7)), .int .i64 (fromI (c 8)), .int .i64 (fromI (c 9)), .int .i64 (toI (c 0)), .int .i64 (toI (c 1)), .int .i64 (toI (c 2)), .int .i64 (toI (c 3)), .int .i64 (toI (c 4)), .int .i64 (toI (c 5)), .int .i64 (toI (c 6)), .int .i64 (toI (c 7)), .int .i64 (toI (c 8)), .int .i64 (toI (c 9)), .bool (c 0).isSome, .bool (c 1).isSome, .bool (c 2).isSome, .bool (c 3).isSome, .bool (c 4).isSome, .bool (c 5).isSome, .bool (c 6).isSome, .bool (c 7).isSome, .bool (c 8).isSome, .bool (c 9).isSome] 118)) (w.heap.size + 1) #[.int .i64 (fromI (c 0)), .int .i64 (fromI (c 1)), .int .i64 (fromI (c 2)), .int .i64 (fromI (c 3)), .int .i64 (fromI (c 4)), .int .i64 (fromI (c 5)), .int .i64 (fromI (c 6)), .int .i64 (fromI (c 7)), .int .i64 (fromI (c 8)), .int .i64 (fromI (c 9)), .int .i64 (toI (c 0)), .int .i64 (toI (c 1)), .int .i64 (toI (c 2)), .int .i64 (toI (c 3)), .int .i64 (toI (c 4)), .int .i64 (toI (c 5)), .int .i64 (toI (c 6)), .int .i64 (toI (c 7)), .int .i64 (toI (c 8)), .int .i64 (toI (c 9)), .bool (c 0).isSome, .bool (c 1).isSome, .bool (c 2).isSome, .bool (c 3).isSome, .bool (c 4).isSome, .bool (c 5).isSome, .bool (c 6).isSome, .bool (c 7).isSome, .bool (c 8).isSome, .bool (c 9).isSome] 118 := Blk.new' (by simp) _ _
 have hbp := (hb.alloc (.cells #[.int .i64 N.h.k, .int .u8 N.h.c, .int .u64 N.h.s0, .int .u64 N.h.s1, .int .u64 N.h.s2, .int .u64 N.h.s3, .int .i64 N.h.n, .int .i64 N.h.mn, .int .i64 N.h.mx, S] 27)).alloc (.cells #[.int .i64 (fromI (c 0)), .int .i64 (fromI (c 1)), .int .i64 (fromI (c 2)), .int .i64 (fromI (c 3)), .int .i64 (fromI (c 4)), .int .i64 (fromI (c 5)), .int .i64 (fromI (c 6)), .int .i64 (fromI (c 7)), .int .i64 (fromI (c 8)), .int .i64 (fromI (c 9)), .int .i64 (toI (c 0)), .int .i64 (toI (c 1)), .int .i64 (toI (c 2)), .int .i64 (toI (c 3)), .int .i64 (toI (c 4)), .int .i64 (toI (c 5)), .int .i64 (toI (c 6)), .int .i64 (toI (c 7)), .int .i64 (toI (c 8)), .int .i64 (toI (c 9)), .bool (c 0).isSome, .bool (c 1).isSome, .bool (c 2).isSome, .bool (c 3).isSome, .bool (c 4).isSome, .bool (c 5).isSome, .bool (c 6).isSome, .bool (c 7).isSome, .bool (c 8).isSome, .bool (c 9).isSome] 118)
 have hk : Keep Nb w ((w.alloc (.cells #[.int .i64 N.h.k, .int .u8 N.h.c, .int .u64 N.h.s0, .int .u64 N.h.s1, .int .u64 N.h.s2, .int .u64 N.h.s3, .int .i64 N.h.n, .int .i64 N.h.mn, .int .i64 N.h.mx, S] 27)).alloc (.cells #[.int .i64 (fromI (c 0)), .int .i64 (fromI (c 1)), .int .i64 (fromI (c 2)), .int .i64 (fromI (c 3)), .int .i64 (fromI (c 4)), .int .i64 (fromI (c 5)), .int .i64 (fromI (c 6)), .int .i64 (fromI (c 7)), .int .i64 (fromI (c 8)), .int .i64 (fromI (c 9)), .int .i64 (toI (c 0)), .int .i64 (toI (c 1)), .int .i64 (toI (c 2)), .int .i64 (toI (c 3)), .int .i64 (toI (c 4)), .int .i64 (toI (c 5)), .int .i64 (toI (c 6)), .int .i64 (toI (c 7)), .int .i64 (toI (c 8)), .int .i64 (toI (c 9)), .bool (c 0).isSome, .bool (c 1).isSome, .bool (c 2).isSome, .bool (c 3).isSome, .bool (c 4).isSome, .bool (c 5).isSome, .bool (c 6).isSome, .bool (c 7).isSome, .bool (c 8).isSome, .bool (c 9).isSome] 118)) := Keep.alloc (Keep.alloc (Keep.refl _ _) _) _
 have B0 := Lib.hid hb0
 have B1 := Lib.hid hb1
 have BP := Lib.hid hbp
 have HKW := Lib.hid hk
 clear hb0 hb1 hbp hk
 have j0 : (0 : Int) ≤ (q : Int) := by omega
 have k1 : (N.h.k == 1) = false := bne_int (by omega)
 have k2 : (N.h.k == 2) = false := bne_int (by omega)
 have k3 : (N.h.k == 3) = false := bne_int (by omega)
 have k4 : (N.h.k == 4) = false := bne_int (by omega)
 have k5 : (N.h.k == 5) = true := beq_int hk
 have k7 : (N.h.k == 7) = false := bne_int (by omega)
 have HKK := Lib.hid hk
 by_cases h : q < T.size
 ·have g1 : ((q : Int) == (T.size : Int)) = false := bne_int (by omega)
  have g2 : ¬ ((q : Int) = (T.size : Int)) := by omega
  have g3 : ¬ (q = T.size) := by omega
  have HF : fitsF e N.h q c = none := by rw [fitsF, if_neg (by omega), if_neg (by omega), if_neg (by omega), if_neg (by omega), if_pos hk, ← hT, toList_len, if_pos h]
  rw [HF]
  clear HF hb hc hT h6 hq h hk
  simp only [fitsI]
  simp only [Nd.row, cRow]
  go_enter Try.func90, Try.ntmps90
  go_upto_block 0 with fail
  generalize ((w.alloc (.cells #[.int .i64 N.h.k, .int .u8 N.h.c, .int .u64 N.h.s0, .int .u64 N.h.s1, .int .u64 N.h.s2, .int .u64 N.h.s3, .int .i64 N.h.n, .int .i64 N.h.mn, .int .i64 N.h.mx, S] 27)).alloc (.cells #[.int .i64 (fromI (c 0)), .int .i64 (fromI (c 1)), .int .i64 (fromI (c 2)), .int .i64 (fromI (c 3)), .int .i64 (fromI (c 4)), .int .i64 (fromI (c 5)), .int .i64 (fromI (c 6)), .int .i64 (fromI (c 7)), .int .i64 (fromI (c 8)), .int .i64 (fromI (c 9)), .int .i64 (toI (c 0)), .int .i64 (toI (c 1)), .int .i64 (toI (c 2)), .int .i64 (toI (c 3)), .int .i64 (toI (c 4)), .int .i64 (toI (c 5)), .int .i64 (toI (c 6)), .int .i64 (toI (c 7)), .int .i64 (toI (c 8)), .int .i64 (toI (c 9)), .bool (c 0).isSome, .bool (c 1).isSome, .bool (c 2).isSome, .bool (c 3).isSome, .bool (c 4).isSome, .bool (c 5).isSome, .bool (c 6).isSome, .bool (c 7).isSome, .bool (c 8).isSome, .bool (c 9).isSome] 118)) = w1 at B0 B1 BP HKW ⊢
  generalize w.heap.size = nb at B0 B1 ⊢
  have hN := B0.out
  have hC := B1.out
  have hP := BP.out
  have c0 := hP.cell 0 (u := .string T) rfl
  have c1 := hP.cell 1 (u := .bool e.bound) rfl
  have hl := hP.lt
  have nl := hN.lt
  have cl := hC.lt
  have n0 := hN.cell 0 (u := .int .i64 N.h.k) rfl
  have n1 := hN.cell 1 (u := .int .u8 N.h.c) rfl
  have n2 := hN.cell 2 (u := .int .u64 N.h.s0) rfl
  have n3 := hN.cell 3 (u := .int .u64 N.h.s1) rfl
  have n4 := hN.cell 4 (u := .int .u64 N.h.s2) rfl
  have n5 := hN.cell 5 (u := .int .u64 N.h.s3) rfl
  have n6 := hN.cell 6 (u := .int .i64 N.h.n) rfl
  clear hN hC hP
  rw [HKK.out] at n0
  go_wp2_with fail
  go_ret
  exact ⟨rfl, HKW.out⟩
 ·have g1 : ((q : Int) == (T.size : Int)) = true := beq_int (by omega)
  have g3 : q = T.size := by omega
  have G3 := Lib.hid g3
  clear g3
  have HF : fitsF e N.h q c = some 0 := by rw [fitsF, if_neg (by omega), if_neg (by omega), if_neg (by omega), if_neg (by omega), if_pos hk, ← hT, toList_len, if_neg h]
  rw [HF]
  clear HF hb hc hT h6 hq h hk
  simp only [fitsI]
  simp only [Nd.row, cRow]
  go_enter Try.func90, Try.ntmps90
  go_upto_block 0 with fail
  generalize ((w.alloc (.cells #[.int .i64 N.h.k, .int .u8 N.h.c, .int .u64 N.h.s0, .int .u64 N.h.s1, .int .u64 N.h.s2, .int .u64 N.h.s3, .int .i64 N.h.n, .int .i64 N.h.mn, .int .i64 N.h.mx, S] 27)).alloc (.cells #[.int .i64 (fromI (c 0)), .int .i64 (fromI (c 1)), .int .i64 (fromI (c 2)), .int .i64 (fromI (c 3)), .int .i64 (fromI (c 4)), .int .i64 (fromI (c 5)), .int .i64 (fromI (c 6)), .int .i64 (fromI (c 7)), .int .i64 (fromI (c 8)), .int .i64 (fromI (c 9)), .int .i64 (toI (c 0)), .int .i64 (toI (c 1)), .int .i64 (toI (c 2)), .int .i64 (toI (c 3)), .int .i64 (toI (c 4)), .int .i64 (toI (c 5)), .int .i64 (toI (c 6)), .int .i64 (toI (c 7)), .int .i64 (toI (c 8)), .int .i64 (toI (c 9)), .bool (c 0).isSome, .bool (c 1).isSome, .bool (c 2).isSome, .bool (c 3).isSome, .bool (c 4).isSome, .bool (c 5).isSome, .bool (c 6).isSome, .bool (c 7).isSome, .bool (c 8).isSome, .bool (c 9).isSome] 118)) = w1 at B0 B1 BP HKW ⊢
  generalize w.heap.size = nb at B0 B1 ⊢
  have hN := B0.out
  have hC := B1.out
  have hP := BP.out
  have c0 := hP.cell 0 (u := .string T) rfl
  have c1 := hP.cell 1 (u := .bool e.bound) rfl
  have hl := hP.lt
  have nl := hN.lt
  have cl := hC.lt
  have n0 := hN.cell 0 (u := .int .i64 N.h.k) rfl
  have n1 := hN.cell 1 (u := .int .u8 N.h.c) rfl
  have n2 := hN.cell 2 (u := .int .u64 N.h.s0) rfl
  have n3 := hN.cell 3 (u := .int .u64 N.h.s1) rfl
  have n4 := hN.cell 4 (u := .int .u64 N.h.s2) rfl
  have n5 := hN.cell 5 (u := .int .u64 N.h.s3) rfl
  have n6 := hN.cell 6 (u := .int .i64 N.h.n) rfl
  clear hN hC hP
  rw [HKK.out] at n0
  go_wp2_with fail
  go_ret
  exact ⟨rfl, HKW.out⟩
set_option maxRecDepth 100000 in
set_option maxHeartbeats 2000000 in
theorem qfits_7 (hk : N.h.k = 7) (hn : 1 ≤ N.h.n ∧ N.h.n ≤ 9) : Calls Try.prog 90 #[.pointer (some ⟨p, 0, none⟩), .agg (Nd.row N S), .int .i64 (q : Int), .agg (cRow c)] w fun x w' => x = .returned (.int .i64 (fitsI (fitsF e N.h q c))) ∧ Keep Nb w w' := by
 have hb0 : Blk ((w.alloc (.cells #[.int .i64 N.h.k, .int .u8 N.h.c, .int .u64 N.h.s0, .int .u64 N.h.s1, .int .u64 N.h.s2, .int .u64 N.h.s3, .int .i64 N.h.n, .int .i64 N.h.mn, .int .i64 N.h.mx, S] 27)).alloc (.cells #[.int .i64 (fromI (c 0)), .int .i64 (fromI (c 1)), .int .i64 (fromI (c 2)), .int .i64 (fromI (c 3)), .int .i64 (fromI (c 4)), .int .i64 (fromI (c 5)), .int .i64 (fromI (c 6)), .int .i64 (fromI (c 7)), .int .i64 (fromI (c 8)), .int .i64 (fromI (c 9)), .int .i64 (toI (c 0)), .int .i64 (toI (c 1)), .int .i64 (toI (c 2)), .int .i64 (toI (c 3)), .int .i64 (toI (c 4)), .int .i64 (toI (c 5)), .int .i64 (toI (c 6)), .int .i64 (toI (c 7)), .int .i64 (toI (c 8)), .int .i64 (toI (c 9)), .bool (c 0).isSome, .bool (c 1).isSome, .bool (c 2).isSome, .bool (c 3).isSome, .bool (c 4).isSome, .bool (c 5).isSome, .bool (c 6).isSome, .bool (c 7).isSome, .bool (c 8).isSome, .bool (c 9).isSome] 118)) w.heap.size #[.int .i64 N.h.k, .int .u8 N.h.c, .int .u64 N.h.s0, .int .u64 N.h.s1, .int .u64 N.h.s2, .int .u64 N.h.s3, .int .i64 N.h.n, .int .i64 N.h.mn, .int .i64 N.h.mx, S] 27 := (Blk.new w _ _).alloc _
 have hb1 : Blk ((w.alloc (.cells #[.int .i64 N.h.k, .int .u8 N.h.c, .int .u64 N.h.s0, .int .u64 N.h.s1, .int .u64 N.h.s2, .int .u64 N.h.s3, .int .i64 N.h.n, .int .i64 N.h.mn, .int .i64 N.h.mx, S] 27)).alloc (.cells #[.int .i64 (fromI (c 0)), .int .i64 (fromI (c 1)), .int .i64 (fromI (c 2)), .int .i64 (fromI (c 3)), .int .i64 (fromI (c 4)), .int .i64 (fromI (c 5)), .int .i64 (fromI (c 6)), .int .i64 (fromI (c 7)), .int .i64 (fromI (c 8)), .int .i64 (fromI (c 9)), .int .i64 (toI (c 0)), .int .i64 (toI (c 1)), .int .i64 (toI (c 2)), .int .i64 (toI (c 3)), .int .i64 (toI (c 4)), .int .i64 (toI (c 5)), .int .i64 (toI (c 6)), .int .i64 (toI (c 7)), .int .i64 (toI (c 8)), .int .i64 (toI (c 9)), .bool (c 0).isSome, .bool (c 1).isSome, .bool (c 2).isSome, .bool (c 3).isSome, .bool (c 4).isSome, .bool (c 5).isSome, .bool (c 6).isSome, .bool (c 7).isSome, .bool (c 8).isSome, .bool (c 9).isSome] 118)) (w.heap.size + 1) #[.int .i64 (fromI (c 0)), .int .i64 (fromI (c 1)), .int .i64 (fromI (c 2)), .int .i64 (fromI (c 3)), .int .i64 (fromI (c 4)), .int .i64 (fromI (c 5)), .int .i64 (fromI (c 6)), .int .i64 (fromI (c 7)), .int .i64 (fromI (c 8)), .int .i64 (fromI (c 9)), .int .i64 (toI (c 0)), .int .i64 (toI (c 1)), .int .i64 (toI (c 2)), .int .i64 (toI (c 3)), .int .i64 (toI (c 4)), .int .i64 (toI (c 5)), .int .i64 (toI (c 6)), .int .i64 (toI (c 7)), .int .i64 (toI (c 8)), .int .i64 (toI (c 9)), .bool (c 0).isSome, .bool (c 1).isSome, .bool (c 2).isSome, .bool (c 3).isSome, .bool (c 4).isSome, .bool (c 5).isSome, .bool (c 6).isSome, .bool (c 7).isSome, .bool (c 8).isSome, .bool (c 9).isSome] 118 := Blk.new' (by simp) _ _
 have hbp := (hb.alloc (.cells #[.int .i64 N.h.k, .int .u8 N.h.c, .int .u64 N.h.s0, .int .u64 N.h.s1, .int .u64 N.h.s2, .int .u64 N.h.s3, .int .i64 N.h.n, .int .i64 N.h.mn, .int .i64 N.h.mx, S] 27)).alloc (.cells #[.int .i64 (fromI (c 0)), .int .i64 (fromI (c 1)), .int .i64 (fromI (c 2)), .int .i64 (fromI (c 3)), .int .i64 (fromI (c 4)), .int .i64 (fromI (c 5)), .int .i64 (fromI (c 6)), .int .i64 (fromI (c 7)), .int .i64 (fromI (c 8)), .int .i64 (fromI (c 9)), .int .i64 (toI (c 0)), .int .i64 (toI (c 1)), .int .i64 (toI (c 2)), .int .i64 (toI (c 3)), .int .i64 (toI (c 4)), .int .i64 (toI (c 5)), .int .i64 (toI (c 6)), .int .i64 (toI (c 7)), .int .i64 (toI (c 8)), .int .i64 (toI (c 9)), .bool (c 0).isSome, .bool (c 1).isSome, .bool (c 2).isSome, .bool (c 3).isSome, .bool (c 4).isSome, .bool (c 5).isSome, .bool (c 6).isSome, .bool (c 7).isSome, .bool (c 8).isSome, .bool (c 9).isSome] 118)
 have hk : Keep Nb w ((w.alloc (.cells #[.int .i64 N.h.k, .int .u8 N.h.c, .int .u64 N.h.s0, .int .u64 N.h.s1, .int .u64 N.h.s2, .int .u64 N.h.s3, .int .i64 N.h.n, .int .i64 N.h.mn, .int .i64 N.h.mx, S] 27)).alloc (.cells #[.int .i64 (fromI (c 0)), .int .i64 (fromI (c 1)), .int .i64 (fromI (c 2)), .int .i64 (fromI (c 3)), .int .i64 (fromI (c 4)), .int .i64 (fromI (c 5)), .int .i64 (fromI (c 6)), .int .i64 (fromI (c 7)), .int .i64 (fromI (c 8)), .int .i64 (fromI (c 9)), .int .i64 (toI (c 0)), .int .i64 (toI (c 1)), .int .i64 (toI (c 2)), .int .i64 (toI (c 3)), .int .i64 (toI (c 4)), .int .i64 (toI (c 5)), .int .i64 (toI (c 6)), .int .i64 (toI (c 7)), .int .i64 (toI (c 8)), .int .i64 (toI (c 9)), .bool (c 0).isSome, .bool (c 1).isSome, .bool (c 2).isSome, .bool (c 3).isSome, .bool (c 4).isSome, .bool (c 5).isSome, .bool (c 6).isSome, .bool (c 7).isSome, .bool (c 8).isSome, .bool (c 9).isSome] 118)) := Keep.alloc (Keep.alloc (Keep.refl _ _) _) _
 have B0 := Lib.hid hb0
 have B1 := Lib.hid hb1
 have BP := Lib.hid hbp
 have HKW := Lib.hid hk
 clear hb0 hb1 hbp hk
 have j0 : (0 : Int) ≤ (q : Int) := by omega
 have k1 : (N.h.k == 1) = false := bne_int (by omega)
 have k2 : (N.h.k == 2) = false := bne_int (by omega)
 have k3 : (N.h.k == 3) = false := bne_int (by omega)
 have k4 : (N.h.k == 4) = false := bne_int (by omega)
 have k5 : (N.h.k == 5) = false := bne_int (by omega)
 have k7 : (N.h.k == 7) = true := beq_int hk
 have HKK := Lib.hid hk
 obtain ⟨m, hm⟩ : ∃ m : Nat, N.h.n = (m : Int) := ⟨N.h.n.toNat, by omega⟩
 have hm10 : m < 10 := by omega
 have HM := Lib.hid hm
 have HM10 := Lib.hid hm10
 have i0 : (0 : Int) ≤ (m : Int) := by omega
 have i1 : (m : Int) < 10 := by omega
 cases hcm : c m with
 | none =>
  have HCM := Lib.hid hcm
  have HF : fitsF e N.h q c = none := by rw [fitsF, if_neg (by omega), if_neg (by omega), if_neg (by omega), if_neg (by omega), if_neg (by omega), if_pos hk, hm, Int.toNat_natCast, hcm]
  rw [HF]
  clear HF hb hc hT h6 hq hcm hm hk hn hm10
  simp only [fitsI]
  simp only [Nd.row, cRow]
  go_enter Try.func90, Try.ntmps90
  go_upto_block 0 with fail
  generalize ((w.alloc (.cells #[.int .i64 N.h.k, .int .u8 N.h.c, .int .u64 N.h.s0, .int .u64 N.h.s1, .int .u64 N.h.s2, .int .u64 N.h.s3, .int .i64 N.h.n, .int .i64 N.h.mn, .int .i64 N.h.mx, S] 27)).alloc (.cells #[.int .i64 (fromI (c 0)), .int .i64 (fromI (c 1)), .int .i64 (fromI (c 2)), .int .i64 (fromI (c 3)), .int .i64 (fromI (c 4)), .int .i64 (fromI (c 5)), .int .i64 (fromI (c 6)), .int .i64 (fromI (c 7)), .int .i64 (fromI (c 8)), .int .i64 (fromI (c 9)), .int .i64 (toI (c 0)), .int .i64 (toI (c 1)), .int .i64 (toI (c 2)), .int .i64 (toI (c 3)), .int .i64 (toI (c 4)), .int .i64 (toI (c 5)), .int .i64 (toI (c 6)), .int .i64 (toI (c 7)), .int .i64 (toI (c 8)), .int .i64 (toI (c 9)), .bool (c 0).isSome, .bool (c 1).isSome, .bool (c 2).isSome, .bool (c 3).isSome, .bool (c 4).isSome, .bool (c 5).isSome, .bool (c 6).isSome, .bool (c 7).isSome, .bool (c 8).isSome, .bool (c 9).isSome] 118)) = w1 at B0 B1 BP HKW ⊢
  generalize w.heap.size = nb at B0 B1 ⊢
  have hN := B0.out
  have hC := B1.out
  have hP := BP.out
  have c0 := hP.cell 0 (u := .string T) rfl
  have c1 := hP.cell 1 (u := .bool e.bound) rfl
  have hl := hP.lt
  have nl := hN.lt
  have cl := hC.lt
  have n0 := hN.cell 0 (u := .int .i64 N.h.k) rfl
  have n1 := hN.cell 1 (u := .int .u8 N.h.c) rfl
  have n2 := hN.cell 2 (u := .int .u64 N.h.s0) rfl
  have n3 := hN.cell 3 (u := .int .u64 N.h.s1) rfl
  have n4 := hN.cell 4 (u := .int .u64 N.h.s2) rfl
  have n5 := hN.cell 5 (u := .int .u64 N.h.s3) rfl
  have n6 := hN.cell 6 (u := .int .i64 N.h.n) rfl
  clear hN hC hP
  rw [HKK.out] at n0
  rw [HM.out] at n6
  have hm10 := HM10.out
  have cf := B1.out.cell m (cRow_from c m hm10)
  have ct := B1.out.cell (10 + m) (cRow_to c m hm10)
  have ch := B1.out.cell (20 + m) (cRow_has c m hm10)
  rw [HCM.out] at cf ct ch
  clear hm10
  simp only [fromI, toI, Option.isSome_none] at cf ct ch
  go_wp2_with fail
  go_ret
  exact ⟨rfl, HKW.out⟩
 | some ab =>
  obtain ⟨a, b⟩ := ab
  have HCM := Lib.hid hcm
  obtain ⟨hab, hbl⟩ := hc m a b hcm
  have hx : (T.extract a b).toList = (e.L.drop a).take (b - a) := by rw [ext_toList, hT]
  have hz := ext_size T a b hbl
  have hxl : ((e.L.drop a).take (b - a)).length = b - a := by rw [List.length_take, List.length_drop, ← hT, toList_len]; omega
  have hy : (T.extract q (q + (b - a))).toList = (e.L.drop q).take (b - a) := by rw [ext_toList, hT, show q + (b - a) - q = b - a by omega]
  have hyl : ((e.L.drop q).take (b - a)).length = min (b - a) (T.size - q) := by rw [List.length_take, List.length_drop, ← hT, toList_len]
  have v0 : (0 : Int) ≤ (a : Int) := by omega
  have v1 : (a : Int) ≤ (b : Int) := by omega
  have v2 : (b : Int) ≤ (T.size : Int) := by omega
  obtain ⟨t, ht⟩ : ∃ t, t = T.extract a b := ⟨_, rfl⟩
  have HTT := Lib.hid ht
  rw [← ht] at hz hx
  have j1 : (q : Int) ≤ (q : Int) + ((b - a : Nat) : Int) := by omega
  obtain ⟨k, hk9⟩ : ∃ k, k = b - a := ⟨_, rfl⟩
  rw [← hk9] at hz hx hxl hy hyl j1
  obtain ⟨m2, hm2⟩ : ∃ m2, T.size = q + m2 := ⟨T.size - q, by omega⟩
  have HW1 := Lib.hid (show wrap64 ((T.size : Int) - (q : Int)) = (m2 : Int) by unfold wrap64; omega)
  have HW2 := Lib.hid (show wrap64 ((q : Int) + (k : Int)) = (q : Int) + (k : Int) by unfold wrap64; omega)
  have hz2 : ((t.size : Nat) : Int) = (k : Int) := by omega
  have HFF : fitsF e N.h q c = if (e.L.drop q).take k = (e.L.drop a).take k then some k else none := by
   rw [fitsF, if_neg (by omega), if_neg (by omega), if_neg (by omega), if_neg (by omega), if_neg (by omega), if_pos hk, hm, Int.toNat_natCast, hcm, hk9]
  by_cases h1 : m2 < k
  ·have g1 : decide ((m2 : Int) < (k : Int)) = true := by simp; omega
   have g2 : decide (m2 < k) = true := by simp; omega
   have g3 : decide ((T.size : Int) - (q : Int) < (k : Int)) = true := by simp; omega
   have HF : fitsF e N.h q c = none := by rw [HFF, if_neg (fun h => by rw [h, hxl] at hyl; omega)]
   clear HFF
   rw [HF]
   clear HF hb hc hT h6 hq hcm hm hk hn hm10 hab hbl hx hxl hy hyl ht hk9 hm2 h1
   simp only [fitsI]
   simp only [Nd.row, cRow]
   go_enter Try.func90, Try.ntmps90
   go_upto_block 0 with fail
   generalize ((w.alloc (.cells #[.int .i64 N.h.k, .int .u8 N.h.c, .int .u64 N.h.s0, .int .u64 N.h.s1, .int .u64 N.h.s2, .int .u64 N.h.s3, .int .i64 N.h.n, .int .i64 N.h.mn, .int .i64 N.h.mx, S] 27)).alloc (.cells #[.int .i64 (fromI (c 0)), .int .i64 (fromI (c 1)), .int .i64 (fromI (c 2)), .int .i64 (fromI (c 3)), .int .i64 (fromI (c 4)), .int .i64 (fromI (c 5)), .int .i64 (fromI (c 6)), .int .i64 (fromI (c 7)), .int .i64 (fromI (c 8)), .int .i64 (fromI (c 9)), .int .i64 (toI (c 0)), .int .i64 (toI (c 1)), .int .i64 (toI (c 2)), .int .i64 (toI (c 3)), .int .i64 (toI (c 4)), .int .i64 (toI (c 5)), .int .i64 (toI (c 6)), .int .i64 (toI (c 7)), .int .i64 (toI (c 8)), .int .i64 (toI (c 9)), .bool (c 0).isSome, .bool (c 1).isSome, .bool (c 2).isSome, .bool (c 3).isSome, .bool (c 4).isSome, .bool (c 5).isSome, .bool (c 6).isSome, .bool (c 7).isSome, .bool (c 8).isSome, .bool (c 9).isSome] 118)) = w1 at B0 B1 BP HKW ⊢
   generalize w.heap.size = nb at B0 B1 ⊢
   have hN := B0.out
   have hC := B1.out
   have hP := BP.out
   have c0 := hP.cell 0 (u := .string T) rfl
   have c1 := hP.cell 1 (u := .bool e.bound) rfl
   have hl := hP.lt
   have nl := hN.lt
   have cl := hC.lt
   have n0 := hN.cell 0 (u := .int .i64 N.h.k) rfl
   have n1 := hN.cell 1 (u := .int .u8 N.h.c) rfl
   have n2 := hN.cell 2 (u := .int .u64 N.h.s0) rfl
   have n3 := hN.cell 3 (u := .int .u64 N.h.s1) rfl
   have n4 := hN.cell 4 (u := .int .u64 N.h.s2) rfl
   have n5 := hN.cell 5 (u := .int .u64 N.h.s3) rfl
   have n6 := hN.cell 6 (u := .int .i64 N.h.n) rfl
   clear hN hC hP
   rw [HKK.out] at n0
   rw [HM.out] at n6
   have hm10 := HM10.out
   have cf := B1.out.cell m (cRow_from c m hm10)
   have ct := B1.out.cell (10 + m) (cRow_to c m hm10)
   have ch := B1.out.cell (20 + m) (cRow_has c m hm10)
   rw [HCM.out] at cf ct ch
   clear hm10
   simp only [fromI, toI, Option.isSome_some] at cf ct ch
   go_wp2_with fail
   (refine wp_region_f [15] (InX Nb _) (by kernel_rfl) (InX.mk (Keep.drew (Keep.refl _ _))) (fun hI => ?_))
   have xx : ∀ k, ¬ Nb k := fun _ h => h
   have hK0 : Keep Nb w1 w1.drew := (Keep.refl _ _).drew
   generalize w1.drew = x0 at hK0 hI ⊢
   (refine wpI_from 0 ?_; (iterate 15 ((first | (refine wpI_take (v := ?_) rfl (by kernel_rfl) (fun _ _ _ h => h) hI rfl ?_ ?_; rotate_left; (focus (rintro _ ⟨E, rfl⟩; go_simp; (try with_reducible rfl)))) | refine wpI_skip rfl (by kernel_rfl) (fun _ _ _ h => h) hI rfl ?_); simp only [Act.put, tk, Nat.reduceAdd])); refine wpI_till ?_)
   (refine wpF_one 15 rfl (by kernel_rfl) rfl (fun K hK => ?_))
   go_simp
   (refine hK _ _ (fun h => absurd (by simp) h) (fun _ => ?_); clear hK K; try simp only [Act.put, tk])
   (refine wpF_done (by kernel_rfl) ?_ _)
   have c0x := hK0.cell c0 (fun h => h)
   rw [← HTT.out]
   have w1' := HW1.out
   have w2' := HW2.out
   go_wp2_with fail
   go_ret
   exact ⟨rfl, HKW.out.trans hK0 (fun _ _ h => h)⟩
  ·have g1 : decide ((m2 : Int) < (k : Int)) = false := by simp; omega
   have g2 : decide (m2 < k) = false := by simp; omega
   have g3 : decide ((T.size : Int) - (q : Int) < (k : Int)) = false := by simp; omega
   have j2 : (q : Int) + (k : Int) ≤ (T.size : Int) := by omega
   have j3 : (0 : Int) ≤ (q : Int) + (k : Int) := by omega
   by_cases h2 : (e.L.drop q).take k = (e.L.drop a).take k
   ·have hs : ((T.extract q (q + k)).toList == t.toList) = true := by rw [hx, hy, h2]; simp
    have HF : fitsF e N.h q c = some k := by rw [HFF, if_pos h2]
    clear HFF
    rw [HF]
    clear HF hb hc hT h6 hq hcm hm hk hn hm10 hab hbl hx hxl hy hyl ht hk9 hm2 h1 h2
    simp only [fitsI]
    simp only [Nd.row, cRow]
    go_enter Try.func90, Try.ntmps90
    go_upto_block 0 with fail
    generalize ((w.alloc (.cells #[.int .i64 N.h.k, .int .u8 N.h.c, .int .u64 N.h.s0, .int .u64 N.h.s1, .int .u64 N.h.s2, .int .u64 N.h.s3, .int .i64 N.h.n, .int .i64 N.h.mn, .int .i64 N.h.mx, S] 27)).alloc (.cells #[.int .i64 (fromI (c 0)), .int .i64 (fromI (c 1)), .int .i64 (fromI (c 2)), .int .i64 (fromI (c 3)), .int .i64 (fromI (c 4)), .int .i64 (fromI (c 5)), .int .i64 (fromI (c 6)), .int .i64 (fromI (c 7)), .int .i64 (fromI (c 8)), .int .i64 (fromI (c 9)), .int .i64 (toI (c 0)), .int .i64 (toI (c 1)), .int .i64 (toI (c 2)), .int .i64 (toI (c 3)), .int .i64 (toI (c 4)), .int .i64 (toI (c 5)), .int .i64 (toI (c 6)), .int .i64 (toI (c 7)), .int .i64 (toI (c 8)), .int .i64 (toI (c 9)), .bool (c 0).isSome, .bool (c 1).isSome, .bool (c 2).isSome, .bool (c 3).isSome, .bool (c 4).isSome, .bool (c 5).isSome, .bool (c 6).isSome, .bool (c 7).isSome, .bool (c 8).isSome, .bool (c 9).isSome] 118)) = w1 at B0 B1 BP HKW ⊢
    generalize w.heap.size = nb at B0 B1 ⊢
    have hN := B0.out
    have hC := B1.out
    have hP := BP.out
    have c0 := hP.cell 0 (u := .string T) rfl
    have c1 := hP.cell 1 (u := .bool e.bound) rfl
    have hl := hP.lt
    have nl := hN.lt
    have cl := hC.lt
    have n0 := hN.cell 0 (u := .int .i64 N.h.k) rfl
    have n1 := hN.cell 1 (u := .int .u8 N.h.c) rfl
    have n2 := hN.cell 2 (u := .int .u64 N.h.s0) rfl
    have n3 := hN.cell 3 (u := .int .u64 N.h.s1) rfl
    have n4 := hN.cell 4 (u := .int .u64 N.h.s2) rfl
    have n5 := hN.cell 5 (u := .int .u64 N.h.s3) rfl
    have n6 := hN.cell 6 (u := .int .i64 N.h.n) rfl
    clear hN hC hP
    rw [HKK.out] at n0
    rw [HM.out] at n6
    have hm10 := HM10.out
    have cf := B1.out.cell m (cRow_from c m hm10)
    have ct := B1.out.cell (10 + m) (cRow_to c m hm10)
    have ch := B1.out.cell (20 + m) (cRow_has c m hm10)
    rw [HCM.out] at cf ct ch
    clear hm10
    simp only [fromI, toI, Option.isSome_some] at cf ct ch
    go_wp2_with fail
    (refine wp_region_f [15] (InX Nb _) (by kernel_rfl) (InX.mk (Keep.drew (Keep.refl _ _))) (fun hI => ?_))
    have xx : ∀ k, ¬ Nb k := fun _ h => h
    have hK0 : Keep Nb w1 w1.drew := (Keep.refl _ _).drew
    generalize w1.drew = x0 at hK0 hI ⊢
    (refine wpI_from 0 ?_; (iterate 15 ((first | (refine wpI_take (v := ?_) rfl (by kernel_rfl) (fun _ _ _ h => h) hI rfl ?_ ?_; rotate_left; (focus (rintro _ ⟨E, rfl⟩; go_simp; (try with_reducible rfl)))) | refine wpI_skip rfl (by kernel_rfl) (fun _ _ _ h => h) hI rfl ?_); simp only [Act.put, tk, Nat.reduceAdd])); refine wpI_till ?_)
    (refine wpF_one 15 rfl (by kernel_rfl) rfl (fun K hK => ?_))
    go_simp
    (refine hK _ _ (fun h => absurd (by simp) h) (fun _ => ?_); clear hK K; try simp only [Act.put, tk])
    (refine wpF_done (by kernel_rfl) ?_ _)
    have c0x := hK0.cell c0 (fun h => h)
    rw [← HTT.out]
    have w1' := HW1.out
    have w2' := HW2.out
    go_wp2_with fail
    go_ret
    exact ⟨rfl, HKW.out.trans hK0 (fun _ _ h => h)⟩
   ·have hs : ((T.extract q (q + k)).toList == t.toList) = false := by rw [hx, hy]; exact beq_eq_false_iff_ne.2 h2
    have HF : fitsF e N.h q c = none := by rw [HFF, if_neg h2]
    clear HFF
    rw [HF]
    clear HF hb hc hT h6 hq hcm hm hk hn hm10 hab hbl hx hxl hy hyl ht hk9 hm2 h1 h2
    simp only [fitsI]
    simp only [Nd.row, cRow]
    go_enter Try.func90, Try.ntmps90
    go_upto_block 0 with fail
    generalize ((w.alloc (.cells #[.int .i64 N.h.k, .int .u8 N.h.c, .int .u64 N.h.s0, .int .u64 N.h.s1, .int .u64 N.h.s2, .int .u64 N.h.s3, .int .i64 N.h.n, .int .i64 N.h.mn, .int .i64 N.h.mx, S] 27)).alloc (.cells #[.int .i64 (fromI (c 0)), .int .i64 (fromI (c 1)), .int .i64 (fromI (c 2)), .int .i64 (fromI (c 3)), .int .i64 (fromI (c 4)), .int .i64 (fromI (c 5)), .int .i64 (fromI (c 6)), .int .i64 (fromI (c 7)), .int .i64 (fromI (c 8)), .int .i64 (fromI (c 9)), .int .i64 (toI (c 0)), .int .i64 (toI (c 1)), .int .i64 (toI (c 2)), .int .i64 (toI (c 3)), .int .i64 (toI (c 4)), .int .i64 (toI (c 5)), .int .i64 (toI (c 6)), .int .i64 (toI (c 7)), .int .i64 (toI (c 8)), .int .i64 (toI (c 9)), .bool (c 0).isSome, .bool (c 1).isSome, .bool (c 2).isSome, .bool (c 3).isSome, .bool (c 4).isSome, .bool (c 5).isSome, .bool (c 6).isSome, .bool (c 7).isSome, .bool (c 8).isSome, .bool (c 9).isSome] 118)) = w1 at B0 B1 BP HKW ⊢
    generalize w.heap.size = nb at B0 B1 ⊢
    have hN := B0.out
    have hC := B1.out
    have hP := BP.out
    have c0 := hP.cell 0 (u := .string T) rfl
    have c1 := hP.cell 1 (u := .bool e.bound) rfl
    have hl := hP.lt
    have nl := hN.lt
    have cl := hC.lt
    have n0 := hN.cell 0 (u := .int .i64 N.h.k) rfl
    have n1 := hN.cell 1 (u := .int .u8 N.h.c) rfl
    have n2 := hN.cell 2 (u := .int .u64 N.h.s0) rfl
    have n3 := hN.cell 3 (u := .int .u64 N.h.s1) rfl
    have n4 := hN.cell 4 (u := .int .u64 N.h.s2) rfl
    have n5 := hN.cell 5 (u := .int .u64 N.h.s3) rfl
    have n6 := hN.cell 6 (u := .int .i64 N.h.n) rfl
    clear hN hC hP
    rw [HKK.out] at n0
    rw [HM.out] at n6
    have hm10 := HM10.out
    have cf := B1.out.cell m (cRow_from c m hm10)
    have ct := B1.out.cell (10 + m) (cRow_to c m hm10)
    have ch := B1.out.cell (20 + m) (cRow_has c m hm10)
    rw [HCM.out] at cf ct ch
    clear hm10
    simp only [fromI, toI, Option.isSome_some] at cf ct ch
    go_wp2_with fail
    (refine wp_region_f [15] (InX Nb _) (by kernel_rfl) (InX.mk (Keep.drew (Keep.refl _ _))) (fun hI => ?_))
    have xx : ∀ k, ¬ Nb k := fun _ h => h
    have hK0 : Keep Nb w1 w1.drew := (Keep.refl _ _).drew
    generalize w1.drew = x0 at hK0 hI ⊢
    (refine wpI_from 0 ?_; (iterate 15 ((first | (refine wpI_take (v := ?_) rfl (by kernel_rfl) (fun _ _ _ h => h) hI rfl ?_ ?_; rotate_left; (focus (rintro _ ⟨E, rfl⟩; go_simp; (try with_reducible rfl)))) | refine wpI_skip rfl (by kernel_rfl) (fun _ _ _ h => h) hI rfl ?_); simp only [Act.put, tk, Nat.reduceAdd])); refine wpI_till ?_)
    (refine wpF_one 15 rfl (by kernel_rfl) rfl (fun K hK => ?_))
    go_simp
    (refine hK _ _ (fun h => absurd (by simp) h) (fun _ => ?_); clear hK K; try simp only [Act.put, tk])
    (refine wpF_done (by kernel_rfl) ?_ _)
    have c0x := hK0.cell c0 (fun h => h)
    rw [← HTT.out]
    have w1' := HW1.out
    have w2' := HW2.out
    go_wp2_with fail
    go_ret
    exact ⟨rfl, HKW.out.trans hK0 (fun _ _ h => h)⟩
set_option maxRecDepth 100000 in
set_option maxHeartbeats 2000000 in
theorem qfits_0 (hk : ¬ N.h.k = 1 ∧ ¬ N.h.k = 2 ∧ ¬ N.h.k = 3 ∧ ¬ N.h.k = 4 ∧ ¬ N.h.k = 5 ∧ ¬ N.h.k = 7) : Calls Try.prog 90 #[.pointer (some ⟨p, 0, none⟩), .agg (Nd.row N S), .int .i64 (q : Int), .agg (cRow c)] w fun x w' => x = .returned (.int .i64 (fitsI (fitsF e N.h q c))) ∧ Keep Nb w w' := by
 have hb0 : Blk ((w.alloc (.cells #[.int .i64 N.h.k, .int .u8 N.h.c, .int .u64 N.h.s0, .int .u64 N.h.s1, .int .u64 N.h.s2, .int .u64 N.h.s3, .int .i64 N.h.n, .int .i64 N.h.mn, .int .i64 N.h.mx, S] 27)).alloc (.cells #[.int .i64 (fromI (c 0)), .int .i64 (fromI (c 1)), .int .i64 (fromI (c 2)), .int .i64 (fromI (c 3)), .int .i64 (fromI (c 4)), .int .i64 (fromI (c 5)), .int .i64 (fromI (c 6)), .int .i64 (fromI (c 7)), .int .i64 (fromI (c 8)), .int .i64 (fromI (c 9)), .int .i64 (toI (c 0)), .int .i64 (toI (c 1)), .int .i64 (toI (c 2)), .int .i64 (toI (c 3)), .int .i64 (toI (c 4)), .int .i64 (toI (c 5)), .int .i64 (toI (c 6)), .int .i64 (toI (c 7)), .int .i64 (toI (c 8)), .int .i64 (toI (c 9)), .bool (c 0).isSome, .bool (c 1).isSome, .bool (c 2).isSome, .bool (c 3).isSome, .bool (c 4).isSome, .bool (c 5).isSome, .bool (c 6).isSome, .bool (c 7).isSome, .bool (c 8).isSome, .bool (c 9).isSome] 118)) w.heap.size #[.int .i64 N.h.k, .int .u8 N.h.c, .int .u64 N.h.s0, .int .u64 N.h.s1, .int .u64 N.h.s2, .int .u64 N.h.s3, .int .i64 N.h.n, .int .i64 N.h.mn, .int .i64 N.h.mx, S] 27 := (Blk.new w _ _).alloc _
 have hb1 : Blk ((w.alloc (.cells #[.int .i64 N.h.k, .int .u8 N.h.c, .int .u64 N.h.s0, .int .u64 N.h.s1, .int .u64 N.h.s2, .int .u64 N.h.s3, .int .i64 N.h.n, .int .i64 N.h.mn, .int .i64 N.h.mx, S] 27)).alloc (.cells #[.int .i64 (fromI (c 0)), .int .i64 (fromI (c 1)), .int .i64 (fromI (c 2)), .int .i64 (fromI (c 3)), .int .i64 (fromI (c 4)), .int .i64 (fromI (c 5)), .int .i64 (fromI (c 6)), .int .i64 (fromI (c 7)), .int .i64 (fromI (c 8)), .int .i64 (fromI (c 9)), .int .i64 (toI (c 0)), .int .i64 (toI (c 1)), .int .i64 (toI (c 2)), .int .i64 (toI (c 3)), .int .i64 (toI (c 4)), .int .i64 (toI (c 5)), .int .i64 (toI (c 6)), .int .i64 (toI (c 7)), .int .i64 (toI (c 8)), .int .i64 (toI (c 9)), .bool (c 0).isSome, .bool (c 1).isSome, .bool (c 2).isSome, .bool (c 3).isSome, .bool (c 4).isSome, .bool (c 5).isSome, .bool (c 6).isSome, .bool (c 7).isSome, .bool (c 8).isSome, .bool (c 9).isSome] 118)) (w.heap.size + 1) #[.int .i64 (fromI (c 0)), .int .i64 (fromI (c 1)), .int .i64 (fromI (c 2)), .int .i64 (fromI (c 3)), .int .i64 (fromI (c 4)), .int .i64 (fromI (c 5)), .int .i64 (fromI (c 6)), .int .i64 (fromI (c 7)), .int .i64 (fromI (c 8)), .int .i64 (fromI (c 9)), .int .i64 (toI (c 0)), .int .i64 (toI (c 1)), .int .i64 (toI (c 2)), .int .i64 (toI (c 3)), .int .i64 (toI (c 4)), .int .i64 (toI (c 5)), .int .i64 (toI (c 6)), .int .i64 (toI (c 7)), .int .i64 (toI (c 8)), .int .i64 (toI (c 9)), .bool (c 0).isSome, .bool (c 1).isSome, .bool (c 2).isSome, .bool (c 3).isSome, .bool (c 4).isSome, .bool (c 5).isSome, .bool (c 6).isSome, .bool (c 7).isSome, .bool (c 8).isSome, .bool (c 9).isSome] 118 := Blk.new' (by simp) _ _
 have hbp := (hb.alloc (.cells #[.int .i64 N.h.k, .int .u8 N.h.c, .int .u64 N.h.s0, .int .u64 N.h.s1, .int .u64 N.h.s2, .int .u64 N.h.s3, .int .i64 N.h.n, .int .i64 N.h.mn, .int .i64 N.h.mx, S] 27)).alloc (.cells #[.int .i64 (fromI (c 0)), .int .i64 (fromI (c 1)), .int .i64 (fromI (c 2)), .int .i64 (fromI (c 3)), .int .i64 (fromI (c 4)), .int .i64 (fromI (c 5)), .int .i64 (fromI (c 6)), .int .i64 (fromI (c 7)), .int .i64 (fromI (c 8)), .int .i64 (fromI (c 9)), .int .i64 (toI (c 0)), .int .i64 (toI (c 1)), .int .i64 (toI (c 2)), .int .i64 (toI (c 3)), .int .i64 (toI (c 4)), .int .i64 (toI (c 5)), .int .i64 (toI (c 6)), .int .i64 (toI (c 7)), .int .i64 (toI (c 8)), .int .i64 (toI (c 9)), .bool (c 0).isSome, .bool (c 1).isSome, .bool (c 2).isSome, .bool (c 3).isSome, .bool (c 4).isSome, .bool (c 5).isSome, .bool (c 6).isSome, .bool (c 7).isSome, .bool (c 8).isSome, .bool (c 9).isSome] 118)
 have hk : Keep Nb w ((w.alloc (.cells #[.int .i64 N.h.k, .int .u8 N.h.c, .int .u64 N.h.s0, .int .u64 N.h.s1, .int .u64 N.h.s2, .int .u64 N.h.s3, .int .i64 N.h.n, .int .i64 N.h.mn, .int .i64 N.h.mx, S] 27)).alloc (.cells #[.int .i64 (fromI (c 0)), .int .i64 (fromI (c 1)), .int .i64 (fromI (c 2)), .int .i64 (fromI (c 3)), .int .i64 (fromI (c 4)), .int .i64 (fromI (c 5)), .int .i64 (fromI (c 6)), .int .i64 (fromI (c 7)), .int .i64 (fromI (c 8)), .int .i64 (fromI (c 9)), .int .i64 (toI (c 0)), .int .i64 (toI (c 1)), .int .i64 (toI (c 2)), .int .i64 (toI (c 3)), .int .i64 (toI (c 4)), .int .i64 (toI (c 5)), .int .i64 (toI (c 6)), .int .i64 (toI (c 7)), .int .i64 (toI (c 8)), .int .i64 (toI (c 9)), .bool (c 0).isSome, .bool (c 1).isSome, .bool (c 2).isSome, .bool (c 3).isSome, .bool (c 4).isSome, .bool (c 5).isSome, .bool (c 6).isSome, .bool (c 7).isSome, .bool (c 8).isSome, .bool (c 9).isSome] 118)) := Keep.alloc (Keep.alloc (Keep.refl _ _) _) _
 have B0 := Lib.hid hb0
 have B1 := Lib.hid hb1
 have BP := Lib.hid hbp
 have HKW := Lib.hid hk
 clear hb0 hb1 hbp hk
 have j0 : (0 : Int) ≤ (q : Int) := by omega
 by_cases h : q < T.size
 ·have g1 : decide ((q : Int) < (T.size : Int)) = true := by simp; omega
  have g2 : decide (q < T.size) = true := by simp; omega
  have i1 : (q : Int) < (T.size : Int) := by omega
  have HF : fitsF e N.h q c = none := by rw [fitsF, if_neg hk.1, if_neg hk.2.1, if_neg hk.2.2.1, if_neg hk.2.2.2.1, if_neg hk.2.2.2.2.1, if_neg hk.2.2.2.2.2]
  have z1 := bne_int hk.1
  have z2 := bne_int hk.2.1
  have z3 := bne_int hk.2.2.1
  have z4 := bne_int hk.2.2.2.1
  have z5 := bne_int hk.2.2.2.2.1
  have z7 := bne_int hk.2.2.2.2.2
  rw [HF]
  clear HF hb hc hT h6 hq h hk
  simp only [fitsI]
  simp only [Nd.row, cRow]
  go_enter Try.func90, Try.ntmps90
  go_upto_block 0 with fail
  generalize ((w.alloc (.cells #[.int .i64 N.h.k, .int .u8 N.h.c, .int .u64 N.h.s0, .int .u64 N.h.s1, .int .u64 N.h.s2, .int .u64 N.h.s3, .int .i64 N.h.n, .int .i64 N.h.mn, .int .i64 N.h.mx, S] 27)).alloc (.cells #[.int .i64 (fromI (c 0)), .int .i64 (fromI (c 1)), .int .i64 (fromI (c 2)), .int .i64 (fromI (c 3)), .int .i64 (fromI (c 4)), .int .i64 (fromI (c 5)), .int .i64 (fromI (c 6)), .int .i64 (fromI (c 7)), .int .i64 (fromI (c 8)), .int .i64 (fromI (c 9)), .int .i64 (toI (c 0)), .int .i64 (toI (c 1)), .int .i64 (toI (c 2)), .int .i64 (toI (c 3)), .int .i64 (toI (c 4)), .int .i64 (toI (c 5)), .int .i64 (toI (c 6)), .int .i64 (toI (c 7)), .int .i64 (toI (c 8)), .int .i64 (toI (c 9)), .bool (c 0).isSome, .bool (c 1).isSome, .bool (c 2).isSome, .bool (c 3).isSome, .bool (c 4).isSome, .bool (c 5).isSome, .bool (c 6).isSome, .bool (c 7).isSome, .bool (c 8).isSome, .bool (c 9).isSome] 118)) = w1 at B0 B1 BP HKW ⊢
  generalize w.heap.size = nb at B0 B1 ⊢
  have hN := B0.out
  have hC := B1.out
  have hP := BP.out
  have c0 := hP.cell 0 (u := .string T) rfl
  have c1 := hP.cell 1 (u := .bool e.bound) rfl
  have hl := hP.lt
  have nl := hN.lt
  have cl := hC.lt
  have n0 := hN.cell 0 (u := .int .i64 N.h.k) rfl
  have n1 := hN.cell 1 (u := .int .u8 N.h.c) rfl
  have n2 := hN.cell 2 (u := .int .u64 N.h.s0) rfl
  have n3 := hN.cell 3 (u := .int .u64 N.h.s1) rfl
  have n4 := hN.cell 4 (u := .int .u64 N.h.s2) rfl
  have n5 := hN.cell 5 (u := .int .u64 N.h.s3) rfl
  have n6 := hN.cell 6 (u := .int .i64 N.h.n) rfl
  clear hN hC hP
  go_wp2_with fail
  (refine wp_region_f [] (InX Nb _) (by kernel_rfl) (InX.mk (Keep.drew (Keep.refl _ _))) (fun hI => ?_))
  have xx : ∀ k, ¬ Nb k := fun _ h => h
  have hK0 : Keep Nb w1 w1.drew := (Keep.refl _ _).drew
  generalize w1.drew = x0 at hK0 hI ⊢
  (refine wpI_from 0 ?_; (iterate 44 ((first | (refine wpI_take (v := ?_) rfl (by kernel_rfl) (fun _ _ _ h => h) hI rfl ?_ ?_; rotate_left; (focus (rintro _ ⟨E, rfl⟩; go_simp; (try with_reducible rfl)))) | refine wpI_skip rfl (by kernel_rfl) (fun _ _ _ h => h) hI rfl ?_); simp only [Act.put, tk, Nat.reduceAdd])); refine wpI_till ?_)
  (refine wpF_done (by kernel_rfl) ?_ _)
  go_wp2_with fail
  go_ret
  exact ⟨rfl, HKW.out.trans hK0 (fun _ _ h => h)⟩
 ·have g1 : decide ((q : Int) < (T.size : Int)) = false := by simp; omega
  have g2 : decide (q < T.size) = false := by simp; omega
  have HF : fitsF e N.h q c = none := by rw [fitsF, if_neg hk.1, if_neg hk.2.1, if_neg hk.2.2.1, if_neg hk.2.2.2.1, if_neg hk.2.2.2.2.1, if_neg hk.2.2.2.2.2]
  have z1 := bne_int hk.1
  have z2 := bne_int hk.2.1
  have z3 := bne_int hk.2.2.1
  have z4 := bne_int hk.2.2.2.1
  have z5 := bne_int hk.2.2.2.2.1
  have z7 := bne_int hk.2.2.2.2.2
  rw [HF]
  clear HF hb hc hT h6 hq h hk
  simp only [fitsI]
  simp only [Nd.row, cRow]
  go_enter Try.func90, Try.ntmps90
  go_upto_block 0 with fail
  generalize ((w.alloc (.cells #[.int .i64 N.h.k, .int .u8 N.h.c, .int .u64 N.h.s0, .int .u64 N.h.s1, .int .u64 N.h.s2, .int .u64 N.h.s3, .int .i64 N.h.n, .int .i64 N.h.mn, .int .i64 N.h.mx, S] 27)).alloc (.cells #[.int .i64 (fromI (c 0)), .int .i64 (fromI (c 1)), .int .i64 (fromI (c 2)), .int .i64 (fromI (c 3)), .int .i64 (fromI (c 4)), .int .i64 (fromI (c 5)), .int .i64 (fromI (c 6)), .int .i64 (fromI (c 7)), .int .i64 (fromI (c 8)), .int .i64 (fromI (c 9)), .int .i64 (toI (c 0)), .int .i64 (toI (c 1)), .int .i64 (toI (c 2)), .int .i64 (toI (c 3)), .int .i64 (toI (c 4)), .int .i64 (toI (c 5)), .int .i64 (toI (c 6)), .int .i64 (toI (c 7)), .int .i64 (toI (c 8)), .int .i64 (toI (c 9)), .bool (c 0).isSome, .bool (c 1).isSome, .bool (c 2).isSome, .bool (c 3).isSome, .bool (c 4).isSome, .bool (c 5).isSome, .bool (c 6).isSome, .bool (c 7).isSome, .bool (c 8).isSome, .bool (c 9).isSome] 118)) = w1 at B0 B1 BP HKW ⊢
  generalize w.heap.size = nb at B0 B1 ⊢
  have hN := B0.out
  have hC := B1.out
  have hP := BP.out
  have c0 := hP.cell 0 (u := .string T) rfl
  have c1 := hP.cell 1 (u := .bool e.bound) rfl
  have hl := hP.lt
  have nl := hN.lt
  have cl := hC.lt
  have n0 := hN.cell 0 (u := .int .i64 N.h.k) rfl
  have n1 := hN.cell 1 (u := .int .u8 N.h.c) rfl
  have n2 := hN.cell 2 (u := .int .u64 N.h.s0) rfl
  have n3 := hN.cell 3 (u := .int .u64 N.h.s1) rfl
  have n4 := hN.cell 4 (u := .int .u64 N.h.s2) rfl
  have n5 := hN.cell 5 (u := .int .u64 N.h.s3) rfl
  have n6 := hN.cell 6 (u := .int .i64 N.h.n) rfl
  clear hN hC hP
  go_wp2_with fail
  (refine wp_region_f [] (InX Nb _) (by kernel_rfl) (InX.mk (Keep.drew (Keep.refl _ _))) (fun hI => ?_))
  have xx : ∀ k, ¬ Nb k := fun _ h => h
  have hK0 : Keep Nb w1 w1.drew := (Keep.refl _ _).drew
  generalize w1.drew = x0 at hK0 hI ⊢
  (refine wpI_from 0 ?_; (iterate 44 ((first | (refine wpI_take (v := ?_) rfl (by kernel_rfl) (fun _ _ _ h => h) hI rfl ?_ ?_; rotate_left; (focus (rintro _ ⟨E, rfl⟩; go_simp; (try with_reducible rfl)))) | refine wpI_skip rfl (by kernel_rfl) (fun _ _ _ h => h) hI rfl ?_); simp only [Act.put, tk, Nat.reduceAdd])); refine wpI_till ?_)
  (refine wpF_done (by kernel_rfl) ?_ _)
  go_wp2_with fail
  go_ret
  exact ⟨rfl, HKW.out.trans hK0 (fun _ _ h => h)⟩
theorem qfits_any (hok : okH N.h N.l.length) : Calls Try.prog 90 #[.pointer (some ⟨p, 0, none⟩), .agg (Nd.row N S), .int .i64 (q : Int), .agg (cRow c)] w fun x w' => x = .returned (.int .i64 (fitsI (fitsF e N.h q c))) ∧ Keep Nb w w' := by
 by_cases k1 : N.h.k = 1
 ·exact qfits_1 p T e s c N S q w hT h6 hq hc hb k1
 by_cases k2 : N.h.k = 2
 ·exact qfits_2 p T e s c N S q w hT h6 hq hc hb k2
 by_cases k3 : N.h.k = 3
 ·exact qfits_3 p T e s c N S q w hT h6 hq hc hb k3
 by_cases k4 : N.h.k = 4
 ·exact qfits_4 p T e s c N S q w hT h6 hq hc hb k4
 by_cases k5 : N.h.k = 5
 ·exact qfits_5 p T e s c N S q w hT h6 hq hc hb k5
 by_cases k7 : N.h.k = 7
 ·exact qfits_7 p T e s c N S q w hT h6 hq hc hb k7 (hok.2.2.2.1 k7)
 exact qfits_0 p T e s c N S q w hT h6 hq hc hb ⟨k1, k2, k3, k4, k5, k7⟩
end
end Go.Proofs.Ytkidjbfapldmbaa
