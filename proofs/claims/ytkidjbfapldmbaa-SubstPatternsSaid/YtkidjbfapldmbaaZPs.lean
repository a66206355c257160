import Derived.Test.YtkidjbfapldmbaaZBase
import Derived.Test.YtkidjbfapldmbaaZPu
import Derived.Test.YtkidjbfapldmbaaZBo
import Derived.Deep.CutBlock
import Derived.Deep.DeepCutAuto
set_option linter.unusedVariables false
set_option linter.unusedSimpArgs false
namespace Go.Proofs.Ytkidjbfapldmbaa
open Go.RowKit
section
variable {P : Program} {ops : Array Oper} {Q : Exit → Act → World → Prop} {md : Region.Mode} {S : World → Prop} {fin : List Nat}
def waitsOn (md : Region.Mode) (ops : Array Oper) (j i : Nat) : Bool := match ops[j]? with
 | some o => o.after.any fun e => Region.binds md e && e.on == i
 | none => false
theorem waitsOn_spec {j i : Nat} (h : waitsOn md ops j i = true) : ∃ o, ops[j]? = some o ∧ ∃ e ∈ o.after, Region.binds md e = true ∧ e.on = i := by
 unfold waitsOn at h
 cases ho : ops[j]? with
 | none => rw [ho] at h; cases h
 | some o =>
  rw [ho] at h
  obtain ⟨e, he, hb⟩ := Array.any_eq_true'.1 h
  simp only [Bool.and_eq_true, beq_iff_eq] at hb
  exact ⟨o, rfl, e, he, hb.1, hb.2⟩
def reach (md : Region.Mode) (ops : Array Oper) (i : Nat) : Nat → List Nat
 | 0 => []
 | n + 1 => if waitsOn md ops n i || (reach md ops i n).any (waitsOn md ops n ·) then n :: reach md ops i n else reach md ops i n
theorem reach_spec (i : Nat) : ∀ n, ∀ k ∈ reach md ops i n, ∃ o, ops[k]? = some o ∧ ∃ e ∈ o.after, Region.binds md e = true ∧ (e.on = i ∨ e.on ∈ reach md ops i n)
 | 0, k, hk => by simp [reach] at hk
 | n + 1, k, hk => by
  rw [reach] at hk ⊢
  split at hk
  ·rename_i hw
   rw [if_pos hw]
   rcases List.mem_cons.1 hk with rfl | hk
   ·simp only [Bool.or_eq_true, List.any_eq_true] at hw
    rcases hw with hw | ⟨x, hx, hw⟩
    ·obtain ⟨o, ho, e, he, hb, hi⟩ := waitsOn_spec hw
     exact ⟨o, ho, e, he, hb, .inl hi⟩
    ·obtain ⟨o, ho, e, he, hb, hi⟩ := waitsOn_spec hw
     exact ⟨o, ho, e, he, hb, .inr (List.mem_cons_of_mem _ (hi ▸ hx))⟩
   ·obtain ⟨o, ho, e, he, hb, hi⟩ := reach_spec i n k hk
    exact ⟨o, ho, e, he, hb, hi.imp id (List.mem_cons_of_mem _)⟩
  ·rename_i hw
   rw [if_neg hw]
   exact reach_spec i n k hk
theorem ready_not {i j : Nat} {K : List Nat} {L : Array Bool} (hK : ∀ k ∈ K, ∃ o, ops[k]? = some o ∧ ∃ e ∈ o.after, Region.binds md e = true ∧ (e.on = i ∨ e.on ∈ K)) (hu : ∀ k ∈ K, L.getD k true = false)
  (hj : j ∈ Region.ready md ops L) (hi : i ∈ Region.ready md ops L) : j ∉ K := fun hm => by
 obtain ⟨o, ho, e, he, hb, hx⟩ := hK j hm
 rcases hx with hx | hx
 ·exact ready_waits hj ho hi e he hb hx
 ·obtain ⟨_, o', ho', hall⟩ := mem_ready.1 hj
  rw [ho] at ho'
  cases ho'
  have h1 := hall e he hb
  have h0 := hu _ hx
  rcases Nat.lt_or_ge e.on L.size with hlt | hge
  ·simp [hlt] at h0 h1; rw [h0] at h1; cases h1
  ·simp [Array.getElem?_eq_none hge] at h0
theorem wpF_first3 {i : Nat} {o : Oper} {v : Value} (hi : ops[i]? = some o) (hsel : ∀ (j : Nat) (o : Oper) cs b, ops[j]? = some o → o.op ≠ .select cs b)
  (K : List Nat) (hK : ∀ k ∈ K, ∃ o, ops[k]? = some o ∧ ∃ e ∈ o.after, Region.binds md e = true ∧ (e.on = i ∨ e.on ∈ K)) (hfin : i ∉ fin ∧ ∀ j ∈ fin, j ∈ K)
  (hQ : ∀ c a w, Q (.panic c) (a.put o.dst v) w → Q (.panic c) a w) :
  ∀ (n : Nat) (L : Array Bool) (a : Act) (w : World), (∀ k ∈ K, L.getD k true = false) →
   (∀ j oj, ops[j]? = some oj → j ≠ i → L.getD j true = false → (∀ e ∈ oj.after, Region.binds md e = true → e.on ≠ i) → o.apart ops oj = true) →
   i ∈ Region.ready md ops L → YieldsIf P ops S o v a → S w →
   wpF P md ops Q S fin n (L.setIfInBounds i true) (a.put o.dst v) w → wpF P md ops Q S fin (n + 1) L a w := by
 intro n
 induction n with
 | zero =>
  intro L a w _ _ hr hy hS H
  refine ⟨fun h => absurd (h ▸ hr) (by simp), fun j hj => ?_⟩
  by_cases e : j = i
  ·subst e; exact hy.wpOp hi hS ⟨fun _ => hS, H⟩
  ·have := ready_mono hj e
   rw [H.1] at this
   simp at this
 | succ n ih =>
  intro L a w hu hfree hr hy hS H
  refine ⟨fun h => absurd (h ▸ hr) (by simp), fun j hj => ?_⟩
  by_cases e : j = i
  ·subst e; exact hy.wpOp hi hS ⟨fun _ => hS, H⟩
  ·have h1 := H.2 j (ready_mono hj e)
   obtain ⟨hun, oj, hoj, _⟩ := mem_ready.1 hj
   have hnot := ready_waits hj hoj hr
   have hjK := ready_not hK hu hj hr
   have hjf : j ∉ fin := fun hm => hjK (hfin.2 j hm)
   have h2 := wpOp_putIf hoj (hfree j oj hoj e hun hnot) (fun cs b => hsel i o cs b hi) (fun cs b => hsel j oj cs b hoj) hQ hy h1
   refine wpOp_mono (fun a' w' h3 => ⟨fun _ => h3.2.1 hjf, ih (L.setIfInBounds j true) a' w' ?_ ?_ (ready_mono hr (Ne.symm e)) h3.1 (h3.2.1 hjf) ?_⟩) h2
   ·intro k hk
    rw [getD_set_ne true (show j ≠ k from fun hjk => by subst hjk; exact hjK hk)]
    exact hu k hk
   ·intro k ok hk hki hku hno
    refine hfree k ok hk hki ?_ hno
    by_cases hjk : j = k
    ·subst hjk; exact hun
    ·rwa [getD_set_ne true hjk] at hku
   ·rw [Array.setIfInBounds_comm _ _ e]
    exact h3.2.2
def takeOk3 (md : Region.Mode) (ops : Array Oper) (fin : List Nat) (L : Array Bool) (i : Nat) : Bool :=
 Region.noSelect ops && Region.free md ops L i && (Region.ready md ops L).contains i && !fin.contains i && fin.all (fun j => (reach md ops i ops.size).contains j) && (reach md ops i ops.size).all (fun k => !(L.getD k true))
theorem wpI_take3 {i : Nat} {o : Oper} {v : Value} {n : Nat} {L : Array Bool} {a : Act} {w : World} (hi : ops[i]? = some o) (hc : takeOk3 md ops fin L i = true)
  (hQ : ∀ c a w, Q (.panic c) (a.put o.dst v) w → Q (.panic c) a w) (hS : S w) (hy : YieldsIf P ops S o v a)
  (h : wpI P md ops Q S fin (i + 1) n (L.setIfInBounds i true) (a.put o.dst v) w) : wpI P md ops Q S fin i (n + 1) L a w := by
 unfold takeOk3 at hc
 simp only [Bool.and_eq_true, Bool.not_eq_true', List.all_eq_true] at hc
 obtain ⟨⟨⟨⟨⟨c1, c2⟩, c3⟩, c4⟩, c5⟩, c6⟩ := hc
 exact wpF_first3 hi (Region.noSelect_spec c1) (reach md ops i ops.size) (reach_spec i _) ⟨by simpa using c4, fun j hj => by simpa using c5 j hj⟩ hQ n L a w (fun k hk => by simpa using c6 k hk) (Region.free_spec hi c2) (by simpa using c3) hy hS h
theorem wpI_take3' {i : Nat} {o : Oper} {v : Value} {n : Nat} {L : Array Bool} {a : Act} {w : World} (hi : ops[i]? = some o) (hc : takeOk3 md ops fin L i = true)
  (hQ : ∀ c a w, Q (.panic c) (a.put o.dst v) w → Q (.panic c) a w) (hS : S w) (hw : Region.wanted o (yielded ops a.tmps) = true) (hv : ∀ w, S w → (execOp a.eval o).run P w = .ok (.value v) w)
  (h : wpI P md ops Q S fin (i + 1) n (L.setIfInBounds i true) (a.put o.dst v) w) : wpI P md ops Q S fin i (n + 1) L a w :=
 wpI_take3 hi hc hQ hS (.inl ⟨hw, hv⟩) h
theorem wpI_skip3' {i : Nat} {o : Oper} {n : Nat} {L : Array Bool} {a : Act} {w : World} (hi : ops[i]? = some o) (hc : takeOk3 md ops fin L i = true)
  (hQ : ∀ c a w, Q (.panic c) (a.put o.dst undef) w → Q (.panic c) a w) (hS : S w) (hw : Region.wanted o (yielded ops a.tmps) = false)
  (h : wpI P md ops Q S fin (i + 1) n (L.setIfInBounds i true) (a.put o.dst undef) w) : wpI P md ops Q S fin i (n + 1) L a w :=
 wpI_take3 hi hc hQ hS (.inr ⟨hw, rfl⟩) h
theorem wpF_row3 (i : Nat) {o : Oper} {n : Nat} {L : Array Bool} {a : Act} {w : World} (hi : ops[i]? = some o) (hc : takeOk3 md ops fin L i = true)
  (hQ : ∀ c a v w, Q (.panic c) (a.put o.dst v) w → Q (.panic c) a w) (hS : S w) (hw : Region.wanted o (yielded ops a.tmps) = true)
  (ty : TypeId) (x : Operand) (ho : o.op = .load ty x) (g : Nat) (hx : a.eval x = .pointer (some ⟨g, 0, none⟩)) (t : TypeId) (cs : Array Value) (fr : Nat × Nat) (d : TypeDesc)
  (hg : ∀ w, S w → w.heap[g]? = some (.cells cs t fr)) (hu : P.underlying ty = some d) (hd : (match d with | .struct _ | .array _ _ => true | _ => false) = true) (hz : (P.info? ty).map (·.size) = some cs.size)
  (h : wpF P md ops Q S fin n (L.setIfInBounds i true) (a.put o.dst (.agg cs)) w) : wpF P md ops Q S fin (n + 1) L a w :=
 wpI_till (i := i) (wpI_take3' hi hc (fun c a w h => hQ c a _ w h) hS hw (fun w hw' => by
  unfold execOp
  simp only [ho, hx, Instr.loadAt, Instr.sureAddr, Sem.run_bind, Sem.run_pure, Result.andThen_ok, run_loadVar_row w g t ty cs fr d (hg w hw') hu hd hz]) h)
end
theorem InX.bk {X : Nat → Prop} {W w : World} {b : Nat} {cs : Array Value} {t : TypeId} (h : InX X W w) (hb : Blk W b cs t) (hx : ¬ X b) : Blk w b cs t := hb.keep h.keep hx
open Go.RowKit P8
def ptRow (N : Nd) (S pv : Value) (T : ByteArray) (q v : Value) (P : PS) : Array Value :=
 #[.int .i64 N.h.k, .int .u8 N.h.c, .int .u64 N.h.s0, .int .u64 N.h.s1, .int .u64 N.h.s2, .int .u64 N.h.s3, .int .i64 N.h.n, .int .i64 N.h.mn, .int .i64 N.h.mx, S, pv, .string T, q, v, .int .i64 (P.pos : Int), .int .i64 P.last, .int .i64 (P.tries : Int), .int .i64 (P.cnt : Int), .int .i64 (P.pt : Int)]
def PtAt (base p : Nat) (N : Nd) (S pv : Value) (T : ByteArray) (P : PS) (w : World) : Prop :=
 ∃ q v, BoAt base p 12 (ptRow N S pv T q v P) 132 q v (Lib.byteCells P.out) w
theorem lies_pt : LiesB 132 19 12 := ⟨by decide, by kernel_rfl, by decide⟩
theorem strCells_seg (T : ByteArray) (i j : Nat) : Lib.strCells (T.extract i j) = Lib.byteCells (seg T.toList i j) := by
 rw [Lib.strCells_eq]
 congr 1
 unfold seg
 rw [ByteArray.data_extract, Array.toList_extract, ByteArray.toList_eq]
theorem strCells_toList (T : ByteArray) : Lib.strCells T = Lib.byteCells T.toList := by rw [Lib.strCells_eq, ByteArray.toList_eq]
theorem seg_min (L : List UInt8) (i j : Nat) : seg L i (min j L.length) = seg L i j := by
 unfold seg
 by_cases h : j ≤ L.length
 ·rw [Nat.min_eq_left h]
 ·rw [Nat.min_eq_right (by omega)]
  rw [List.take_of_length_le (by simp), List.take_of_length_le (by simp; omega)]
theorem seg_nil {L : List UInt8} {i j : Nat} (h : j ≤ i) : seg L i j = [] := by
 unfold seg; rw [Nat.sub_eq_zero_of_le h]; simp
theorem PtAt.same {base p : Nat} {N : Nd} {S pv : Value} {T : ByteArray} {P P' : PS} {w : World} (h : PtAt base p N S pv T P w) (e : P = P') : PtAt base p N S pv T P' w := e ▸ h
set_option maxRecDepth 100000 in
set_option maxHeartbeats 2000000 in
theorem stay_any (base p : Nat) (N : Nd) (S pv : Value) (T : ByteArray) (P : PS) (to_ : Nat) (w : World) (h : PtAt base p N S pv T P w) (ht : to_ ≤ 700) (hT : T.size ≤ 600) (hp : P.pos ≤ 700) (hl : P.out.length ≤ 1000000000) (hb : base ≤ w.heap.size) :
  Calls Try.prog 75 #[.pointer (some ⟨p, 0, none⟩), .int .i64 (to_ : Int)] w fun e w' => e = .returned (.tuple #[]) ∧ PtAt base p N S pv T { P with out := P.out ++ seg T.toList P.pos to_ } w' ∧ KeepU base p w w' := by
 obtain ⟨m, hm⟩ : ∃ m, m = min to_ T.size := ⟨_, rfl⟩
 have hmin : min (to_ : Int) (T.size : Int) = (m : Int) := by omega
 have hmT : m ≤ T.size := by omega
 have hseg : seg T.toList P.pos to_ = seg T.toList P.pos m := by
  rw [hm, ← seg_min]
  congr 2
  rw [toList_len]
 rw [hseg]
 obtain ⟨q, v, hB⟩ := h
 have c11 := hB.blk.cell 11 (u := .string T) rfl
 have c14 := hB.blk.cell 14 (u := .int .i64 (P.pos : Int)) rfl
 have hlt := hB.blk.lt
 have HB := Lib.hid hB
 clear hB hm hseg
 by_cases hc : P.pos < m
 ·have m1 : decide ((P.pos : Int) < (m : Int)) = true := by simpa using hc
  have i0 : (0 : Int) ≤ (P.pos : Int) := by omega
  have i1 : (P.pos : Int) ≤ (m : Int) := by omega
  have i2 : (m : Int) ≤ (T.size : Int) := by omega
  have HC := Lib.hid hc
  clear hc
  go_enter Try.func75, Try.ntmps75
  go_wp2_with fail
  (refine wp_region_f [13] (InX Nb _) (by kernel_rfl) (InX.mk (Keep.drew (Keep.refl _ _))) (fun hI => ?_))
  have hK0 : Keep Nb w w.drew := (Keep.refl _ _).drew
  have xx : ∀ k, ¬ Nb k := fun _ h => h
  have hB0 := HB.out.keep hK0 (fun h => h) (fun _ _ h => h)
  generalize w.drew = x0 at hK0 hI hB0 ⊢
  (refine wpI_from 0 ?_; (iterate 13 ((first | (refine wpI_take3' (v := ?_) rfl (by kernel_rfl) (fun _ _ _ h => h) hI rfl ?_ ?_; rotate_left; (focus (rintro _ ⟨E, rfl⟩; go_simp; (try with_reducible rfl)))) | refine wpI_skip3' rfl (by kernel_rfl) (fun _ _ _ h => h) hI rfl ?_); simp only [Act.put, tk, Nat.reduceAdd])); refine wpI_till ?_)
  (refine wpF_one 13 rfl (by kernel_rfl) rfl (fun K hK => ?_))
  go_simp
  refine (writeStringO_any base p 12 _ 132 q v (Lib.byteCells P.out) (T.extract P.pos m) x0 hB0 lies_pt (by rw [Lib.byteCells_length]; simp; omega) (by have := hK0.size; omega)).mono ?_
  rintro e w2 ⟨rfl, v', hB2, hk2⟩
  (refine hK _ _ (fun h => absurd (by simp) h) (fun _ => ?_); clear hK K; try simp only [Act.put, tk])
  (refine wpF_done (by kernel_rfl) ?_ _)
  go_wp2_with fail
  go_end0
  refine ⟨rfl, ⟨.pointer (some ⟨p, 12, none⟩), v', ?_⟩, (hK0.u base p).trans hk2⟩
  rw [strCells_seg] at hB2
  have e : Lib.byteCells (P.out ++ seg T.toList P.pos m) = Lib.byteCells P.out ++ Lib.byteCells (seg T.toList P.pos m) := List.map_append
  show BoAt base p 12 _ 132 _ v' (Lib.byteCells (P.out ++ seg T.toList P.pos m)) w2
  rw [e]
  exact hB2
 ·have m1 : decide ((P.pos : Int) < (m : Int)) = false := by simpa using hc
  have HC := Lib.hid hc
  clear hc
  go_enter Try.func75, Try.ntmps75
  go_wp2_with fail
  go_end0
  refine ⟨rfl, ?_, (Keep.refl _ _).u base p⟩
  rw [seg_nil (by have := HC.out; omega), List.append_nil]
  exact ⟨q, v, HB.out⟩
theorem PtAt.keep {X : Nat → Prop} {base p : Nat} {N : Nd} {S pv : Value} {T : ByteArray} {P : PS} {w w' : World} (h : PtAt base p N S pv T P w) (hk : Keep X w w') (hX : ∀ k, base ≤ k → ¬ X k) : PtAt base p N S pv T P w' := by
 obtain ⟨q, v, hB⟩ := h
 exact ⟨q, v, hB.keep hk (hX p hB.low) (fun g hg => hX g (hB.own.lt g hg).1)⟩
theorem PtAt.keepB {base p : Nat} {N : Nd} {S pv : Value} {T : ByteArray} {P : PS} {w w' : World} (h : PtAt base p N S pv T P w) {r : Nat} {cs : Array Value} {t : TypeId} (hb : Blk w r cs t) (ht : t ≠ 5) (hr : r ≠ p) (hk : Keep (Ob r) w w') : PtAt base p N S pv T P w' := by
 obtain ⟨q, v, hB⟩ := h
 refine ⟨q, v, hB.keep hk (fun e => hr e.symm) (fun g hg e => ?_)⟩
 simp only [Ob] at e
 subst e
 rcases hB.own.2 with ⟨hv, _⟩ | ⟨g', cap, cur, fz, hv, _, hg', _⟩
 ·rw [hv] at hg; simp [Value.ownBlock] at hg
 ·rw [hv] at hg
  simp only [Value.ownBlock, Option.some.injEq] at hg
  subst hg
  unfold Blk at hb
  rw [hg'] at hb
  simp only [Option.some.injEq, Obj.cells.injEq] at hb
  exact ht hb.2.1.symm
theorem PtAt.set {base p : Nat} {N : Nd} {S pv : Value} {T : ByteArray} {P : PS} {w : World} (h : PtAt base p N S pv T P w) (P' : PS) (i : Nat) (u : Value) (hi : i ≠ 12 ∧ i ≠ 13) (ho : P'.out = P.out)
  (e : ∀ q v, (ptRow N S pv T q v P).setIfInBounds i u = ptRow N S pv T q v P') : PtAt base p N S pv T P' (w.setCell ⟨p, i, none⟩ u) := by
 obtain ⟨q, v, hB⟩ := h
 refine ⟨q, v, ?_, rfl, rfl, hB.ptr, ?_, hB.ne, hB.low⟩
 ·rw [← e]; exact hB.blk.set i u
 ·rw [ho]
  exact hB.own.kept (row := some p) ⟨rfl, rfl, rfl, by simp [World.setCell], fun k _ hk => Below.heap_setCell _ _ _ _ (fun e => hk (by simp [e]))⟩ (Or.inr hB.ne)
theorem PtAt.low {base p : Nat} {N : Nd} {S pv : Value} {T : ByteArray} {P : PS} {w : World} (h : PtAt base p N S pv T P w) : base ≤ p ∧ p < w.heap.size := by
 obtain ⟨q, v, hB⟩ := h
 exact ⟨hB.low, hB.blk.lt⟩
set_option maxRecDepth 100000 in
set_option maxHeartbeats 2000000 in
theorem pass_any (base p : Nat) (N : Nd) (S pv : Value) (T : ByteArray) (P : PS) (a : Nat) (w : World) (h : PtAt base p N S pv T P w) (ha : a ≤ T.size) (hT : T.size ≤ 600) (hl : P.out.length ≤ 1000000000) (hb : base ≤ w.heap.size) :
  Calls Try.prog 76 #[.pointer (some ⟨p, 0, none⟩), .int .i64 (a : Int)] w fun e w' => e = .returned (.tuple #[]) ∧ PtAt base p N S pv T { P with out := P.out ++ seg T.toList a (a + 1), pos := a + 1, last := -1 } w' ∧ KeepU base p w w' := by
 have HP := Lib.hid h
 have hlt := h.low
 obtain ⟨q, v, hB⟩ := h
 have c14 := hB.blk.cell 14 (u := .int .i64 (P.pos : Int)) rfl
 have f14 := hB.blk.frozen 14
 have c15 := hB.blk.cell 15 (u := .int .i64 P.last) rfl
 have f15 := hB.blk.frozen 15
 have hl1 := hlt.2
 have W1 : IntKind.i64.wrap ((a : Int) + 1) = ((a + 1 : Nat) : Int) := by rw [IntKind.wrap_i64]; omega
 have HL := Lib.hid hlt
 clear hB hlt
 go_enter Try.func76, Try.ntmps76
 go_upto_region 1 with fail
 have hP1 : PtAt base p N S pv T { P with pos := a, last := -1 } ((w.setCell ⟨p, 14, none⟩ (.int .i64 (a : Int))).setCell ⟨p, 15, none⟩ (.int .i64 (-1))) :=
  (HP.out.set { P with pos := a } 14 _ (by decide) rfl (fun _ _ => rfl)).set { P with pos := a, last := -1 } 15 _ (by decide) rfl (fun _ _ => rfl)
 have hK1 : KeepU base p w ((w.setCell ⟨p, 14, none⟩ (.int .i64 (a : Int))).setCell ⟨p, 15, none⟩ (.int .i64 (-1))) := KeepU.ob (Keep.trans (Keep.setOb _ p 14 _) (Keep.setOb _ p 15 _) (fun _ _ h => h)) HL.out.1
 generalize (w.setCell ⟨p, 14, none⟩ (.int .i64 (a : Int))).setCell ⟨p, 15, none⟩ (.int .i64 (-1)) = w1 at hP1 hK1 ⊢
 clear c14 f14 c15 f15 hl1
 go_wp2_with fail
 refine (stay_any base p N S pv T _ (a + 1) w1 hP1 (by omega) hT (by simp only []; omega) hl (by have := hK1.size; omega)).mono ?_
 rintro e w2 ⟨rfl, hP2, hk2⟩
 have HP2 := Lib.hid hP2
 have HK2 := Lib.hid (hK1.trans hk2)
 have hlt := hP2.low
 obtain ⟨q2, v2, hB2⟩ := hP2
 have c14 := hB2.blk.cell 14 (u := .int .i64 (a : Int)) rfl
 have f14 := hB2.blk.frozen 14
 have hl1 := hlt.2
 clear hB2 hlt hk2 hK1 hP1
 go_wp2_with fail
 go_end0
 refine ⟨rfl, ?_, HK2.out.trans (KeepU.ob (Keep.setOb _ _ _ _) HL.out.1)⟩
 exact HP2.out.set { P with out := P.out ++ seg T.toList a (a + 1), pos := a + 1, last := -1 } 14 _ (by decide) rfl (fun _ _ => rfl)
end Go.Proofs.Ytkidjbfapldmbaa
