import Derived.Test.YtkidjbfapldmbaaZCount
import Derived.Test.YtkidjbfapldmbaaZBase
import Derived.Deep.AppendLies
import Derived.Deep.DrawnRows
set_option linter.unusedVariables false
set_option linter.unusedSimpArgs false
namespace Go.Proofs.Ytkidjbfapldmbaa
open Go.RowKit P8
attribute [local go_sem ↓] Go.wp_at_zero Go.wp_at_succ
def rowsOf (ps : List (Nd × Value)) : List Value := ps.flatMap fun p => (Nd.row p.1 p.2).toList
theorem rowsOf_append (a b : List (Nd × Value)) : rowsOf (a ++ b) = rowsOf a ++ rowsOf b := by simp [rowsOf]
theorem rowsOf_length (a : List (Nd × Value)) : (rowsOf a).length = a.length * 10 := by
 induction a with
 | nil => rfl
 | cons p r ih => rw [show p :: r = [p] ++ r from rfl, rowsOf_append, List.length_append, ih]; simp [rowsOf, Nd.row]; omega
theorem rowsOf_cons (p : Nd × Value) (r : List (Nd × Value)) : rowsOf (p :: r) = (Nd.row p.1 p.2).toList ++ rowsOf r := rfl
theorem rowsOf_get (a : List (Nd × Value)) (i : Nat) (hi : i < a.length) (m : Nat) (hm : m < 10) : (rowsOf a)[i * 10 + m]? = (Nd.row a[i].1 a[i].2)[m]? := by
 induction a generalizing i with
 | nil => simp at hi
 | cons p r ih =>
  rw [rowsOf_cons]
  cases i with
  | zero =>
   rw [List.getElem?_append_left (by simp [Nd.row]; omega)]
   simp
  | succ i =>
   rw [List.getElem?_append_right (by simp [Nd.row]; omega)]
   have := ih i (by simpa using hi)
   simp only [List.getElem_cons_succ]
   rw [← this]
   congr 1
   simp [Nd.row]
   omega
theorem LiesPL_owns {Ok : Nat → Prop} {w : World} {base : Nat} {e : TypeId} {v : Value} {ps : List (Nd × Value)} (h : w.ownsRow base e 10 v ps.length (rowsOf ps)) (hl : ∀ p ∈ ps, LiesP Ok w p.1 p.2) (hok : ∀ g, v.ownBlock = some g → Ok g) :
  ∃ A cap, v = .slice A ps.length cap ∧ ps.length ≤ cap ∧ cap ≤ maxLen ∧ LiesPL Ok w A 0 (ps.map (·.1)) := by
 rcases h.2 with ⟨rfl, h0⟩ | ⟨g, cap, cur, rfl, hb, hg, h1, h2, h3, h4⟩
 ·have : ps = [] := by simpa using h0
  subst this
  exact ⟨none, 0, rfl, by simp, by simp [maxLen], by simp [LiesPL]⟩
 ·refine ⟨_, cap, rfl, h1, h2, LiesPL_of fun j hj => ?_⟩
  have hj' : j < ps.length := by simpa using hj
  refine ⟨g, 0, ps[j].2, rfl, hok g rfl, fun m u hu => ?_, by simpa using hl _ (List.getElem_mem hj')⟩
  have hm : m < 10 := by
   rcases Nat.lt_or_ge m 10 with h | h
   ·exact h
   ·rw [Array.getElem?_eq_none (by simp [Nd.row]; omega)] at hu; simp at hu
  have hget := rowsOf_get ps j hj' m hm
  simp only [List.getElem_map] at hu
  rw [hu] at hget
  have h5 := h4
  rw [← h5, List.getElem?_take] at hget
  split at hget
  ·rw [World.cell?]
   simp only [hg]
   simpa using hget
  ·simp at hget
theorem grow_lies {B : Nat} {wr w2 w3 w4 : World} {o : Obj} {V : Value} {g : Nat} {ps : List (Nd × Value)} {T' : Nd} {S2 : Value} {X : Nat → Prop} (hB : B ≤ wr.heap.size)
  (hpl : ∀ p ∈ ps, LiesP (fun b => B ≤ b ∧ b < wr.heap.size ∧ some b ≠ V.ownBlock) wr p.1 p.2) (hV : ∀ k, V.ownBlock = some k → k < wr.heap.size) (hk : Keep Nb wr w2)
  (hS : LiesP (fun b => wr.heap.size ≤ b ∧ b < w2.heap.size) w2 T' S2) (hg : (w2.alloc o).grownBy w3 V.ownBlock) (hat : V.ownBlock = some g ∨ g = w2.heap.size + 1) (h4 : Keep X w3 w4) (hX : ∀ b, X b → b < B) :
  ∀ p ∈ ps ++ [(T', S2)], LiesP (fun b => B ≤ b ∧ b < w4.heap.size ∧ some b ≠ some g) w4 p.1 p.2 := by
 have s2 := hk.size
 have s3 := hg.size
 have s4 := h4.size
 have sa : (w2.alloc o).heap.size = w2.heap.size + 1 := by simp
 have hk3 : Keep (fun k => some k = V.ownBlock) w2 w3 := Keep.trans ((Keep.refl _ _).alloc o) (Keep.of_grown hg) fun _ _ h => h
 have key : ∀ (T : Nd) (S : Value), LiesP (fun b => B ≤ b ∧ b < w2.heap.size ∧ some b ≠ V.ownBlock) w2 T S → LiesP (fun b => B ≤ b ∧ b < w4.heap.size ∧ some b ≠ some g) w4 T S := fun T S h => by
  have h3 := LiesP_keep hk3 (fun b hb hx => hb.2.2 hx) h
  have h5 := LiesP_keep h4 (fun b hb hx => by have := hX b hx; omega) h3
  refine LiesP_mono (fun b _ _ hb _ => ⟨hb.1, by omega, fun e => ?_⟩) T S h5
  rcases hat with hat | hat
  ·exact hb.2.2 (by rw [hat]; exact e)
  ·have : b = g := by simpa using e
   omega
 intro p hp
 rw [List.mem_append] at hp
 rcases hp with hp | hp
 ·refine key _ _ (LiesP_mono (fun b _ _ hb _ => ⟨hb.1, by omega, hb.2.2⟩) _ _ (Lies_keep hk (hpl p hp)))
 ·obtain rfl : p = (T', S2) := by simpa using hp
  refine key _ _ (LiesP_mono (fun b _ _ hb _ => ⟨by omega, by omega, fun e => ?_⟩) _ _ hS)
  have := hV b e.symm
  omega
def zeroNode : Array Value := #[.int .i64 0, .int .u8 0, .int .u64 0, .int .u64 0, .int .u64 0, .int .u64 0, .int .i64 0, .int .i64 0, .int .i64 0, .slice none 0 0]
theorem info33 : (Try.prog.info? 33).map (fun i => (i.zero, i.size, i.bytes)) = some (some (.agg #[.int .i64 0, .int .u8 0, .int .u64 0, .int .u64 0, .int .u64 0, .int .u64 0, .int .i64 0, .int .i64 0, .int .i64 0, .slice none 0 0]), 10, 96) := by kernel_rfl
theorem size33 : (Try.prog.info? 33).map (·.size) = some 10 := by kernel_rfl
def TheirsSaid (c : Nat) : Prop := ∀ (T : Nd) (_ : count T ≤ c) (v : Value) (w : World) (_ : Lies w T v),
  Calls Try.prog 22 #[.agg (Nd.row T v)] w fun e w' => ∃ S, e = .returned (.agg (Nd.row T S)) ∧ LiesP (fun b => w.heap.size ≤ b ∧ b < w'.heap.size) w' T S ∧ Keep Nb w w'
set_option maxRecDepth 100000 in
set_option maxHeartbeats 2000000 in
theorem theirs_step (c : Nat) (hc : c ≤ 900000) (HI : Hid (TheirsSaid c)) : TheirsSaid (c + 1) := by
 intro T hd v w hl
 rw [Lies_def] at hl
 obtain ⟨A, cap, rfl, h1, h2, hL⟩ := hl
 have hlen : T.l.length ≤ 1000000 := by cases T; rw [count] at hd; have := countL_len ‹_›; simp only [Nd.l]; omega
 have hcl : countL T.l ≤ c := by cases T; rw [count] at hd; simp only [Nd.l]; omega
 unfold maxLen at h2
 obtain ⟨i0, hi0, hz0, hz1, hz2⟩ := info_parts info33
 simp only [Nd.row]
 go_enter Try.func22, Try.ntmps22
 go_wp2_with fail
 go_loopw [21] (fun i wr => ∃ (j : Nat) (ps : List (Nd × Value)) (V : Value), j ≤ T.l.length ∧ i = .int .i64 j ∧ Hid (ps.map (·.1) = T.l.take j) ∧ (∀ p ∈ ps, LiesP (fun b => w.heap.size + 3 ≤ b ∧ b < wr.heap.size ∧ some b ≠ V.ownBlock) wr p.1 p.2) ∧ Hid (ps.length = j) ∧
   wr.ownsRow (w.heap.size + 3) 33 10 V j (rowsOf ps) ∧ Blk wr (w.heap.size + 1 + 1) (Nd.row T V) 33 ∧ Blk wr (w.heap.size + 1) zeroNode 33 ∧
   wr.cell? ⟨w.heap.size, 9, none⟩ = some (.slice A T.l.length cap) ∧ w.heap.size + 1 + 1 < wr.heap.size ∧ Keep Nb w wr) (fun i _ => T.l.length - (intOf i).toNat)
 case atStart =>
  refine ⟨0, [], .slice none 0 0, by omega, rfl, Lib.hid (by simp), by simp, Lib.hid rfl, World.ownsRow_nil _ _ _ _, ?_, ((Blk.new' ?_ _ _).alloc _), by go_simp, by simp, kp⟩
  ·exact Blk.new' (by simp) _ _
  ·simp
 case round =>
  obtain ⟨j, ps, V, hj, rfl, hps, hpl, hpn, hown, hout, hres, hbox, hsz, hk⟩ := hrel
  by_cases hlt : j < T.l.length
  ·obtain ⟨b, off, A2, n2, rfl, hten, hS⟩ := hL.at j hlt
   obtain ⟨c0, c1, c2, c3, c4, c5, c6, c7, c8, c9, lt⟩ := hten.keep hk
   have hlw := hten.lt
   have hcj := countL_get_le T.l j hlt
   have hj0 : (0 : Int) ≤ (j : Int) := by omega
   have hj1 : (j : Int) < (T.l.length : Int) := by omega
   have hbs : w.heap.size < wr.heap.size := by omega
   have hbs1 : w.heap.size + 1 < wr.heap.size := by omega
   have o9 := hout.cell 9 (u := V) rfl
   obtain ⟨X, hX⟩ : ∃ X : Nat → Prop, X = fun k => some k = V.ownBlock := ⟨_, rfl⟩
   have hXb : ∀ k, k < w.heap.size + 3 → ¬ X k := fun k hk' hx => by rw [hX] at hx; have := (hown.lt k hx.symm).1; omega
   have x0 := hXb w.heap.size (by omega)
   have x2 := hXb (w.heap.size + 1 + 1) (by omega)
   have xb := hXb b (by omega)
   have HXb := Lib.hid hXb
   have HX := Lib.hid hX
   clear hX hXb
   have HI2 := HI.out T.l[j] (by omega)
   have HI3 := Lib.hid HI2
   clear HI2
   go_wp2_with fail
   (refine wp_region_f [11] (InX X wr) (by kernel_rfl) (InX.mk kp) (fun hI => ?_))
   (refine wpI_from 0 ?_; (iterate 7 ((first | (refine wpI_take (v := ?_) rfl (by kernel_rfl) (fun _ _ _ h => h) hI rfl ?_ ?_; rotate_left; (focus (rintro _ ⟨E, rfl⟩; go_simp; (try with_reducible rfl)))) | refine wpI_skip rfl (by kernel_rfl) (fun _ _ _ h => h) hI rfl ?_); simp only [Act.put, tk, Nat.reduceAdd])); refine wpI_till ?_)
   (refine wpF_one 7 rfl (by kernel_rfl) rfl (fun K hK => ?_))
   go_simp
   refine (HI3.out _ wr.drew (Lies_keep (hk.trans kp (fun _ _ h => h)) hS)).mono ?_
   rintro e w2 ⟨S2, rfl, hS2, hk2⟩
   have hS2' := hS2
   rw [LiesP_def] at hS2'
   obtain ⟨A3, n3, rfl, _⟩ := hS2'
   simp only [Nd.row]
   have hk2' : Keep Nb wr w2 := Keep.trans kp hk2 (fun _ _ h => h)
   have hown2 := ownsRow_keep hown hk2' (fun _ _ h => h)
   have hout2 := hout.keep hk2' id
   have hres2 := hres.keep hk2' id
   have hbox2 := hk2'.cell hbox id
   have hk3 := hk.trans hk2' (fun _ _ h => h)
   have hsz2 := hk2'.size
   clear hk2
   (refine hK _ _ (fun _ => InX.mk (hk2'.mono fun _ _ h => h.elim)) (fun hI => ?_); have hI := hI (by simp); clear hK K; try simp only [Act.put, tk])
   (refine wpF_one 8 rfl (by kernel_rfl) rfl (fun K hK => ?_))
   go_simp
   (refine hK _ _ (fun _ => InX.mk (Keep.alloc (hk2'.mono fun _ _ h => h.elim) _)) (fun hI => ?_); have hI := hI (by simp); clear hK K; try simp only [Act.put, tk])
   (refine wpF_one 9 rfl (by kernel_rfl) rfl (fun K hK => ?_))
   refine wp_append_lies _ (.tmp 25) (.tmp 32) 31 rfl (w.heap.size + 3) 33 i0 _ 10 96 Try.underlying31 hi0 hz0 hz1 hz2 rfl (by omega) V j (rowsOf ps) rfl (hown2.alloc _)
    ⟨w2.heap.size, 0, none⟩ 1 1 (Nd.row T.l[j] (.slice A3 T.l[j].l.length n3)).toList rfl rfl (World.news_of_block (heap_alloc_new w2 _)) (by simp [Nd.row, Value.oneCell']) (by omega) (by unfold maxLen; omega) (by omega) (by simp; omega) (w2.heap.size + 1) (by simp) ?_
   intro g n4 w3 hown3 hgrow hat hlt3
   have hgr := Lib.hid hgrow
   clear hgrow
   have hkx : Keep X wr w3 := Keep.trans (Keep.alloc (hk2'.mono fun _ _ h => h.elim) _) (Keep.of_grown hgr.out) (fun k _ h => by rw [HX.out]; exact h)
   have hout3 := hout.keep hkx x2
   have hres3 := hres.keep hkx (HXb.out _ (by omega))
   have hbox3 := hkx.cell hbox x0
   have o93 := hout3.cell 9 (u := V) rfl
   have o93f := hout3.frozen 9
   have hsz3 := hkx.size
   (refine hK _ _ (fun _ => InX.mk hkx) (fun hI => ?_); have hI := hI (by simp); clear hK K; try simp only [Act.put, tk])
   (refine wpF_take2 (v := ?_) 10 rfl (by kernel_rfl) (fun _ _ _ h => h) hI rfl ?_ ?_; rotate_left; (focus (rintro _ ⟨E, rfl⟩; go_simp; (try with_reducible rfl))); simp only [Act.put, tk])
   (refine wpF_one 11 rfl (by kernel_rfl) rfl (fun K hK => ?_))
   go_simp
   (refine hK _ _ (fun h => absurd (by simp) h) (fun _ => ?_); clear hK K; try simp only [Act.put, tk])
   (refine wpF_done (by kernel_rfl) ?_ _)
   have hst : Keep (Ob (w.heap.size + 1 + 1)) w3 (w3.setCell ⟨w.heap.size + 1 + 1, 9, none⟩ (.slice (some ⟨g, 0, none⟩) (j + 1) n4)) := Keep.setCell (X := Ob (w.heap.size + 1 + 1)) (p := ⟨w.heap.size + 1 + 1, 9, none⟩) (Keep.refl _ _) (Or.inr rfl) _
   have hgl := grow_lies (B := w.heap.size + 3) (by omega) hpl (fun k hk' => (hown.lt k hk').2) hk2' hS2 hgr.out hat hst (fun b hb => by rw [Ob] at hb; omega)
   have HGL := Lib.hid hgl
   clear hgl
   go_wp2_with fail
   go_roundw
   case rel =>
    refine ⟨j + 1, ps ++ [(T.l[j], .slice A3 T.l[j].l.length n3)], .slice (some ⟨g, 0, none⟩) (j + 1) n4, by omega, by go_num, Lib.hid ?_, HGL.out, Lib.hid ?_, ?_, ?_, ?_, ?_, ?_, ?_⟩
    ·rw [List.map_append, hps.out, List.take_succ_eq_append_getElem hlt]; rfl
    ·rw [List.length_append, hpn.out]; rfl
    ·rw [rowsOf_append]
     refine ownsRow_keep ?_ hst (fun k hk' => ?_)
     ·simpa [rowsOf] using hown3
     ·rw [Ob]; simp only [Value.ownBlock, Option.some.injEq] at hk'; have := hown3.lt g rfl; omega
    ·exact hout3.set 9 _
    ·exact hres3.setOther (by simp) _
    ·exact hst.cell hbox3 (by simp [Ob]; omega)
    ·simp [World.setCell]; omega
    ·exact (hk.trans hkx (fun k hk' hx => (HXb.out k (by omega) hx).elim)).setCell (Or.inl (by simp; omega)) _
   case measure => simp [intOf]; omega
  ·obtain rfl : j = T.l.length := by omega
   have hV : ∃ A2 c2, V = .slice A2 T.l.length c2 := by
    rcases hown.2 with ⟨rfl, h0⟩ | ⟨g, c, _, rfl, _⟩
    ·exact ⟨none, 0, by rw [h0]⟩
    ·exact ⟨_, _, rfl⟩
   obtain ⟨A2, c2, rfl⟩ := hV
   go_wp2_with (first
    | (refine wpList_load_row rfl 33 (.tmp 3) rfl (w.heap.size + 1 + 1) rfl 33 _ (0, 0) _ hout Try.underlying33 rfl size33 ?_)
    | (refine wpList_store_row rfl 33 (.tmp 2) (.tmp 36) rfl (w.heap.size + 1) _ rfl rfl 33 _ hres size33 rfl (by simp [Nd.row, Value.oneCell']) ?_))
   have hl := LiesPL_owns (Ok := fun b => (w.heap.size ≤ b ∧ b < wr.heap.size) ∧ w.heap.size + 3 ≤ b) (by rw [hpn.out]; exact hown) (fun p hp => LiesP_mono (fun b _ _ hb _ => ⟨⟨by omega, hb.2.1⟩, hb.1⟩) _ _ (hpl p hp)) (fun g hg => ⟨⟨by have := (hown.lt g hg).1; omega, (hown.lt g hg).2⟩, (hown.lt g hg).1⟩)
   obtain ⟨A4, c4, hAe, hc1, hc2, hLL⟩ := hl
   rw [hpn.out] at hAe hc1
   simp only [Value.slice.injEq] at hAe
   obtain ⟨rfl, _, rfl⟩ := hAe
   rw [hps.out, List.take_length] at hLL
   have hres5 := hres.setRow (Nd.row T (.slice A2 T.l.length c2))
   have hst : Keep (Ob (w.heap.size + 1)) wr (wr.setRow (w.heap.size + 1) (Nd.row T (.slice A2 T.l.length c2))) := Keep.setRow (X := Ob (w.heap.size + 1)) (Keep.refl _ _) (Or.inr rfl) _
   refine bodyPost_ret (v := .agg (Nd.row T (.slice A2 T.l.length c2))) (results_cell_row Try.results22 _ _ (w.heap.size + 1) 33 _ (0, 0) _ rfl hres5 Try.underlying33 rfl size33) rfl ⟨_, rfl, ?_, ?_⟩
   ·rw [LiesP_def]
    refine ⟨A2, c2, rfl, hc1, hc2, ?_⟩
    refine LiesPL_mono (fun b _ _ hb _ => ⟨hb.1.1, by have := hst.size; omega⟩) _ _ _ (LiesPL_cells (fun b off u ho hc => hst.cell (p := ⟨b, off, none⟩) hc (by simp only [Ob]; omega)) _ _ _ hLL)
   ·exact hk.setRow (Or.inl (by omega)) _
theorem theirs_any : ∀ (c : Nat) (_ : c ≤ 900000), TheirsSaid c
 | 0, _ => fun T h => by have := count_pos T; omega
 | c + 1, h => theirs_step c (by omega) (theirs_any c (by omega))
end Go.Proofs.Ytkidjbfapldmbaa
