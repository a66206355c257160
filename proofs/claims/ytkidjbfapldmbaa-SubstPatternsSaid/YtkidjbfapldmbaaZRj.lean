import Derived.Test.YtkidjbfapldmbaaZRd
set_option linter.unusedVariables false
set_option linter.unusedSimpArgs false
namespace Go.Proofs.Ytkidjbfapldmbaa
open Go.RowKit P8
attribute [local go_sem ↓] Go.wp_at_zero Go.wp_at_succ
def flatT (k : Int) (l : List Nd) : List Nd := l.flatMap fun x => if x.h.k = k then x.l else [x]
theorem flatT_take (k : Int) (l : List Nd) (j : Nat) (hj : j < l.length) : flatT k (l.take (j + 1)) = flatT k (l.take j) ++ (if l[j].h.k = k then l[j].l else [l[j]]) := by
 rw [List.take_succ_eq_append_getElem hj, flatT, List.flatMap_append]; simp [flatT]
theorem flatT_len (k : Int) : ∀ l : List Nd, (flatT k l).length ≤ countL l
 | [] => by simp [flatT, countL]
 | x :: r => by
  have h1 := flatT_len k r
  have h2 := count_pos x
  have h3 : (if x.h.k = k then x.l else [x]).length ≤ count x := by
   split
   ·cases x; rw [count]; have := countL_len ‹_›; simp only [Nd.l]; omega
   ·simpa using h2
  rw [flatT, List.flatMap_cons, List.length_append, countL]
  simp only [flatT] at h1
  omega
theorem flatT_take_len (k : Int) (l : List Nd) (j : Nat) : (flatT k (l.take j)).length ≤ countL l := by
 have h1 := flatT_len k (l.take j)
 have h2 := countL_split l j
 omega
theorem grown_lies {Ok Ok' : Nat → Prop} {w w' : World} {V V' : Value} {H : Nat} (hH : w.heap.size = H) (hg : w.grownBy w' V.ownBlock) (hat : V'.ownBlock = V.ownBlock ∨ V'.ownBlock = some H) (hO : ∀ b, Ok b → b < H ∧ some b ≠ V.ownBlock)
  (hOk : ∀ b, Ok b → b < w'.heap.size → some b ≠ V'.ownBlock → Ok' b) {T : Nd} {S : Value} (h : LiesP Ok w T S) : LiesP Ok' w' T S := by
 have s1 := hg.size
 refine LiesP_mono (fun b _ _ hb _ => hOk b hb (by have := (hO b hb).1; omega) (fun e => ?_)) _ _ (LiesP_keep (Keep.of_grown hg) (fun b hb h => (hO b hb).2 h) h)
 rcases hat with hat | hat
 ·exact (hO b hb).2 (by rw [← hat]; exact e)
 ·rw [hat] at e; have := (hO b hb).1; simp at e; omega
set_option maxRecDepth 100000 in
set_option maxHeartbeats 2000000 in
theorem rflat_any (k : Int) (l : List Nd) (hcl : countL l ≤ 900000) (A : Option Addr) (cap : Nat) (w : World) {Ok : Nat → Prop} (hL : LiesPL Ok w A 0 l) :
  Calls Try.prog 62 #[.int .i64 k, .slice A l.length cap] w fun e w' => ∃ A' c', e = .returned (.slice A' (flatT k l).length c') ∧ (flatT k l).length ≤ c' ∧ c' ≤ maxLen ∧ LiesPL (fun b => Ok b ∨ w.heap.size ≤ b) w' A' 0 (flatT k l) ∧ Keep Nb w w' := by
 have hlen : l.length ≤ 900000 := by have := countL_len l; omega
 obtain ⟨i0, hi0, hz0, hz1, hz2⟩ := info_parts info27
 have hfl := flatT_take_len k l
 have HFL := Lib.hid hfl; clear hfl
 go_enter Try.func62, Try.ntmps62
 go_wp2_with fail
 go_loopw [5, 9] (fun o i wr => ∃ (j : Nat) (ps : List (Nd × Value)), j ≤ l.length ∧ i = .int .i64 j ∧ Hid (ps.map (·.1) = flatT k (l.take j)) ∧
   Hid (∀ p ∈ ps, LiesP (fun b => (Ok b ∨ w.heap.size ≤ b) ∧ b < wr.heap.size ∧ some b ≠ o.ownBlock) wr p.1 p.2) ∧ Hid (wr.ownsRow w.heap.size 27 10 o ps.length (rowsOf ps)) ∧ Keep Nb w wr) (fun _ i _ => l.length - (intOf i).toNat)
 case atStart => exact ⟨0, [], by omega, rfl, Lib.hid (by simp [flatT]), Lib.hid (by simp), Lib.hid (World.ownsRow_nil _ _ _ _), kp⟩
 case round =>
  obtain ⟨j, ps, hj, rfl, hps, hpl, hown, hk⟩ := hrel
  have hkz := hk.size
  by_cases hlt : j < l.length
  ·obtain ⟨b, off, A2, n2, rfl, hob, hten, hS⟩ := hL.atP j hlt
   obtain ⟨c0, c1, c2, c3, c4, c5, c6, c7, c8, c9, lt⟩ := hten.keep hk
   have hcj := countL_get_le l j hlt
   have hj0 : (0 : Int) ≤ (j : Int) := by omega
   have hj1 : (j : Int) < (l.length : Int) := by omega
   have hn1 := congrArg List.length hps.out
   rw [List.length_map] at hn1
   have hn2 := HFL.out j
   have hn3 := HFL.out (j + 1)
   have hft := flatT_take k l j hlt
   rw [hft, List.length_append] at hn3
   rw [← hn1] at hn3 hn2
   clear hn1
   by_cases ek : l[j].h.k = k
   ·have m0 : (l[j].h.k == k) = true := by simpa using ek
    rw [if_pos ek] at hft hn3
    have HFT := Lib.hid hft
    clear hft ek
    have hk3 : Keep Nb wr wr := Keep.refl _ _
    have s3 := hk3.size
    have hkw := hk.trans hk3 (fun _ _ h => h)
    have s0 := hkw.size
    have HP2 := Lib.hid (fun p hp => LiesP_mono (Ok' := fun b => (Ok b ∨ w.heap.size ≤ b) ∧ b < (wr).heap.size ∧ some b ≠ u5.ownBlock) (fun b _ _ hb _ => ⟨hb.1, by omega, hb.2.2⟩) _ _ (Lies_keep hk3 (hpl.out p hp)))
    have hvl := hown.out.lt
    have HO2 := Lib.hid (ownsRow_keep hown.out hk3 (fun _ _ h => h))
    obtain ⟨_, _, hAe, _, _, hL2⟩ := LiesP_def.1 hS
    cases hAe
    have HL2 := Lib.hid (LiesPL_mono (Ok' := fun b => (Ok b ∨ w.heap.size ≤ b) ∧ b < wr.heap.size ∧ some b ≠ u5.ownBlock) (fun b _ _ hb _ => ⟨Or.inl hb.1, by omega, fun e => by have := (hvl b e.symm).1; omega⟩) _ _ _ (LiesL_keep hk (LiesPL_mono (Ok' := fun b => Ok b ∧ b < w.heap.size) (fun b _ _ hb hc => ⟨hb, cell_lt hc⟩) _ _ _ hL2)))
    clear hL2 hpl hown hvl hS
    go_wp2_with (refine wpList_append_nodes rfl _ _ 25 rfl w.heap.size 27 i0 _ Try.underlying25 hi0 hz0 hz1 hz2 rfl u5 ps.length ps rfl HO2.out A2 l[j].l n2 rfl HL2.out (by omega) (by omega) ?_)
    intro V' w5 qs g1 g2 g3 g4 g5
    have HG := Lib.hid g4
    have HT := Lib.hid g5
    have HQ := Lib.hid g2
    have HW := Lib.hid g3
    clear g2 g3 g4 g5
    go_wp2_with fail
    go_roundw
    case rel =>
     refine ⟨j + 1, ps ++ qs, by omega, by go_num, Lib.hid ?_, Lib.hid (fun p hp => ?_), Lib.hid ?_, ?_⟩
     ·rw [List.map_append, hps.out, HFT.out, g1]
     ·rcases List.mem_append.1 hp with hp | hp
      ·exact grown_lies rfl HG.out HT.out (fun b hb => ⟨hb.2.1, hb.2.2⟩) (fun b hb h1 h2 => ⟨hb.1, h1, h2⟩) (HP2.out p hp)
      ·exact grown_lies rfl HG.out HT.out (fun b hb => ⟨hb.2.1, hb.2.2⟩) (fun b hb h1 h2 => ⟨hb.1, h1, h2⟩) (HQ.out p.1 p.2 hp)
     ·have hqn := congrArg List.length g1
      rw [List.length_map] at hqn
      rw [List.length_append, hqn]; exact HW.out
     ·exact hkw.trans (Keep.of_grown HG.out) (fun b hb h => by have := (HO2.out.lt b h.symm).1; omega)
    case measure => simp [intOf]; omega
   ·have m0 : (l[j].h.k == k) = false := by simpa using ek
    rw [if_neg ek] at hft hn3
    have hn3 : ps.length + 1 ≤ countL l := by simpa using hn3
    have HFT := Lib.hid hft
    clear hft ek
    have hk3 : Keep Nb wr (wr.alloc (.cells (Nd.row l[j] (.slice A2 l[j].l.length n2)) 27)) := Keep.alloc (Keep.refl _ _) _
    have s3 := hk3.size
    have hkw := hk.trans hk3 (fun _ _ h => h)
    have s0 := hkw.size
    have HP2 := Lib.hid (fun p hp => LiesP_mono (Ok' := fun b => (Ok b ∨ w.heap.size ≤ b) ∧ b < (wr.alloc (.cells (Nd.row l[j] (.slice A2 l[j].l.length n2)) 27)).heap.size ∧ some b ≠ u5.ownBlock) (fun b _ _ hb _ => ⟨hb.1, by omega, hb.2.2⟩) _ _ (Lies_keep hk3 (hpl.out p hp)))
    have hvl := hown.out.lt
    have HO2 := Lib.hid (ownsRow_keep hown.out hk3 (fun _ _ h => h))
    have hsa : (wr.alloc (.cells (Nd.row l[j] (.slice A2 l[j].l.length n2)) 27)).heap.size = wr.heap.size + 1 := by simp
    have HL2 := Lib.hid (one_lies (Ok := fun b => (Ok b ∨ w.heap.size ≤ b) ∧ b < (wr.alloc (.cells (Nd.row l[j] (.slice A2 l[j].l.length n2)) 27)).heap.size ∧ some b ≠ u5.ownBlock) (Blk.new wr (Nd.row l[j] (.slice A2 l[j].l.length n2)) 27) ⟨Or.inr (by omega), by omega, fun e => by have := (hvl _ e.symm).2; omega⟩
     (Lies_keep (Keep.alloc hk _) (LiesP_mono (Ok := fun b => Ok b ∧ b < w.heap.size) (fun b _ _ hb _ => ⟨Or.inl hb.1, by omega, fun e => by have := (hvl b e.symm).1; omega⟩) _ _ (LiesP_mono (fun b _ _ hb hc => ⟨hb, cell_lt hc⟩) _ _ hS))))
    clear hpl hown hvl hS
    rw [hsa] at s3 s0
    simp only [Nd.row] at HP2 HO2 HL2 hkw hsa ⊢
    simp only [hsa] at HP2 HL2
    go_wp2_with (refine wpList_append_nodes rfl _ _ 25 rfl w.heap.size 27 i0 _ Try.underlying25 hi0 hz0 hz1 hz2 rfl u5 ps.length ps rfl HO2.out (some ⟨wr.heap.size, 0, none⟩) [l[j]] 1 rfl HL2.out (by omega) (by omega) ?_)
    intro V' w5 S' g2 g3 g4 g5
    obtain ⟨qs, hqs⟩ : ∃ qs, qs = [(l[j], S')] := ⟨_, rfl⟩
    have g1 : qs.map (·.1) = [l[j]] := by rw [hqs]; rfl
    have g2 : ∀ q1 q2, (q1, q2) ∈ qs → LiesP _ _ q1 q2 := fun q1 q2 hq => by rw [hqs] at hq; simp at hq; obtain ⟨rfl, rfl⟩ := hq; exact g2
    rw [← hqs] at g3
    clear hqs
    have HG := Lib.hid g4
    have HT := Lib.hid g5
    have HQ := Lib.hid g2
    have HW := Lib.hid g3
    clear g2 g3 g4 g5
    go_wp2_with fail
    go_roundw
    case rel =>
     refine ⟨j + 1, ps ++ qs, by omega, by go_num, Lib.hid ?_, Lib.hid (fun p hp => ?_), Lib.hid ?_, ?_⟩
     ·rw [List.map_append, hps.out, HFT.out, g1]
     ·rcases List.mem_append.1 hp with hp | hp
      ·exact grown_lies hsa HG.out HT.out (fun b hb => ⟨hb.2.1, hb.2.2⟩) (fun b hb h1 h2 => ⟨hb.1, h1, h2⟩) (HP2.out p hp)
      ·exact grown_lies hsa HG.out HT.out (fun b hb => ⟨hb.2.1, hb.2.2⟩) (fun b hb h1 h2 => ⟨hb.1, h1, h2⟩) (HQ.out p.1 p.2 hp)
     ·have hqn := congrArg List.length g1
      rw [List.length_map] at hqn
      rw [List.length_append, hqn]; exact HW.out
     ·exact hkw.trans (Keep.of_grown HG.out) (fun b hb h => by have := (HO2.out.lt b h.symm).1; omega)
    case measure => simp [intOf]; omega
  ·obtain rfl : j = l.length := by omega
   have hps1 := hps.out
   rw [List.take_length] at hps1
   have hpn := congrArg List.length hps1
   rw [List.length_map] at hpn
   obtain ⟨A4, c4, hAe, hc1, hc2, hLL⟩ := LiesPL_owns (Ok := fun b => Ok b ∨ w.heap.size ≤ b) hown.out (fun p hp => LiesP_mono (fun b _ _ hb _ => hb.1) _ _ (hpl.out p hp)) (fun g hg => Or.inr (hown.out.lt g hg).1)
   rw [hps1] at hLL
   rw [hpn] at hc1 hAe
   have HAe := Lib.hid hAe
   have HLL := Lib.hid hLL
   clear hAe hLL hps1 hpn
   go_wp2_with fail
   go_ret
   exact ⟨A4, c4, by rw [HAe.out]; rfl, hc1, hc2, HLL.out, hk⟩
def hd0 (k : Int) : Hd := ⟨k, 0, 0, 0, 0, 0, 0, 0, 0⟩
def joinT (l : List Nd) : Nd := if h : (flatT 8 l).length = 1 then (flatT 8 l)[0] else .mk (hd0 8) (flatT 8 l)
def eitherT (l : List Nd) : Nd := if (flatT 9 l).length = 0 then .mk (hd0 8) [] else if h : (flatT 9 l).length = 1 then (flatT 9 l)[0] else .mk (hd0 9) (flatT 9 l)
set_option maxRecDepth 100000 in
set_option maxHeartbeats 1000000 in
theorem rjoin_any (l : List Nd) (hcl : countL l ≤ 900000) (A : Option Addr) (cap : Nat) (w : World) {Ok : Nat → Prop} (hL0 : LiesPL Ok w A 0 l) :
  Calls Try.prog 27 #[.slice A l.length cap] w fun e w' => ∃ S, e = .returned (.agg (Nd.row (joinT l) S)) ∧ LiesP (fun b => Ok b ∨ w.heap.size ≤ b) w' (joinT l) S ∧ Keep Nb w w' := by
 have hL : LiesPL (fun b => Ok b ∧ b < w.heap.size) w A 0 l := LiesPL_mono (fun b _ _ ho hc => ⟨ho, cell_lt hc⟩) _ _ _ hL0
 have hf := flatT_len 8 l
 have hcall := fun wx (hx : LiesPL (fun b => Ok b ∧ b < w.heap.size) wx A 0 l) => rflat_any 8 l hcl A cap wx hx
 generalize hfe : flatT 8 l = f at hf hcall
 by_cases e1 : f.length = 1
 ·have m1 : ((f.length : Int) == 1) = true := by simp [e1]
  have hlt : 0 < f.length := by omega
  have hJ : joinT l = f[0] := by subst hfe; rw [joinT, dif_pos e1]
  have HJ := Lib.hid hJ; clear hJ
  have HC := Lib.hid hcall; clear hcall
  go_enter Try.func27, Try.ntmps27
  go_wp2_with fail
  refine (HC.out _ (LiesL_keep kp hL)).mono ?_
  rintro e w2 ⟨A', c', rfl, hc1, hc2, hL3, hk2⟩
  have hL2 := LiesPL_mono (Ok' := fun b => (Ok b ∨ w.heap.size ≤ b) ∧ b ≠ w.heap.size) (fun b _ _ hb _ => by
   rcases hb with hb | hb
   ·exact ⟨.inl hb.1, by have := hb.2; omega⟩
   ·simp at hb; exact ⟨.inr (by omega), by omega⟩) _ _ _ hL3
  clear hL3
  have hrs : Blk w2 w.heap.size zeroNode 27 := (Blk.new w _ _).keep hk2 id
  have hk2' : Keep Nb w w2 := Keep.trans kp hk2 (fun _ _ h => h)
  clear hk2
  obtain ⟨b, off, A2, n2, rfl, hb, hten, hS⟩ := hL2.atP 0 hlt
  rw [Nat.zero_mul, Nat.add_zero] at hten
  obtain ⟨c0, c1, c2, c3, c4, c5, c6, c7, c8, c9, lt⟩ := hten
  have hi0 : (0 : Int) < (f.length : Int) := by omega
  clear hL2
  go_wp2_with (refine wpList_store_row rfl 27 (.tmp 2) (.tmp 11) rfl w.heap.size _ rfl rfl 27 _ hrs size27 rfl (by simp [Value.oneCell']) ?_)
  have hst : Keep (Ob w.heap.size) w2 (w2.setRow w.heap.size (Nd.row (f[0]) (.slice A2 f[0].l.length n2))) := Keep.setRow (X := Ob w.heap.size) (Keep.refl _ _) (Or.inr rfl) _
  have hr2 : Blk (w2.setRow w.heap.size (Nd.row (f[0]) (.slice A2 f[0].l.length n2))) w.heap.size (Nd.row (f[0]) (.slice A2 f[0].l.length n2)) 27 := hrs.setRow _
  refine bodyPost_ret (v := .agg (Nd.row (f[0]) (.slice A2 f[0].l.length n2))) (results_cell_row Try.results27 _ _ w.heap.size 27 _ (0, 0) _ rfl hr2 Try.underlying27 rfl size27) rfl ⟨.slice A2 f[0].l.length n2, by rw [HJ.out], ?_, Keep.setRow hk2' (Or.inl (Nat.le_refl _)) _⟩
  rw [HJ.out]
  exact LiesP_mono (fun _ _ _ hb _ => hb.1) _ _ (LiesP_keep hst (fun b hb h => hb.2 h) hS)
 ·have m1 : ((f.length : Int) == 1) = false := by simp; omega
  have hJ : joinT l = .mk (hd0 8) f := by subst hfe; rw [joinT, dif_neg e1]
  have HJ := Lib.hid hJ; clear hJ
  have HC := Lib.hid hcall; clear hcall
  go_enter Try.func27, Try.ntmps27
  go_wp2_with fail
  refine (HC.out _ (LiesL_keep kp hL)).mono ?_
  rintro e w2 ⟨A', c', rfl, hc1, hc2, hL3, hk2⟩
  have hL2 := LiesPL_mono (Ok' := fun b => (Ok b ∨ w.heap.size ≤ b) ∧ b ≠ w.heap.size) (fun b _ _ hb _ => by
   rcases hb with hb | hb
   ·exact ⟨.inl hb.1, by have := hb.2; omega⟩
   ·simp at hb; exact ⟨.inr (by omega), by omega⟩) _ _ _ hL3
  clear hL3
  have hrs : Blk w2 w.heap.size zeroNode 27 := (Blk.new w _ _).keep hk2 id
  have hk2' : Keep Nb w w2 := Keep.trans kp hk2 (fun _ _ h => h)
  clear hk2
  go_wp2_with (refine wpList_store_row rfl 27 (.tmp 2) (.tmp 13) rfl w.heap.size _ rfl rfl 27 _ hrs size27 rfl (by simp [Value.oneCell']) ?_)
  have hst : Keep (Ob w.heap.size) w2 (w2.setRow w.heap.size (Nd.row (.mk (hd0 8) f) (Value.slice A' f.length c'))) := Keep.setRow (X := Ob w.heap.size) (Keep.refl _ _) (Or.inr rfl) _
  have hr2 : Blk (w2.setRow w.heap.size (Nd.row (.mk (hd0 8) f) (Value.slice A' f.length c'))) w.heap.size (Nd.row (.mk (hd0 8) f) (Value.slice A' f.length c')) 27 := hrs.setRow _
  refine bodyPost_ret (v := .agg (Nd.row (.mk (hd0 8) f) (Value.slice A' f.length c'))) (results_cell_row Try.results27 _ _ w.heap.size 27 _ (0, 0) _ rfl hr2 Try.underlying27 rfl size27) rfl ⟨Value.slice A' f.length c', by rw [HJ.out], ?_, Keep.setRow hk2' (Or.inl (Nat.le_refl _)) _⟩
  rw [HJ.out]
  exact LiesP_def.2 ⟨_, _, rfl, hc1, hc2, LiesPL_mono (fun _ _ _ hb _ => hb.1) _ _ _ (LiesPL_cells (fun b off u ho hc => hst.cell (p := ⟨b, off, none⟩) hc ho.2) _ _ _ hL2)⟩
set_option maxRecDepth 100000 in
set_option maxHeartbeats 1000000 in
theorem reither_any (l : List Nd) (hcl : countL l ≤ 900000) (A : Option Addr) (cap : Nat) (w : World) {Ok : Nat → Prop} (hL0 : LiesPL Ok w A 0 l) :
  Calls Try.prog 29 #[.slice A l.length cap] w fun e w' => ∃ S, e = .returned (.agg (Nd.row (eitherT l) S)) ∧ LiesP (fun b => Ok b ∨ w.heap.size ≤ b) w' (eitherT l) S ∧ Keep Nb w w' := by
 have hL : LiesPL (fun b => Ok b ∧ b < w.heap.size) w A 0 l := LiesPL_mono (fun b _ _ ho hc => ⟨ho, cell_lt hc⟩) _ _ _ hL0
 have hf := flatT_len 9 l
 have hcall := fun wx (hx : LiesPL (fun b => Ok b ∧ b < w.heap.size) wx A 0 l) => rflat_any 9 l hcl A cap wx hx
 generalize hfe : flatT 9 l = f at hf hcall
 by_cases e0 : f.length = 0
 ·have m0 : ((f.length : Int) == 0) = true := by simp [e0]
  have hJ : eitherT l = .mk (hd0 8) [] := by subst hfe; rw [eitherT, if_pos e0]
  have HJ := Lib.hid hJ; clear hJ
  have HC := Lib.hid hcall; clear hcall
  go_enter Try.func29, Try.ntmps29
  go_wp2_with fail
  refine (HC.out _ (LiesL_keep kp hL)).mono ?_
  rintro e w2 ⟨A', c', rfl, hc1, hc2, hL3, hk2⟩
  have hL2 := LiesPL_mono (Ok' := fun b => (Ok b ∨ w.heap.size ≤ b) ∧ b ≠ w.heap.size) (fun b _ _ hb _ => by
   rcases hb with hb | hb
   ·exact ⟨.inl hb.1, by have := hb.2; omega⟩
   ·simp at hb; exact ⟨.inr (by omega), by omega⟩) _ _ _ hL3
  clear hL3
  have hrs : Blk w2 w.heap.size zeroNode 27 := (Blk.new w _ _).keep hk2 id
  have hk2' : Keep Nb w w2 := Keep.trans kp hk2 (fun _ _ h => h)
  clear hk2
  go_wp2_with (refine wpList_store_row rfl 27 (.tmp 2) (.tmp 10) rfl w.heap.size _ rfl rfl 27 _ hrs size27 rfl (by simp [Value.oneCell']) ?_)
  have hst : Keep (Ob w.heap.size) w2 (w2.setRow w.heap.size (Nd.row (.mk (hd0 8) []) (Value.slice none 0 0))) := Keep.setRow (X := Ob w.heap.size) (Keep.refl _ _) (Or.inr rfl) _
  have hr2 : Blk (w2.setRow w.heap.size (Nd.row (.mk (hd0 8) []) (Value.slice none 0 0))) w.heap.size (Nd.row (.mk (hd0 8) []) (Value.slice none 0 0)) 27 := hrs.setRow _
  refine bodyPost_ret (v := .agg (Nd.row (.mk (hd0 8) []) (Value.slice none 0 0))) (results_cell_row Try.results29 _ _ w.heap.size 27 _ (0, 0) _ rfl hr2 Try.underlying27 rfl size27) rfl ⟨Value.slice none 0 0, by rw [HJ.out], ?_, Keep.setRow hk2' (Or.inl (Nat.le_refl _)) _⟩
  rw [HJ.out]
  exact LiesP_def.2 ⟨none, 0, rfl, Nat.le_refl _, Nat.zero_le _, by simp [Nd.l, LiesPL]⟩
 have m0 : ((f.length : Int) == 0) = false := beq_eq_false_iff_ne.2 (by omega)
 by_cases e1 : f.length = 1
 ·have m1 : ((f.length : Int) == 1) = true := by simp [e1]
  have hlt : 0 < f.length := by omega
  have hJ : eitherT l = f[0] := by subst hfe; rw [eitherT, if_neg e0, dif_pos e1]
  have HJ := Lib.hid hJ; clear hJ
  have HC := Lib.hid hcall; clear hcall
  go_enter Try.func29, Try.ntmps29
  go_wp2_with fail
  refine (HC.out _ (LiesL_keep kp hL)).mono ?_
  rintro e w2 ⟨A', c', rfl, hc1, hc2, hL3, hk2⟩
  have hL2 := LiesPL_mono (Ok' := fun b => (Ok b ∨ w.heap.size ≤ b) ∧ b ≠ w.heap.size) (fun b _ _ hb _ => by
   rcases hb with hb | hb
   ·exact ⟨.inl hb.1, by have := hb.2; omega⟩
   ·simp at hb; exact ⟨.inr (by omega), by omega⟩) _ _ _ hL3
  clear hL3
  have hrs : Blk w2 w.heap.size zeroNode 27 := (Blk.new w _ _).keep hk2 id
  have hk2' : Keep Nb w w2 := Keep.trans kp hk2 (fun _ _ h => h)
  clear hk2
  obtain ⟨b, off, A2, n2, rfl, hb, hten, hS⟩ := hL2.atP 0 hlt
  rw [Nat.zero_mul, Nat.add_zero] at hten
  obtain ⟨c0, c1, c2, c3, c4, c5, c6, c7, c8, c9, lt⟩ := hten
  have hi0 : (0 : Int) < (f.length : Int) := by omega
  clear hL2
  go_wp2_with (refine wpList_store_row rfl 27 (.tmp 2) (.tmp 15) rfl w.heap.size _ rfl rfl 27 _ hrs size27 rfl (by simp [Value.oneCell']) ?_)
  have hst : Keep (Ob w.heap.size) w2 (w2.setRow w.heap.size (Nd.row (f[0]) (.slice A2 f[0].l.length n2))) := Keep.setRow (X := Ob w.heap.size) (Keep.refl _ _) (Or.inr rfl) _
  have hr2 : Blk (w2.setRow w.heap.size (Nd.row (f[0]) (.slice A2 f[0].l.length n2))) w.heap.size (Nd.row (f[0]) (.slice A2 f[0].l.length n2)) 27 := hrs.setRow _
  refine bodyPost_ret (v := .agg (Nd.row (f[0]) (.slice A2 f[0].l.length n2))) (results_cell_row Try.results29 _ _ w.heap.size 27 _ (0, 0) _ rfl hr2 Try.underlying27 rfl size27) rfl ⟨.slice A2 f[0].l.length n2, by rw [HJ.out], ?_, Keep.setRow hk2' (Or.inl (Nat.le_refl _)) _⟩
  rw [HJ.out]
  exact LiesP_mono (fun _ _ _ hb _ => hb.1) _ _ (LiesP_keep hst (fun b hb h => hb.2 h) hS)
 ·have m1 : ((f.length : Int) == 1) = false := by simp; omega
  have hJ : eitherT l = .mk (hd0 9) f := by subst hfe; rw [eitherT, if_neg e0, dif_neg e1]
  have HJ := Lib.hid hJ; clear hJ
  have HC := Lib.hid hcall; clear hcall
  go_enter Try.func29, Try.ntmps29
  go_wp2_with fail
  refine (HC.out _ (LiesL_keep kp hL)).mono ?_
  rintro e w2 ⟨A', c', rfl, hc1, hc2, hL3, hk2⟩
  have hL2 := LiesPL_mono (Ok' := fun b => (Ok b ∨ w.heap.size ≤ b) ∧ b ≠ w.heap.size) (fun b _ _ hb _ => by
   rcases hb with hb | hb
   ·exact ⟨.inl hb.1, by have := hb.2; omega⟩
   ·simp at hb; exact ⟨.inr (by omega), by omega⟩) _ _ _ hL3
  clear hL3
  have hrs : Blk w2 w.heap.size zeroNode 27 := (Blk.new w _ _).keep hk2 id
  have hk2' : Keep Nb w w2 := Keep.trans kp hk2 (fun _ _ h => h)
  clear hk2
  go_wp2_with (refine wpList_store_row rfl 27 (.tmp 2) (.tmp 17) rfl w.heap.size _ rfl rfl 27 _ hrs size27 rfl (by simp [Value.oneCell']) ?_)
  have hst : Keep (Ob w.heap.size) w2 (w2.setRow w.heap.size (Nd.row (.mk (hd0 9) f) (Value.slice A' f.length c'))) := Keep.setRow (X := Ob w.heap.size) (Keep.refl _ _) (Or.inr rfl) _
  have hr2 : Blk (w2.setRow w.heap.size (Nd.row (.mk (hd0 9) f) (Value.slice A' f.length c'))) w.heap.size (Nd.row (.mk (hd0 9) f) (Value.slice A' f.length c')) 27 := hrs.setRow _
  refine bodyPost_ret (v := .agg (Nd.row (.mk (hd0 9) f) (Value.slice A' f.length c'))) (results_cell_row Try.results29 _ _ w.heap.size 27 _ (0, 0) _ rfl hr2 Try.underlying27 rfl size27) rfl ⟨Value.slice A' f.length c', by rw [HJ.out], ?_, Keep.setRow hk2' (Or.inl (Nat.le_refl _)) _⟩
  rw [HJ.out]
  exact LiesP_def.2 ⟨_, _, rfl, hc1, hc2, LiesPL_mono (fun _ _ _ hb _ => hb.1) _ _ _ (LiesPL_cells (fun b off u ho hc => hst.cell (p := ⟨b, off, none⟩) hc ho.2) _ _ _ hL2)⟩
theorem countL_flatT (k : Int) : ∀ l : List Nd, countL (flatT k l) ≤ countL l
 | [] => by simp [flatT, countL]
 | x :: r => by
  have h1 := countL_flatT k r
  have h2 := count_pos x
  have h3 : countL (if x.h.k = k then x.l else [x]) ≤ count x := by
   split
   ·cases x; rw [count]; simp only [Nd.l]; omega
   ·simp [countL]
  rw [flatT, List.flatMap_cons, countL_append, countL]
  simp only [flatT] at h1
  omega
theorem count_joinT (l : List Nd) : count (joinT l) ≤ 1 + countL l := by
 have h := countL_flatT 8 l
 rw [joinT]
 split
 ·rename_i h1
  have := countL_get_le (flatT 8 l) 0 (by omega)
  omega
 ·rw [count]; omega
theorem count_eitherT (l : List Nd) : count (eitherT l) ≤ 1 + countL l := by
 have h := countL_flatT 9 l
 rw [eitherT]
 split
 ·rw [count, countL]; omega
 split
 ·rename_i h1
  have := countL_get_le (flatT 9 l) 0 (by omega)
  omega
 ·rw [count]; omega
mutual
theorem LiesP_rows {Ok Ok' : Nat → Prop} {w : World} (hc : ∀ b off T S, Ok b → (∀ m u, (Nd.row T S)[m]? = some u → w.cell? ⟨b, off + m, none⟩ = some u) → Ok' b) : ∀ (T : Nd) (v : Value), LiesP Ok w T v → LiesP Ok' w T v
 | .mk _ l, v, h => by
  rw [LiesP] at h ⊢
  obtain ⟨A, cap, rfl, h1, h2, h3⟩ := h
  exact ⟨A, cap, rfl, h1, h2, LiesPL_rows hc l A 0 h3⟩
theorem LiesPL_rows {Ok Ok' : Nat → Prop} {w : World} (hc : ∀ b off T S, Ok b → (∀ m u, (Nd.row T S)[m]? = some u → w.cell? ⟨b, off + m, none⟩ = some u) → Ok' b) : ∀ (l : List Nd) (A : Option Addr) (i : Nat), LiesPL Ok w A i l → LiesPL Ok' w A i l
 | [], _, _, _ => by rw [LiesPL]; trivial
 | x :: r, A, i, h => by
  rw [LiesPL] at h ⊢
  obtain ⟨⟨b, off, S, hA, hb, hx, hs⟩, hr⟩ := h
  exact ⟨⟨b, off, S, hA, hc b (off + i * 10) x S hb hx, hx, LiesP_rows hc x S hs⟩, LiesPL_rows hc r A (i + 1) hr⟩
end
theorem row_off {w : World} {p : Nat} {s : ByteArray} {a : Nat} {x : Bool} {g : Nat} {b : Bool} (hb : PdAt w p s a x g b) {q off : Nat} {T : Nd} {S : Value}
  (h : ∀ m u, (Nd.row T S)[m]? = some u → w.cell? ⟨q, off + m, none⟩ = some u) : q ≠ p := by
 rintro rfl
 have h1 := h 1 (.int .u8 T.h.c) rfl
 have h2 := h 2 (.int .u64 T.h.s0) rfl
 have e : ∀ o, w.cell? ⟨q, o, none⟩ = (#[Value.string s, .int .i64 (a : Int), .bool x, .int .i64 (g : Int), .bool b])[o]? := fun o => by
  unfold World.cell?; rw [hb]; simp
 rw [e] at h1
 have : off = 0 ∨ off = 1 ∨ off = 2 ∨ off = 3 ∨ 4 ≤ off := by omega
 rcases this with rfl | rfl | rfl | rfl | h4
 ·simp at h1
 ·simp at h1
 ·simp at h1
 ·simp at h1
 ·rw [Array.getElem?_eq_none (by simp; omega)] at h1; cases h1
def ReadR (p : Nat) (s : ByteArray) (x : Bool) (a K : Nat) (w w' : World) (e : Ending) : Prop :=
 ∃ (T : Nd) (S : Value) (a' g' : Nat) (b' : Bool), e = .returned (.agg (Nd.row T S)) ∧ LiesP (fun q => w.heap.size ≤ q) w' T S ∧ PdAt w' p s a' x g' b' ∧ Keep (Ob p) w w' ∧ (a ≤ a' ∧ a' ≤ s.size ∧ g' ≤ 9) ∧ (b' = false → a < a') ∧ count T ≤ 4 * (a' - a) + (if b' = true then 1 else 0) + K
theorem lies_leaf {Ok : Nat → Prop} (w : World) (h : Hd) : LiesP Ok w (.mk h []) (.slice none 0 0) := by
 exact LiesP_def.2 ⟨none, 0, rfl, by simp [Nd.l], by unfold maxLen; omega, by simp [Nd.l, LiesPL]⟩
theorem byte_of2 {s : ByteArray} {a : Nat} (h : a < s.size) : ∃ d : UInt8, ∃ h : a < s.size, s[a] = d := ⟨_, h, rfl⟩
theorem ReadR.fail {p : Nat} {s : ByteArray} {x : Bool} {a a' g K : Nat} {w w' : World} (hb : PdAt w' p s a' x g true) (hk : Keep (Ob p) w w') (ha : a ≤ a' ∧ a' ≤ s.size ∧ g ≤ 9) :
  ReadR p s x a K w w' (.returned (.agg (Nd.row nd0 (.slice none 0 0)))) :=
 ⟨nd0, _, a', g, true, rfl, lies_leaf _ _, hb, hk, ha, by simp, by simp [nd0, count, countL]; omega⟩
theorem ReadR.leaf {p : Nat} {s : ByteArray} {x : Bool} {a a' g K : Nat} {w w' : World} (h : Hd) {v : Value} (hv : v = .agg (Nd.row (.mk h []) (.slice none 0 0))) (hb : PdAt w' p s a' x g false) (hk : Keep (Ob p) w w') (ha : a < a' ∧ a' ≤ s.size ∧ g ≤ 9) :
  ReadR p s x a K w w' (.returned v) :=
 ⟨.mk h [], _, a', g, false, by rw [hv], lies_leaf _ _, hb, hk, ⟨by omega, ha.2⟩, fun _ => ha.1, by simp [count, countL]; omega⟩
set_option maxRecDepth 100000 in
set_option maxHeartbeats 8000000 in
theorem pescaped_any (p : Nat) (s : ByteArray) (a : Nat) (x : Bool) (g : Nat) (w : World) (hb : PdAt w p s a x g false) (ha : a < s.size) (hs : s.size ≤ 600) (hg : g ≤ 9) :
  Calls Try.prog 117 #[.pointer (some ⟨p, 0, none⟩)] w fun e w' => ReadR p s x a 0 w w' e := by
 have HS := Lib.hid hs
 have HA := Lib.hid ha
 have HG := Lib.hid hg
 have hl := hb.lt
 have W0 : IntKind.i64.wrap ((s.size : Int) - (a : Int)) = (s.size : Int) - (a : Int) := wr_small (by omega) (by omega)
 have W1 : IntKind.i64.wrap ((a : Int) + 1) = (a : Int) + 1 := wr_small (by omega) (by omega)
 have W2 : IntKind.i64.wrap ((a : Int) + 2) = (a : Int) + 2 := wr_small (by omega) (by omega)
 go_enter Try.func117, Try.ntmps117
 go_upto_region 1 with fail
 have hb1 : PdAt (w.alloc (.cells zeroNode 27)) p s a x g false := hb.alloc _
 have hr1 : Blk (w.alloc (.cells zeroNode 27)) w.heap.size zeroNode 27 := Blk.new w _ _
 have hk1 : Keep Nb w (w.alloc (.cells zeroNode 27)) := Keep.alloc (Keep.refl _ _) _
 have hsz : (w.alloc (.cells zeroNode 27)).heap.size = w.heap.size + 1 := by simp
 simp only [zeroNode] at hb1 hr1 hk1 hsz
 generalize w.alloc (.cells #[.int .i64 0, .int .u8 0, .int .u64 0, .int .u64 0, .int .u64 0, .int .u64 0, .int .i64 0, .int .i64 0, .int .i64 0, .slice none 0 0] 27) = w1 at hb1 hr1 hk1 hsz ⊢
 have c0 := hb1.cell 0 (u := .string s) rfl
 have c1 := hb1.cell 1 (u := .int .i64 (a : Int)) rfl
 have hl1 := hb1.lt
 have hne : p ≠ w.heap.size := by omega
 have HNE := Lib.hid hne
 clear hs ha hg
 by_cases h2 : a + 2 ≤ s.size
 ·obtain ⟨d, b1, e1⟩ := byte_of2 (show a + 1 < s.size by omega)
  have j0 : (0 : Int) ≤ (a : Int) + 1 := by omega
  have j1 : (a : Int) + 1 < (s.size : Int) := by omega
  have j2 : decide ((s.size : Int) - (a : Int) < 2) = false := by simp; omega
  have j3 : ((a : Int) + 1).toNat = a + 1 := by omega
  have H2 := Lib.hid h2
  clear h2
  go_wp2_with fail
  (refine wp_region_f [] (InX Nb _) (by kernel_rfl) (InX.mk (Keep.drew (Keep.refl _ _))) (fun hI => ?_))
  have xx : ∀ k, ¬ Nb k := fun _ h => h
  have hD : Keep Nb w1 w1.drew := (Keep.refl _ _).drew
  have hb2 := hb1.drew
  have hr2 := hr1.drew
  have hk2 := hk1.drew
  generalize w1.drew = x0 at hI hD hb2 hr2 hk2 ⊢
  (refine wpI_from 0 ?_; (iterate 11 ((first | (refine wpI_take (v := ?_) rfl (by kernel_rfl) (fun _ _ _ h => h) hI rfl ?_ ?_; rotate_left; (focus (rintro _ ⟨E, rfl⟩; go_simp; (try with_reducible rfl)))) | refine wpI_skip rfl (by kernel_rfl) (fun _ _ _ h => h) hI rfl ?_); simp only [Act.put, tk, Nat.reduceAdd])); refine wpI_till ?_)
  (refine wpF_done (by kernel_rfl) ?_ _)
  have s2 := hD.size
  have hl2 := hb2.lt
  have c0 := hb2.cell 0 (u := .string s) rfl
  have c1 := hb2.cell 1 (u := .int .i64 (a : Int)) rfl
  clear hI hD xx
  go_wp2_with fail
  (refine wp_region_f [10] (InX Nb _) (by kernel_rfl) (InX.mk (Keep.drew (Keep.refl _ _))) (fun hI => ?_))
  have xx : ∀ k, ¬ Nb k := fun _ h => h
  have hD : Keep Nb x0 x0.drew := (Keep.refl _ _).drew
  replace hb2 := hb2.drew
  replace hr2 := hr2.drew
  replace hk2 := hk2.drew
  generalize x0.drew = x1 at hI hD hb2 hr2 hk2 ⊢
  (refine wpI_from 0 ?_; (iterate 10 ((first | (refine wpI_take (v := ?_) rfl (by kernel_rfl) (fun _ _ _ h => h) hI rfl ?_ ?_; rotate_left; (focus (rintro _ ⟨E, rfl⟩; go_simp; (try with_reducible rfl)))) | refine wpI_skip rfl (by kernel_rfl) (fun _ _ _ h => h) hI rfl ?_); simp only [Act.put, tk, Nat.reduceAdd])); refine wpI_till ?_)
  (refine wpF_one 10 rfl (by kernel_rfl) rfl (fun K hK => ?_))
  go_simp
  (refine hK _ _ (fun h => absurd (by simp) h) (fun _ => ?_); clear hK K; try simp only [Act.put, tk])
  (refine wpF_done (by kernel_rfl) ?_ _)
  have s3 := hD.size
  clear hI hD xx c0 c1 hb1 hr1 hk1 hl1
  have hn4 : w.heap.size ≠ x1.heap.size := by omega
  have hp4 : p ≠ x1.heap.size := by omega
  have HN4 := Lib.hid hn4
  have HP4 := Lib.hid hp4
  clear hn4 hp4
  go_upto_block 0 with (refine wpList_store_row rfl 27 (.tmp 4) (.tmp _) rfl x1.heap.size _ rfl rfl 27 _ (Blk.new x1 #[.int .i64 0, .int .u8 0, .int .u64 0, .int .u64 0, .int .u64 0, .int .u64 0, .int .i64 0, .int .i64 0, .int .i64 0, .slice none 0 0] 27) size27 rfl (by simp [Nd.row, Value.oneCell']) ?_)
  have hv := d.toNat_lt
  have hq3 : Blk ((x1.alloc (.cells #[.int .i64 0, .int .u8 0, .int .u64 0, .int .u64 0, .int .u64 0, .int .u64 0, .int .i64 0, .int .i64 0, .int .i64 0, .slice none 0 0] 27)).setRow x1.heap.size (Nd.row (.mk ⟨1, d.toNat, 0, 0, 0, 0, 0, 0, 0⟩ []) (.slice none 0 0))) x1.heap.size (Nd.row (.mk ⟨1, d.toNat, 0, 0, 0, 0, 0, 0, 0⟩ []) (.slice none 0 0)) 27 := (Blk.new x1 _ _).setRow _
  have hb3 : PdAt ((x1.alloc (.cells #[.int .i64 0, .int .u8 0, .int .u64 0, .int .u64 0, .int .u64 0, .int .u64 0, .int .i64 0, .int .i64 0, .int .i64 0, .slice none 0 0] 27)).setRow x1.heap.size (Nd.row (.mk ⟨1, d.toNat, 0, 0, 0, 0, 0, 0, 0⟩ []) (.slice none 0 0))) p s a x g false := (hb2.alloc _).setRowOther HP4.out _
  have hr3 := (hr2.alloc (.cells #[.int .i64 0, .int .u8 0, .int .u64 0, .int .u64 0, .int .u64 0, .int .u64 0, .int .i64 0, .int .i64 0, .int .i64 0, .slice none 0 0] 27)).setRowOther HN4.out (Nd.row (.mk ⟨1, d.toNat, 0, 0, 0, 0, 0, 0, 0⟩ []) (.slice none 0 0))
  have hk3 : Keep Nb w ((x1.alloc (.cells #[.int .i64 0, .int .u8 0, .int .u64 0, .int .u64 0, .int .u64 0, .int .u64 0, .int .i64 0, .int .i64 0, .int .i64 0, .slice none 0 0] 27)).setRow x1.heap.size (Nd.row (.mk ⟨1, d.toNat, 0, 0, 0, 0, 0, 0, 0⟩ []) (.slice none 0 0))) := Keep.setRow (Keep.alloc hk2 _) (Or.inl (by have := hk2.size; omega)) _
  have hw4 : ∀ T : Nd, (x1.alloc (.cells #[.int .i64 0, .int .u8 0, .int .u64 0, .int .u64 0, .int .u64 0, .int .u64 0, .int .i64 0, .int .i64 0, .int .i64 0, .slice none 0 0] 27)).setRow x1.heap.size (Nd.row T (.slice none 0 0)) = (x1.alloc (.cells #[.int .i64 0, .int .u8 0, .int .u64 0, .int .u64 0, .int .u64 0, .int .u64 0, .int .i64 0, .int .i64 0, .int .i64 0, .slice none 0 0] 27)).setRow x1.heap.size #[.int .i64 T.h.k, .int .u8 T.h.c, .int .u64 T.h.s0, .int .u64 T.h.s1, .int .u64 T.h.s2, .int .u64 T.h.s3, .int .i64 T.h.n, .int .i64 T.h.mn, .int .i64 T.h.mx, .slice none 0 0] := fun T => rfl
  rw [hw4] at hq3 hb3 hr3 hk3
  simp only [Nd.h] at hq3 hb3 hr3 hk3
  clear hw4 hb2 hr2 hk2
  generalize (x1.alloc (.cells #[.int .i64 0, .int .u8 0, .int .u64 0, .int .u64 0, .int .u64 0, .int .u64 0, .int .i64 0, .int .i64 0, .int .i64 0, .slice none 0 0] 27)).setRow x1.heap.size #[.int .i64 1, .int .u8 (d.toNat : Int), .int .u64 0, .int .u64 0, .int .u64 0, .int .u64 0, .int .i64 0, .int .i64 0, .int .i64 0, .slice none 0 0] = x2 at hq3 hb3 hr3 hk3 ⊢
  have HZ4 : Hid (w.heap.size ≤ x1.heap.size) := Lib.hid (by omega)
  generalize x1.heap.size = n4 at HN4 HP4 HZ4 hq3 ⊢
  have c2 := hb3.cell 2 (u := .bool x) rfl
  have hl3 := hb3.lt
  have ln := hq3.lt
  have q1 := hq3.cell 1 (u := .int .u8 (d.toNat : Int)) rfl
  have f1 := hq3.frozen 1
  have nn : ¬ Nb p := fun h => h
  have H1 : Hid (IntKind.u8.wrap ((d.toNat : Int) - 48) = IntKind.u8.wrap ((d.toNat : Int) - 48)) := Lib.hid rfl
  clear b1 e1 j0 j1 j2 j3 W0 W1
  try simp only [Act.put, tk]
  go_cut [] (fun wx => ∃ h : Hd, Blk wx n4 (Nd.row (.mk h []) (.slice none 0 0)) 27 ∧ PdAt wx p s a x g false ∧ Blk wx w.heap.size #[.int .i64 0, .int .u8 0, .int .u64 0, .int .u64 0, .int .u64 0, .int .u64 0, .int .i64 0, .int .i64 0, .int .i64 0, .slice none 0 0] 27 ∧ Keep Nb w wx)
  case first =>
   clear W2
   by_cases hdg : 49 ≤ d.toNat ∧ d.toNat ≤ 57
   ·have g0 : (49 : Int) ≤ (d.toNat : Int) := by omega
    have g1 : (d.toNat : Int) ≤ 57 := by omega
    have v2 : IntKind.u8.wrap ((d.toNat : Int) - 48) = (d.toNat : Int) - 48 := by rw [IntKind.wrap_u8]; omega
    clear hdg q1 f1 c2
    go_wp2_with (refine wpList_store_row rfl 27 (.tmp 4) (.tmp _) rfl n4 _ rfl rfl 27 _ hq3 size27 rfl (by simp [Nd.row, Value.oneCell']) ?_)
    go_meet
    exact ⟨⟨7, 0, 0, 0, 0, 0, (d.toNat : Int) - 48, 0, 0⟩, hq3.setRow _, hb3.setRowOther HP4.out _, hr3.setRowOther HN4.out _, Keep.setRow hk3 (Or.inl HZ4.out) _⟩
   ·skip
    go_upto_region 5 with fail
    go_cut [30] (fun y wx => y = .bool false ∧ wx = x2)
    case first =>
     clear q1 f1 c2
     by_cases h49 : 49 ≤ d.toNat
     ·have g0 : (49 : Int) ≤ (d.toNat : Int) := by omega
      have g1 : ¬ ((d.toNat : Int) ≤ 57) := by omega
      clear hdg
      go_wp2_with fail
      go_meet
      exact ⟨rfl, rfl⟩
     ·have g0 : ¬ ((49 : Int) ≤ (d.toNat : Int)) := by omega
      clear hdg
      go_wp2_with fail
      go_meet
      exact ⟨rfl, rfl⟩
    case rest =>
    obtain ⟨rfl, rfl⟩ := hcut
    clear hdg
    by_cases h110 : d.toNat = 110
    ·have m1 : ((d.toNat : Int) == 110) = true := by simp [h110]
     have hq4 := hq3.set 1 (.int .u8 10)
     have hb4 := hb3.setOther (p := ⟨n4, 1, none⟩) (fun e => HP4.out e.symm) (.int .u8 10)
     have hr4 := hr3.setOther (p := ⟨n4, 1, none⟩) (fun e => HN4.out e.symm) (.int .u8 10)
     have hk4 := Keep.setCell (p := ⟨n4, 1, none⟩) hk3 (Or.inl HZ4.out) (.int .u8 10)
     have HB4 := Lib.hid hb4
     have HR4 := Lib.hid hr4
     have HQ4 := Lib.hid hq4
     clear hb4 hr4 hq4 h110
     go_wp2_with fail
     go_meet
     exact ⟨⟨1, 10, 0, 0, 0, 0, 0, 0, 0⟩, HQ4.out, HB4.out, HR4.out, hk4⟩
    have m1 : ((d.toNat : Int) == 110) = false := beq_eq_false_iff_ne.2 (by omega)
    clear h110 q1 f1 c2
    go_wp2_with fail
    refine (pin_any _ d wc (by decide)).mono ?_
    rintro e w4 ⟨r, rfl, kd⟩
    have hq4 := hq3.keep kd (fun h => h)
    have hb4 := hb3.keep kd nn
    have hr4 := hr3.keep kd (fun h => h)
    have hk4 := Keep.trans hk3 kd (fun _ _ h => h)
    have hl4 := hb4.lt
    have c2 := hb4.cell 2 (u := .bool x) rfl
    clear kd
    cases r with
    | true =>
     go_wp2_with fail
     go_meet
     exact ⟨⟨1, d.toNat, 0, 0, 0, 0, 0, 0, 0⟩, hq4, hb4, hr4, hk4⟩
    | false =>
     cases x with
     | false =>
      go_wp2_with fail
      refine (pfail_any p s a false g false w4 hb4).mono ?_
      rintro e wf ⟨rfl, hbf, kd⟩
      have hrf := hr4.keep kd (fun h => HNE.out h.symm)
      have hkf := Keep.trans hk4.ob kd (fun _ _ h => h)
      clear kd
      go_wp2_with (refine wpList_store_row rfl 27 (.tmp 2) (.tmp _) rfl w.heap.size _ rfl rfl 27 _ hrf size27 rfl (by simp [Nd.row, Value.oneCell']) ?_)
      exact bodyPost_ret (results_cell_row Try.results117 _ _ w.heap.size 27 _ (0, 0) _ rfl (hrf.setRow (Nd.row nd0 (.slice none 0 0))) Try.underlying27 rfl size27) rfl (ReadR.fail ((hbf.setRowOther HNE.out _)) (Keep.setRow hkf (Or.inl (Nat.le_refl _)) _) ⟨Nat.le_refl _, by have := HA.out; omega, HG.out⟩)
     | true =>
      go_wp2_with fail
      refine (pin_any _ d w4 (by decide)).mono ?_
      rintro e w5 ⟨r, rfl, kd⟩
      have hq5 := hq4.keep kd (fun h => h)
      have hb5 := hb4.keep kd nn
      have hr5 := hr4.keep kd (fun h => h)
      have hk5 := Keep.trans hk4 kd (fun _ _ h => h)
      have hl5 := hb5.lt
      have c2 := hb5.cell 2 (u := .bool true) rfl
      clear kd
      cases r with
      | true =>
       go_wp2_with fail
       go_meet
       exact ⟨⟨1, d.toNat, 0, 0, 0, 0, 0, 0, 0⟩, hq5, hb5, hr5, hk5⟩
      | false =>
       go_wp2_with fail
       refine (pfail_any p s a true g false w5 hb5).mono ?_
       rintro e wf ⟨rfl, hbf, kd⟩
       have hrf := hr5.keep kd (fun h => HNE.out h.symm)
       have hkf := Keep.trans hk5.ob kd (fun _ _ h => h)
       clear kd
       go_wp2_with (refine wpList_store_row rfl 27 (.tmp 2) (.tmp _) rfl w.heap.size _ rfl rfl 27 _ hrf size27 rfl (by simp [Nd.row, Value.oneCell']) ?_)
       exact bodyPost_ret (results_cell_row Try.results117 _ _ w.heap.size 27 _ (0, 0) _ rfl (hrf.setRow (Nd.row nd0 (.slice none 0 0))) Try.underlying27 rfl size27) rfl (ReadR.fail ((hbf.setRowOther HNE.out _)) (Keep.setRow hkf (Or.inl (Nat.le_refl _)) _) ⟨Nat.le_refl _, by have := HA.out; omega, HG.out⟩)
  case rest =>
   obtain ⟨h, hq, hb5, hr5, hk5⟩ := hcut
   clear hq3 hb3 hr3 hk3 c2 hl3 ln q1 f1 hb hl
   have hl5 := hb5.lt
   have c1 := hb5.cell 1 (u := .int .i64 (a : Int)) rfl
   have f1 := hb5.frozen 1
   have hq6 := hq.setOther (p := ⟨p, 1, none⟩) HP4.out (.int .i64 ((a : Int) + 2))
   have hb6 := hb5.set 1 (.int .i64 ((a : Int) + 2))
   have hr6 := hr5.setOther (p := ⟨p, 1, none⟩) HNE.out (.int .i64 ((a : Int) + 2))
   have hk6 := Keep.trans hk5.ob (Keep.setOb wc p 1 (.int .i64 ((a : Int) + 2))) (fun _ _ h => h)
   have HQ6 := Lib.hid hq6
   have HB6 := Lib.hid hb6
   have HR6 := Lib.hid hr6
   have HK6 := Lib.hid hk6
   clear hq6 hb6 hr6 hk6 hq hb5 hr5 hk5
   go_wp2_with (first
    | (refine wpList_load_row rfl 27 (.tmp 4) rfl n4 rfl 27 _ (0, 0) _ HQ6.out Try.underlying27 rfl size27 ?_)
    | (refine wpList_store_row rfl 27 (.tmp 2) (.tmp _) rfl w.heap.size _ rfl rfl 27 _ HR6.out size27 rfl (by simp [Nd.row, Value.oneCell']) ?_))
   exact bodyPost_ret (results_cell_row Try.results117 _ _ w.heap.size 27 _ (0, 0) _ rfl (HR6.out.setRow (Nd.row (.mk h []) (.slice none 0 0))) Try.underlying27 rfl size27) rfl (ReadR.leaf h rfl (HB6.out.setRowOther HNE.out _) (Keep.setRow HK6.out (Or.inl (Nat.le_refl _)) _) ⟨(by omega : a < a + 2), H2.out, HG.out⟩)
 ·have j2 : decide ((s.size : Int) - (a : Int) < 2) = true := by simp; omega
  clear h2
  go_wp2_with fail
  (refine wp_region_f [] (InX Nb _) (by kernel_rfl) (InX.mk (Keep.drew (Keep.refl _ _))) (fun hI => ?_))
  have xx : ∀ k, ¬ Nb k := fun _ h => h
  have hb2 := hb1.drew
  have hr2 := hr1.drew
  have hk2 := hk1.drew
  generalize w1.drew = x0 at hI hb2 hr2 hk2 ⊢
  (refine wpI_from 0 ?_; (iterate 11 ((first | (refine wpI_take (v := ?_) rfl (by kernel_rfl) (fun _ _ _ h => h) hI rfl ?_ ?_; rotate_left; (focus (rintro _ ⟨E, rfl⟩; go_simp; (try with_reducible rfl)))) | refine wpI_skip rfl (by kernel_rfl) (fun _ _ _ h => h) hI rfl ?_); simp only [Act.put, tk, Nat.reduceAdd])); refine wpI_till ?_)
  (refine wpF_done (by kernel_rfl) ?_ _)
  go_wp2_with fail
  refine (pfail_any p s a x g false x0 hb2).mono ?_
  rintro e w3 ⟨rfl, hb3, kd⟩
  have hr3 := hr2.keep kd (fun h => hne h.symm)
  have hk3 := Keep.trans hk2.ob kd (fun _ _ h => h)
  clear kd
  go_wp2_with (refine wpList_store_row rfl 27 (.tmp 2) (.tmp _) rfl w.heap.size _ rfl rfl 27 _ hr3 size27 rfl (by simp [Nd.row, Value.oneCell']) ?_)
  exact bodyPost_ret (results_cell_row Try.results117 _ _ w.heap.size 27 _ (0, 0) _ rfl (hr3.setRow (Nd.row nd0 (.slice none 0 0))) Try.underlying27 rfl size27) rfl (ReadR.fail ((hb3.setRowOther hne _)) (Keep.setRow hk3 (Or.inl (Nat.le_refl _)) _) ⟨Nat.le_refl _, by have := HA.out; omega, HG.out⟩)
theorem lies_onP {Ok : Nat → Prop} {w w' : World} {p : Nat} {s : ByteArray} {a : Nat} {x : Bool} {g : Nat} {b : Bool} (hb : PdAt w p s a x g b) {T : Nd} {S : Value} (h : LiesP Ok w T S) (hk : Keep (Ob p) w w') : LiesP Ok w' T S :=
 LiesP_mono (fun _ _ _ hq _ => hq.1) T S (LiesP_keep hk (fun _ hq e => hq.2 e) (LiesP_rows (Ok' := fun q => Ok q ∧ q ≠ p) (fun _ _ _ _ hq hr => ⟨hq, row_off hb hr⟩) T S h))
def RepR (Ok : Nat → Prop) (p : Nat) (s : ByteArray) (x : Bool) (g a : Nat) (b : Bool) (T : Nd) (w w' : World) (e : Ending) : Prop :=
 ∃ (T' : Nd) (S' : Value) (a' : Nat) (b' : Bool), e = .returned (.agg (Nd.row T' S')) ∧ LiesP (fun q => Ok q ∨ w.heap.size ≤ q) w' T' S' ∧ PdAt w' p s a' x g b' ∧ Keep (Ob p) w w' ∧ (a ≤ a' ∧ a' ≤ s.size) ∧ count T' ≤ count T + (a' - a) ∧ (b = true → b' = true)
theorem RepR.fail {Ok : Nat → Prop} {p : Nat} {s : ByteArray} {x : Bool} {a a' g : Nat} {b : Bool} {T : Nd} {w w' : World} (hb : PdAt w' p s a' x g true) (hk : Keep (Ob p) w w') (ha : a ≤ a' ∧ a' ≤ s.size) :
  RepR Ok p s x g a b T w w' (.returned (.agg (Nd.row nd0 (.slice none 0 0)))) :=
 ⟨nd0, _, a', true, rfl, lies_leaf _ _, hb, hk, ha, by have := count_pos T; simp [nd0, count, countL]; omega, fun _ => rfl⟩
set_option maxRecDepth 100000 in
set_option maxHeartbeats 8000000 in
theorem prepeated_any (p : Nat) (s : ByteArray) (a : Nat) (x : Bool) (g : Nat) (b : Bool) (T : Nd) (S : Value) (w : World) (hb : PdAt w p s a x g b) {Ok : Nat → Prop} (hL : LiesP Ok w T S) (ha : a ≤ s.size) (hs : s.size ≤ 600) :
  Calls Try.prog 108 #[.pointer (some ⟨p, 0, none⟩), .agg (Nd.row T S)] w fun e w' => RepR Ok p s x g a b T w w' e := by
 have HS := Lib.hid hs
 have HA := Lib.hid ha
 have hl := hb.lt
 obtain ⟨A, cap, rfl, hc1, hc2, hLL⟩ := LiesP_def.1 hL
 obtain ⟨S, hSe⟩ : ∃ S, S = Value.slice A T.l.length cap := ⟨_, rfl⟩
 rw [← hSe] at hL ⊢
 have hL2 : LiesP (fun q => Ok q ∧ q < w.heap.size) w T S := LiesP_mono (fun _ _ _ ho hc => ⟨ho, cell_lt hc⟩) _ _ hL
 have HL : Hid (∀ w', Keep Nb w w' → LiesP (fun q => Ok q ∧ q < w.heap.size) w' T S) := Lib.hid fun w' hk => Lies_keep hk hL2
 have HSe := Lib.hid hSe
 clear hs ha hLL hL2 hL hc1 hc2 hSe
 simp only [Nd.row]
 go_enter Try.func108, Try.ntmps108
 go_upto_region 1 with fail
 have hb1 : PdAt ((w.alloc (.cells (Nd.row T S) 27)).alloc (.cells zeroNode 27)) p s a x g b := (hb.alloc _).alloc _
 have ht1 : Blk ((w.alloc (.cells (Nd.row T S) 27)).alloc (.cells zeroNode 27)) w.heap.size (Nd.row T S) 27 := (Blk.new w _ _).alloc _
 have hr1 : Blk ((w.alloc (.cells (Nd.row T S) 27)).alloc (.cells zeroNode 27)) (w.heap.size + 1) zeroNode 27 := Blk.new' (by simp) _ _
 have hk1 : Keep Nb w ((w.alloc (.cells (Nd.row T S) 27)).alloc (.cells zeroNode 27)) := Keep.alloc (Keep.alloc (Keep.refl _ _) _) _
 have hx : (w.alloc (.cells #[.int .i64 T.h.k, .int .u8 T.h.c, .int .u64 T.h.s0, .int .u64 T.h.s1, .int .u64 T.h.s2, .int .u64 T.h.s3, .int .i64 T.h.n, .int .i64 T.h.mn, .int .i64 T.h.mx, S] 27)).alloc (.cells #[.int .i64 0, .int .u8 0, .int .u64 0, .int .u64 0, .int .u64 0, .int .u64 0, .int .i64 0, .int .i64 0, .int .i64 0, .slice none 0 0] 27) = (w.alloc (.cells (Nd.row T S) 27)).alloc (.cells zeroNode 27) := rfl
 have hsz : ((w.alloc (.cells (Nd.row T S) 27)).alloc (.cells zeroNode 27)).heap.size = w.heap.size + 2 := by simp
 rw [hx]; clear hx
 generalize (w.alloc (.cells (Nd.row T S) 27)).alloc (.cells zeroNode 27) = w1 at hb1 ht1 hr1 hk1 hsz ⊢
 have hne : p ≠ w.heap.size + 1 := by omega
 have hne0 : p ≠ w.heap.size := by omega
 have HNE := Lib.hid hne
 have HNE0 := Lib.hid hne0
 clear hb hne hne0
 have c4 := hb1.cell 4 (u := .bool b) rfl
 have hl1 := hb1.lt
 have nn : ¬ Nb p := fun h => h
 cases b with
 | true =>
  go_wp2_with (first
   | (refine wpList_load_row rfl 27 (.tmp 3) rfl w.heap.size rfl 27 _ (0, 0) _ ht1 Try.underlying27 rfl size27 ?_)
   | (refine wpList_store_row rfl 27 (.tmp 4) (.tmp _) rfl (w.heap.size + 1) _ rfl rfl 27 _ hr1 size27 rfl (by rw [HSe.out]; simp [Nd.row, Value.oneCell']) ?_))
  exact bodyPost_ret (results_cell_row Try.results108 _ _ (w.heap.size + 1) 27 _ (0, 0) _ rfl (hr1.setRow (Nd.row T S)) Try.underlying27 rfl size27) rfl ⟨T, S, a, true, rfl, LiesP_mono (fun _ _ _ hq _ => .inl hq.1) _ _ (LiesP_keep (Keep.setRow (X := Ob (w.heap.size + 1)) (Keep.refl _ _) (Or.inr rfl) _) (fun q hq e => by have := hq.2; simp only [Ob] at e; omega) (HL.out _ hk1)), hb1.setRowOther HNE.out _, Keep.setRow hk1.ob (Or.inl (by omega)) _, ⟨Nat.le_refl _, HA.out⟩, by omega, by simp⟩
 | false =>
 go_wp2_with fail
 refine (prepeats_any p s a x g false w1 hb1 HA.out HS.out).mono ?_
 rintro e w2 ⟨r, rfl, h1, kd⟩
 have hb2 := hb1.keep kd nn
 have ht2 := ht1.keep kd (fun h => h)
 have hr2 := hr1.keep kd (fun h => h)
 have hk2 := Keep.trans hk1 kd (fun _ _ h => h)
 have hl2 := hb2.lt
 have H1 := Lib.hid h1
 clear h1 kd hb1 ht1 hr1 hk1 c4
 cases r with
 | false =>
  go_wp2_with (first
   | (refine wpList_load_row rfl 27 (.tmp 3) rfl w.heap.size rfl 27 _ (0, 0) _ ht2 Try.underlying27 rfl size27 ?_)
   | (refine wpList_store_row rfl 27 (.tmp 4) (.tmp _) rfl (w.heap.size + 1) _ rfl rfl 27 _ hr2 size27 rfl (by rw [HSe.out]; simp [Nd.row, Value.oneCell']) ?_))
  exact bodyPost_ret (results_cell_row Try.results108 _ _ (w.heap.size + 1) 27 _ (0, 0) _ rfl (hr2.setRow (Nd.row T S)) Try.underlying27 rfl size27) rfl ⟨T, S, a, false, rfl, LiesP_mono (fun _ _ _ hq _ => .inl hq.1) _ _ (LiesP_keep (Keep.setRow (X := Ob (w.heap.size + 1)) (Keep.refl _ _) (Or.inr rfl) _) (fun q hq e => by have := hq.2; simp only [Ob] at e; omega) (HL.out _ hk2)), hb2.setRowOther HNE.out _, Keep.setRow hk2.ob (Or.inl (by omega)) _, ⟨Nat.le_refl _, HA.out⟩, by omega, by simp⟩
 | true =>
 have HA1 : Hid (a + 1 ≤ s.size) := Lib.hid (H1.out rfl).1
 clear H1
 have e0 := ht2.cell 0 (u := .int .i64 T.h.k) rfl
 have lt2 := ht2.lt
 by_cases hk4 : T.h.k = 4
 ·have m0 : (T.h.k == 4) = true := by simp [hk4]
  clear hk4
  go_wp2_with fail
  refine (pfail_any p s a x g false w2 hb2).mono ?_
  rintro e wf ⟨rfl, hbf, kd⟩
  have hrf := hr2.keep kd (fun h => HNE.out h.symm)
  have hkf := Keep.trans hk2.ob kd (fun _ _ h => h)
  clear kd
  go_wp2_with (refine wpList_store_row rfl 27 (.tmp 4) (.tmp _) rfl (w.heap.size + 1) _ rfl rfl 27 _ hrf size27 rfl (by simp [Nd.row, Value.oneCell']) ?_)
  exact bodyPost_ret (results_cell_row Try.results108 _ _ (w.heap.size + 1) 27 _ (0, 0) _ rfl (hrf.setRow (Nd.row nd0 (.slice none 0 0))) Try.underlying27 rfl size27) rfl (RepR.fail (hbf.setRowOther HNE.out _) (Keep.setRow hkf (Or.inl (by omega)) _) ⟨Nat.le_refl _, HA.out⟩)
 have m0 : (T.h.k == 4) = false := beq_eq_false_iff_ne.2 hk4
 clear hk4
 by_cases hk4 : T.h.k = 5
 ·have m1 : (T.h.k == 5) = true := by simp [hk4]
  clear hk4
  go_wp2_with fail
  refine (pfail_any p s a x g false w2 hb2).mono ?_
  rintro e wf ⟨rfl, hbf, kd⟩
  have hrf := hr2.keep kd (fun h => HNE.out h.symm)
  have hkf := Keep.trans hk2.ob kd (fun _ _ h => h)
  clear kd
  go_wp2_with (refine wpList_store_row rfl 27 (.tmp 4) (.tmp _) rfl (w.heap.size + 1) _ rfl rfl 27 _ hrf size27 rfl (by simp [Nd.row, Value.oneCell']) ?_)
  exact bodyPost_ret (results_cell_row Try.results108 _ _ (w.heap.size + 1) 27 _ (0, 0) _ rfl (hrf.setRow (Nd.row nd0 (.slice none 0 0))) Try.underlying27 rfl size27) rfl (RepR.fail (hbf.setRowOther HNE.out _) (Keep.setRow hkf (Or.inl (by omega)) _) ⟨Nat.le_refl _, HA.out⟩)
 have m1 : (T.h.k == 5) = false := beq_eq_false_iff_ne.2 hk4
 clear hk4
 go_wp2_with fail
 refine (ptimes_any p s a x g false w2 hb2 HA.out HS.out).mono ?_
 rintro e w3 ⟨⟨m, k, q, ok, rfl, hq⟩, kd⟩
 have hb3 := hb2.keep kd nn
 have ht3 := ht2.keep kd (fun h => h)
 have hr3 := hr2.keep kd (fun h => h)
 have hk3 := Keep.trans hk2 kd (fun _ _ h => h)
 have hl3 := hb3.lt
 have HQ := Lib.hid hq
 clear hq kd hb2 ht2 hr2 hk2 e0 m0 m1
 cases ok with
 | false =>
  clear HQ
  go_wp2_with fail
  refine (pfail_any p s a x g false w3 hb3).mono ?_
  rintro e wf ⟨rfl, hbf, kd⟩
  have hrf := hr3.keep kd (fun h => HNE.out h.symm)
  have hkf := Keep.trans hk3.ob kd (fun _ _ h => h)
  clear kd
  go_wp2_with (refine wpList_store_row rfl 27 (.tmp 4) (.tmp _) rfl (w.heap.size + 1) _ rfl rfl 27 _ hrf size27 rfl (by simp [Nd.row, Value.oneCell']) ?_)
  exact bodyPost_ret (results_cell_row Try.results108 _ _ (w.heap.size + 1) 27 _ (0, 0) _ rfl (hrf.setRow (Nd.row nd0 (.slice none 0 0))) Try.underlying27 rfl size27) rfl (RepR.fail (hbf.setRowOther HNE.out _) (Keep.setRow hkf (Or.inl (by omega)) _) ⟨Nat.le_refl _, HA.out⟩)
 | true =>
 obtain ⟨a2, rfl, ha1, ha2⟩ := HQ.out rfl
 have HA2 : Hid (a < a2 ∧ a2 ≤ s.size) := Lib.hid ⟨ha1, ha2⟩
 have c1 := hb3.cell 1 (u := .int .i64 (a : Int)) rfl
 have f1 := hb3.frozen 1
 have hb4 := hb3.set 1 (.int .i64 (a2 : Int))
 have ht4 := ht3.setOther (p := ⟨p, 1, none⟩) HNE0.out (.int .i64 (a2 : Int))
 have hr4 := hr3.setOther (p := ⟨p, 1, none⟩) HNE.out (.int .i64 (a2 : Int))
 have kS := Keep.setOb w3 p 1 (.int .i64 (a2 : Int))
 have hk4 := Keep.trans hk3.ob kS (fun _ _ h => h)
 have HLT : Hid (LiesP (fun q => Ok q ∧ q < w.heap.size) (w3.setCell ⟨p, 1, none⟩ (.int .i64 (a2 : Int))) T S) := Lib.hid (lies_onP hb3 (HL.out _ hk3) kS)
 have HB4 : Hid (PdAt (w3.setCell ⟨p, 1, none⟩ (.int .i64 (a2 : Int))) p s a2 x g false) := Lib.hid hb4
 have HT4 := Lib.hid ht4
 have HR4 := Lib.hid hr4
 have HK4 := Lib.hid hk4
 clear HQ ha1 ha2 hb4 ht4 hr4 kS hk4 hk3 hb3 ht3 hr3
 go_upto_region 9 with fail
 generalize w3.setCell ⟨p, 1, none⟩ (.int .i64 (a2 : Int)) = w4 at HLT HB4 HT4 HR4 HK4 ⊢
 clear c1 f1 hl3
 have hb4 := HB4.out
 go_wp2_with fail
 refine (prepeats_any p s a2 x g false w4 hb4 HA2.out.2 HS.out).mono ?_
 rintro e w5 ⟨r, rfl, h1, kd⟩
 have hb5 := hb4.keep kd nn
 have ht5 := HT4.out.keep kd (fun h => h)
 have hr5 := HR4.out.keep kd (fun h => h)
 have hk5 := Keep.trans HK4.out kd (fun _ _ h => h.elim)
 have HL5 : Hid (LiesP (fun q => Ok q ∧ q < w.heap.size) w5 T S) := Lib.hid (Lies_keep kd HLT.out)
 have hl5 := hb5.lt
 clear h1 kd hb4 HB4 HT4 HR4 HK4 HLT
 cases r with
 | true =>
  go_wp2_with fail
  refine (pfail_any p s a2 x g false w5 hb5).mono ?_
  rintro e wf ⟨rfl, hbf, kd⟩
  have hrf := hr5.keep kd (fun h => HNE.out h.symm)
  have hkf := Keep.trans hk5 kd (fun _ _ h => h)
  clear kd
  go_wp2_with (refine wpList_store_row rfl 27 (.tmp 4) (.tmp _) rfl (w.heap.size + 1) _ rfl rfl 27 _ hrf size27 rfl (by simp [Nd.row, Value.oneCell']) ?_)
  exact bodyPost_ret (results_cell_row Try.results108 _ _ (w.heap.size + 1) 27 _ (0, 0) _ rfl (hrf.setRow (Nd.row nd0 (.slice none 0 0))) Try.underlying27 rfl size27) rfl (RepR.fail (hbf.setRowOther HNE.out _) (Keep.setRow hkf (Or.inl (by omega)) _) ⟨Nat.le_of_lt HA2.out.1, HA2.out.2⟩)
 | false =>
  have lt5 := ht5.lt
  have HNS : Hid (w.heap.size + 1 ≠ w5.heap.size) := Lib.hid (by have := hr5.lt; omega)
  have HNP : Hid (p ≠ w5.heap.size) := Lib.hid (by omega)
  have hSe := HSe.out
  clear HSe HL HS hl hl1 hl2
  subst hSe
  go_wp2_with (first
   | ((refine wpList_load_row rfl 27 (.tmp 3) rfl w.heap.size rfl 27 _ (0, 0) _ ht5 Try.underlying27 rfl size27 ?_); simp only [Nd.row])
   | (refine wpList_store_row rfl 27 (.tmp 4) (.tmp _) rfl (w.heap.size + 1) _ rfl rfl 27 _ ((hr5.alloc _).setRowOther HNS.out _) size27 rfl (by simp [Nd.row, Value.oneCell']) ?_)
   | (refine wpList_store_row rfl 27 (.tmp 4) (.tmp _) rfl (w.heap.size + 1) _ rfl rfl 27 _ (hr5.alloc _) size27 rfl (by simp [Nd.row, Value.oneCell']) ?_))
  have hkA : Keep Nb w5 (w5.alloc (.cells (Nd.row T (.slice A T.l.length cap)) 27)) := Keep.alloc (Keep.refl _ _) _
  have hkB : Keep (Ob (w.heap.size + 1)) (w5.alloc (.cells (Nd.row T (.slice A T.l.length cap)) 27)) ((w5.alloc (.cells (Nd.row T (.slice A T.l.length cap)) 27)).setRow (w.heap.size + 1) (Nd.row (.mk ⟨10, 0, 0, 0, 0, 0, 0, m, k⟩ [T]) (.slice (some ⟨w5.heap.size, 0, none⟩) 1 1))) := Keep.setRow (X := Ob (w.heap.size + 1)) (Keep.refl _ _) (Or.inr rfl) _
  have hBn : Blk ((w5.alloc (.cells (Nd.row T (.slice A T.l.length cap)) 27)).setRow (w.heap.size + 1) (Nd.row (.mk ⟨10, 0, 0, 0, 0, 0, 0, m, k⟩ [T]) (.slice (some ⟨w5.heap.size, 0, none⟩) 1 1))) w5.heap.size (Nd.row T (.slice A T.l.length cap)) 27 := (Blk.new w5 _ _).setRowOther (Ne.symm HNS.out) _
  have hS : LiesP (fun q => Ok q ∨ w.heap.size ≤ q) ((w5.alloc (.cells (Nd.row T (.slice A T.l.length cap)) 27)).setRow (w.heap.size + 1) (Nd.row (.mk ⟨10, 0, 0, 0, 0, 0, 0, m, k⟩ [T]) (.slice (some ⟨w5.heap.size, 0, none⟩) 1 1))) T (.slice A T.l.length cap) := LiesP_mono (fun _ _ _ hq _ => .inl hq.1) _ _ (LiesP_keep hkB (fun q hq e => by have := hq.2; simp only [Ob] at e; omega) (Lies_keep hkA HL5.out))
  exact bodyPost_ret (results_cell_row Try.results108 _ _ (w.heap.size + 1) 27 _ (0, 0) _ rfl ((hr5.alloc _).setRow (Nd.row (.mk ⟨10, 0, 0, 0, 0, 0, 0, m, k⟩ [T]) (.slice (some ⟨w5.heap.size, 0, none⟩) 1 1))) Try.underlying27 rfl size27) rfl
   ⟨.mk ⟨10, 0, 0, 0, 0, 0, 0, m, k⟩ [T], .slice (some ⟨w5.heap.size, 0, none⟩) 1 1, a2, false, rfl, LiesP_def.2 ⟨_, 1, rfl, by simp [Nd.l], by unfold maxLen; omega, one_lies hBn (.inr (by omega)) hS⟩, (hb5.alloc _).setRowOther HNE.out _, Keep.setRow (Keep.alloc hk5 _) (Or.inl (by omega)) _, ⟨Nat.le_of_lt HA2.out.1, HA2.out.2⟩, by have := HA2.out.1; simp only [count, countL]; omega, by simp⟩
end Go.Proofs.Ytkidjbfapldmbaa
