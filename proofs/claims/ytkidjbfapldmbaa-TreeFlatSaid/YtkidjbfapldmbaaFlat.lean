/- Nodes, those of one kind's in its place: flat, of the program and of the reference. -/
import Derived.Test.YtkidjbfapldmbaaClone
namespace Go.Proofs.Ytkidjbfapldmbaa
set_option linter.unusedVariables false
set_option linter.unusedSimpArgs false
open Go.RowKit P8
attribute [local go_sem ↓] Go.wp_at_zero Go.wp_at_succ

theorem field33 (a0 a1 a2 a3 a4 a5 a6 a7 a8 v : Value) (w : World) : Sem.run Try.prog (Instr.field 33 (.agg #[a0, a1, a2, a3, a4, a5, a6, a7, a8, v]) 6) w = .ok v w := by
  have u1 : Sem.run Try.prog (underlying 33) w = _ := run_underlying Try.underlying33 w
  have u2 : Sem.run Try.prog (underlying 31) w = _ := run_underlying Try.underlying31 w
  simp [Instr.field, part, isAgg, asAgg, Sem.run_bind, u1, u2]
attribute [local go_sem] field33

def flatT (k : Int) (l : List Nd) : List Nd := l.flatMap fun x => if x.h.k = k then x.l else [x]
theorem flatT_take (k : Int) (l : List Nd) (j : Nat) (hj : j < l.length) : flatT k (l.take (j + 1)) = flatT k (l.take j) ++ (if l[j].h.k = k then l[j].l else [l[j]]) := by
  rw [List.take_succ_eq_append_getElem hj, flatT, List.flatMap_append]; simp [flatT]
theorem flatT_len (k : Int) : ∀ l : List Nd, (flatT k l).length ≤ countL l
  | [] => by simp [flatT, countL]
  | x :: r => by
    have h1 := flatT_len k r
    have h2 := count_pos x
    have h3 : (if x.h.k = k then x.l else [x]).length ≤ count x := by
      split
      · cases x; rw [count]; have := countL_len ‹_›; simp only [Nd.l]; omega
      · simpa using h2
    rw [flatT, List.flatMap_cons, List.length_append, countL]
    simp only [flatT] at h1
    omega
theorem flatT_take_len (k : Int) (l : List Nd) (j : Nat) : (flatT k (l.take j)).length ≤ countL l := by
  have h1 := flatT_len k (l.take j)
  have h2 := countL_split l j
  omega

theorem grown_lies {Ok Ok' : Nat → Prop} {w w' : World} {V V' : Value} {H : Nat} (hH : w.heap.size = H) (hg : w.grownBy w' V.ownBlock) (hat : V'.ownBlock = V.ownBlock ∨ V'.ownBlock = some H) (hO : ∀ b, Ok b → b < H ∧ some b ≠ V.ownBlock)
    (hOk : ∀ b, Ok b → b < w'.heap.size → some b ≠ V'.ownBlock → Ok' b) {T : Nd} {S : Value} (h : LiesP Ok w T S) : LiesP Ok' w' T S := by
  have s1 := hg.size
  refine LiesP_mono (fun b _ _ hb _ => hOk b hb (by have := (hO b hb).1; omega) (fun e => ?_)) _ _ (LiesP_keep (Keep.of_grown hg) (fun b hb h => (hO b hb).2 h) h)
  rcases hat with hat | hat
  · exact (hO b hb).2 (by rw [← hat]; exact e)
  · rw [hat] at e; have := (hO b hb).1; simp at e; omega

set_option maxRecDepth 100000 in
set_option maxHeartbeats 2000000 in
theorem tflat_any (k : Int) (l : List Nd) (hcl : countL l ≤ 900000) (A : Option Addr) (cap : Nat) (w : World) {Ok : Nat → Prop} (hL : LiesPL Ok w A 0 l) :
    Calls Try.prog 61 #[.int .i64 k, .slice A l.length cap] w fun e w' => ∃ A' c', e = .returned (.slice A' (flatT k l).length c') ∧ (flatT k l).length ≤ c' ∧ c' ≤ maxLen ∧ LiesPL (fun b => Ok b ∨ w.heap.size ≤ b) w' A' 0 (flatT k l) ∧ Keep Nb w w' := by
  have hlen : l.length ≤ 900000 := by have := countL_len l; omega
  obtain ⟨i0, hi0, hz0, hz1, hz2⟩ := info_parts info33
  have hfl := flatT_take_len k l
  have HFL := Lib.hid hfl; clear hfl
  go_enter Try.func61, Try.ntmps61
  go_wp2_with fail
  go_loopw [5, 10] (fun o i wr => ∃ (j : Nat) (ps : List (Nd × Value)), j ≤ l.length ∧ i = .int .i64 j ∧ Hid (ps.map (·.1) = flatT k (l.take j)) ∧
      Hid (∀ p ∈ ps, LiesP (fun b => (Ok b ∨ w.heap.size ≤ b) ∧ b < wr.heap.size ∧ some b ≠ o.ownBlock) wr p.1 p.2) ∧ Hid (wr.ownsRow w.heap.size 33 10 o ps.length (rowsOf ps)) ∧ Keep Nb w wr) (fun _ i _ => l.length - (intOf i).toNat)
  case atStart => exact ⟨0, [], by omega, rfl, Lib.hid (by simp [flatT]), Lib.hid (by simp), Lib.hid (World.ownsRow_nil _ _ _ _), (by repeat (first | assumption | exact Keep.refl _ _ | refine Keep.alloc ?_ _ | refine Keep.drew ?_ | refine Keep.setCell ?_ (Or.inl (by simp)) _ | refine Keep.setRow ?_ (Or.inl (by simp)) _))⟩
  case round =>
    obtain ⟨j, ps, hj, rfl, hps, hpl, hown, hk⟩ := hrel
    have hkz := hk.size
    by_cases hlt : j < l.length
    · obtain ⟨b, off, A2, n2, rfl, hob, hten, hS⟩ := hL.atP j hlt
      obtain ⟨c0, c1, c2, c3, c4, c5, c6, c7, c8, c9, lt⟩ := hten.keep hk
      have hcj := countL_get_le l j hlt
      have hj0 : (0 : Int) ≤ (j : Int) := by omega
      have hj1 : (j : Int) < (l.length : Int) := by omega
      have hn1 := congrArg List.length hps.out
      rw [List.length_map] at hn1
      have hn2 := HFL.out j
      have hn3 := HFL.out (j + 1)
      have hft := flatT_take k l j hlt
      rw [hft, List.length_append] at hn3
      rw [← hn1] at hn3 hn2
      clear hn1
      have HC := Lib.hid (fun wx (hx : Lies wx l[j] (.slice A2 l[j].l.length n2)) => clone_any (count l[j]) (by omega) l[j] (Nat.le_refl _) (.slice A2 l[j].l.length n2) wx hx)
      by_cases ek : l[j].h.k = k
      · have m0 : (l[j].h.k == k) = true := by simpa using ek
        rw [if_pos ek] at hft hn3
        have HFT := Lib.hid hft
        clear hft ek
        go_wp2_with fail
        refine (HC.out _ (Lies_keep (by repeat (first | assumption | exact Keep.refl _ _ | refine Keep.alloc ?_ _ | refine Keep.drew ?_ | refine Keep.setCell ?_ (Or.inl (by simp)) _ | refine Keep.setRow ?_ (Or.inl (by simp)) _)) (LiesP_all hS))).mono ?_
        rintro e w2 ⟨S2, rfl, hS2, hk2⟩
        obtain ⟨A3, n3, rfl, _, _, hL2⟩ := LiesP_def.1 hS2
        have hk3 : Keep Nb wr w2 := Keep.trans (by repeat (first | assumption | exact Keep.refl _ _ | refine Keep.alloc ?_ _ | refine Keep.drew ?_ | refine Keep.setCell ?_ (Or.inl (by simp)) _ | refine Keep.setRow ?_ (Or.inl (by simp)) _)) hk2 (fun _ _ h => h)
        have s3 := hk3.size
        have hkw := hk.trans hk3 (fun _ _ h => h)
        have s0 := hkw.size
        have HP2 := Lib.hid (fun p hp => LiesP_mono (Ok' := fun b => (Ok b ∨ w.heap.size ≤ b) ∧ b < (w2).heap.size ∧ some b ≠ u5.ownBlock) (fun b _ _ hb _ => ⟨hb.1, by omega, hb.2.2⟩) _ _ (Lies_keep hk3 (hpl.out p hp)))
        have hvl := hown.out.lt
        have HO2 := Lib.hid (ownsRow_keep hown.out hk3 (fun _ _ h => h))
        have HL2 := Lib.hid (LiesPL_mono (Ok' := fun b => (Ok b ∨ w.heap.size ≤ b) ∧ b < w2.heap.size ∧ some b ≠ u5.ownBlock) (fun b _ _ hb _ => ⟨Or.inr (by have := hb.1; simp at this; omega), hb.2, fun e => by have := (hvl b e.symm).2; have := hb.1; simp at this; omega⟩) _ _ _ hL2)
        clear hS2 hL2 hk2 hpl hown hvl
        simp only [Nd.row]
        go_wp2_with (refine wpList_append_nodes rfl _ _ 31 rfl w.heap.size 33 i0 _ Try.underlying31 hi0 hz0 hz1 hz2 rfl u5 ps.length ps rfl HO2.out A3 l[j].l n3 rfl HL2.out (by omega) (by omega) ?_)
        intro V' w5 qs g1 g2 g3 g4 g5
        have HG := Lib.hid g4
        have HT := Lib.hid g5
        have HQ := Lib.hid g2
        have HW := Lib.hid g3
        clear g2 g3 g4 g5
        go_wp2_with fail
        go_roundw
        case rel =>
          refine ⟨j + 1, ps ++ qs, by omega, by go_num, Lib.hid ?_, Lib.hid (fun p hp => ?_), Lib.hid ?_, ?_⟩
          · rw [List.map_append, hps.out, HFT.out, g1]
          · rcases List.mem_append.1 hp with hp | hp
            · exact grown_lies rfl HG.out HT.out (fun b hb => ⟨hb.2.1, hb.2.2⟩) (fun b hb h1 h2 => ⟨hb.1, h1, h2⟩) (HP2.out p hp)
            · exact grown_lies rfl HG.out HT.out (fun b hb => ⟨hb.2.1, hb.2.2⟩) (fun b hb h1 h2 => ⟨hb.1, h1, h2⟩) (HQ.out p.1 p.2 hp)
          · have hqn := congrArg List.length g1
            rw [List.length_map] at hqn
            rw [List.length_append, hqn]; exact HW.out
          · exact hkw.trans (Keep.of_grown HG.out) (fun b hb h => by have := (HO2.out.lt b h.symm).1; omega)
        case measure => simp [intOf]; omega
      · have m0 : (l[j].h.k == k) = false := by simpa using ek
        rw [if_neg ek] at hft hn3
        have hn3 : ps.length + 1 ≤ countL l := by simpa using hn3
        have HFT := Lib.hid hft
        clear hft ek
        go_wp2_with fail
        refine (HC.out _ (Lies_keep (by repeat (first | assumption | exact Keep.refl _ _ | refine Keep.alloc ?_ _ | refine Keep.drew ?_ | refine Keep.setCell ?_ (Or.inl (by simp)) _ | refine Keep.setRow ?_ (Or.inl (by simp)) _)) (LiesP_all hS))).mono ?_
        rintro e w2 ⟨S2, rfl, hS2, hk2⟩
        obtain ⟨A3, n3, rfl, _, _, hL2⟩ := LiesP_def.1 hS2
        have hk3 : Keep Nb wr (w2.alloc (.cells (Nd.row l[j] (.slice A3 l[j].l.length n3)) 33)) := Keep.alloc (Keep.trans (by repeat (first | assumption | exact Keep.refl _ _ | refine Keep.alloc ?_ _ | refine Keep.drew ?_ | refine Keep.setCell ?_ (Or.inl (by simp)) _ | refine Keep.setRow ?_ (Or.inl (by simp)) _)) hk2 (fun _ _ h => h)) _
        have s2 : wr.heap.size ≤ w2.heap.size := by have := hk2.size; simp at this; omega
        have s3 := hk3.size
        have hkw := hk.trans hk3 (fun _ _ h => h)
        have s0 := hkw.size
        have HP2 := Lib.hid (fun p hp => LiesP_mono (Ok' := fun b => (Ok b ∨ w.heap.size ≤ b) ∧ b < (w2.alloc (.cells (Nd.row l[j] (.slice A3 l[j].l.length n3)) 33)).heap.size ∧ some b ≠ u5.ownBlock) (fun b _ _ hb _ => ⟨hb.1, by omega, hb.2.2⟩) _ _ (Lies_keep hk3 (hpl.out p hp)))
        have hvl := hown.out.lt
        have HO2 := Lib.hid (ownsRow_keep hown.out hk3 (fun _ _ h => h))
        have hsa : (w2.alloc (.cells (Nd.row l[j] (.slice A3 l[j].l.length n3)) 33)).heap.size = w2.heap.size + 1 := by simp
        have HL2 := Lib.hid (one_lies (Ok := fun b => (Ok b ∨ w.heap.size ≤ b) ∧ b < (w2.alloc (.cells (Nd.row l[j] (.slice A3 l[j].l.length n3)) 33)).heap.size ∧ some b ≠ u5.ownBlock) (Blk.new w2 (Nd.row l[j] (.slice A3 l[j].l.length n3)) 33) ⟨Or.inr (by omega), by omega, fun e => by have := (hvl _ e.symm).2; omega⟩
          (Lies_keep (Keep.alloc (Keep.refl _ _) _) (LiesP_mono (fun b _ _ hb _ => ⟨Or.inr (by have := hb.1; simp at this; omega), by omega, fun e => by have := (hvl b e.symm).2; have := hb.1; simp at this; omega⟩) _ _ hS2)))
        clear hS2 hL2 hk2 hpl hown hvl
        rw [hsa] at s3 s0
        simp only [Nd.row] at HP2 HO2 HL2 hkw hsa ⊢
        simp only [hsa] at HP2 HL2
        go_wp2_with (refine wpList_append_nodes rfl _ _ 31 rfl w.heap.size 33 i0 _ Try.underlying31 hi0 hz0 hz1 hz2 rfl u5 ps.length ps rfl HO2.out (some ⟨w2.heap.size, 0, none⟩) [l[j]] 1 rfl HL2.out (by omega) (by omega) ?_)
        intro V' w5 S' g2 g3 g4 g5
        obtain ⟨qs, hqs⟩ : ∃ qs, qs = [(l[j], S')] := ⟨_, rfl⟩
        have g1 : qs.map (·.1) = [l[j]] := by rw [hqs]; rfl
        have g2 : ∀ q1 q2, (q1, q2) ∈ qs → LiesP _ _ q1 q2 := fun q1 q2 hq => by rw [hqs] at hq; simp at hq; obtain ⟨rfl, rfl⟩ := hq; exact g2
        rw [← hqs] at g3
        clear hqs
        have HG := Lib.hid g4
        have HT := Lib.hid g5
        have HQ := Lib.hid g2
        have HW := Lib.hid g3
        clear g2 g3 g4 g5
        go_wp2_with fail
        go_roundw
        case rel =>
          refine ⟨j + 1, ps ++ qs, by omega, by go_num, Lib.hid ?_, Lib.hid (fun p hp => ?_), Lib.hid ?_, ?_⟩
          · rw [List.map_append, hps.out, HFT.out, g1]
          · rcases List.mem_append.1 hp with hp | hp
            · exact grown_lies hsa HG.out HT.out (fun b hb => ⟨hb.2.1, hb.2.2⟩) (fun b hb h1 h2 => ⟨hb.1, h1, h2⟩) (HP2.out p hp)
            · exact grown_lies hsa HG.out HT.out (fun b hb => ⟨hb.2.1, hb.2.2⟩) (fun b hb h1 h2 => ⟨hb.1, h1, h2⟩) (HQ.out p.1 p.2 hp)
          · have hqn := congrArg List.length g1
            rw [List.length_map] at hqn
            rw [List.length_append, hqn]; exact HW.out
          · exact hkw.trans (Keep.of_grown HG.out) (fun b hb h => by have := (HO2.out.lt b h.symm).1; omega)
        case measure => simp [intOf]; omega
    · obtain rfl : j = l.length := by omega
      have hps1 := hps.out
      rw [List.take_length] at hps1
      have hpn := congrArg List.length hps1
      rw [List.length_map] at hpn
      obtain ⟨A4, c4, hAe, hc1, hc2, hLL⟩ := LiesPL_owns (Ok := fun b => Ok b ∨ w.heap.size ≤ b) hown.out (fun p hp => LiesP_mono (fun b _ _ hb _ => hb.1) _ _ (hpl.out p hp)) (fun g hg => Or.inr (hown.out.lt g hg).1)
      rw [hps1] at hLL
      rw [hpn] at hc1 hAe
      have HAe := Lib.hid hAe
      have HLL := Lib.hid hLL
      clear hAe hLL hps1 hpn
      go_wp2_with fail
      go_ret
      exact ⟨A4, c4, by rw [HAe.out]; rfl, hc1, hc2, HLL.out, hk⟩

set_option maxRecDepth 100000 in
set_option maxHeartbeats 2000000 in
theorem rflat_any (k : Int) (l : List Nd) (hcl : countL l ≤ 900000) (A : Option Addr) (cap : Nat) (w : World) {Ok : Nat → Prop} (hL : LiesPL Ok w A 0 l) :
    Calls Try.prog 62 #[.int .i64 k, .slice A l.length cap] w fun e w' => ∃ A' c', e = .returned (.slice A' (flatT k l).length c') ∧ (flatT k l).length ≤ c' ∧ c' ≤ maxLen ∧ LiesPL (fun b => Ok b ∨ w.heap.size ≤ b) w' A' 0 (flatT k l) ∧ Keep Nb w w' := by
  have hlen : l.length ≤ 900000 := by have := countL_len l; omega
  obtain ⟨i0, hi0, hz0, hz1, hz2⟩ := info_parts info27
  have hfl := flatT_take_len k l
  have HFL := Lib.hid hfl; clear hfl
  go_enter Try.func62, Try.ntmps62
  go_wp2_with fail
  go_loopw [5, 9] (fun o i wr => ∃ (j : Nat) (ps : List (Nd × Value)), j ≤ l.length ∧ i = .int .i64 j ∧ Hid (ps.map (·.1) = flatT k (l.take j)) ∧
      Hid (∀ p ∈ ps, LiesP (fun b => (Ok b ∨ w.heap.size ≤ b) ∧ b < wr.heap.size ∧ some b ≠ o.ownBlock) wr p.1 p.2) ∧ Hid (wr.ownsRow w.heap.size 27 10 o ps.length (rowsOf ps)) ∧ Keep Nb w wr) (fun _ i _ => l.length - (intOf i).toNat)
  case atStart => exact ⟨0, [], by omega, rfl, Lib.hid (by simp [flatT]), Lib.hid (by simp), Lib.hid (World.ownsRow_nil _ _ _ _), (by repeat (first | assumption | exact Keep.refl _ _ | refine Keep.alloc ?_ _ | refine Keep.drew ?_ | refine Keep.setCell ?_ (Or.inl (by simp)) _ | refine Keep.setRow ?_ (Or.inl (by simp)) _))⟩
  case round =>
    obtain ⟨j, ps, hj, rfl, hps, hpl, hown, hk⟩ := hrel
    have hkz := hk.size
    by_cases hlt : j < l.length
    · obtain ⟨b, off, A2, n2, rfl, hob, hten, hS⟩ := hL.atP j hlt
      obtain ⟨c0, c1, c2, c3, c4, c5, c6, c7, c8, c9, lt⟩ := hten.keep hk
      have hcj := countL_get_le l j hlt
      have hj0 : (0 : Int) ≤ (j : Int) := by omega
      have hj1 : (j : Int) < (l.length : Int) := by omega
      have hn1 := congrArg List.length hps.out
      rw [List.length_map] at hn1
      have hn2 := HFL.out j
      have hn3 := HFL.out (j + 1)
      have hft := flatT_take k l j hlt
      rw [hft, List.length_append] at hn3
      rw [← hn1] at hn3 hn2
      clear hn1
      by_cases ek : l[j].h.k = k
      · have m0 : (l[j].h.k == k) = true := by simpa using ek
        rw [if_pos ek] at hft hn3
        have HFT := Lib.hid hft
        clear hft ek
        have hk3 : Keep Nb wr wr := Keep.refl _ _
        have s3 := hk3.size
        have hkw := hk.trans hk3 (fun _ _ h => h)
        have s0 := hkw.size
        have HP2 := Lib.hid (fun p hp => LiesP_mono (Ok' := fun b => (Ok b ∨ w.heap.size ≤ b) ∧ b < (wr).heap.size ∧ some b ≠ u5.ownBlock) (fun b _ _ hb _ => ⟨hb.1, by omega, hb.2.2⟩) _ _ (Lies_keep hk3 (hpl.out p hp)))
        have hvl := hown.out.lt
        have HO2 := Lib.hid (ownsRow_keep hown.out hk3 (fun _ _ h => h))
        obtain ⟨_, _, hAe, _, _, hL2⟩ := LiesP_def.1 hS
        cases hAe
        have HL2 := Lib.hid (LiesPL_mono (Ok' := fun b => (Ok b ∨ w.heap.size ≤ b) ∧ b < wr.heap.size ∧ some b ≠ u5.ownBlock) (fun b _ _ hb _ => ⟨Or.inl hb.1, by omega, fun e => by have := (hvl b e.symm).1; omega⟩) _ _ _ (LiesL_keep hk (LiesPL_mono (Ok' := fun b => Ok b ∧ b < w.heap.size) (fun b _ _ hb hc => ⟨hb, cell_lt hc⟩) _ _ _ hL2)))
        clear hL2 hpl hown hvl hS
        go_wp2_with (refine wpList_append_nodes rfl _ _ 25 rfl w.heap.size 27 i0 _ Try.underlying25 hi0 hz0 hz1 hz2 rfl u5 ps.length ps rfl HO2.out A2 l[j].l n2 rfl HL2.out (by omega) (by omega) ?_)
        intro V' w5 qs g1 g2 g3 g4 g5
        have HG := Lib.hid g4
        have HT := Lib.hid g5
        have HQ := Lib.hid g2
        have HW := Lib.hid g3
        clear g2 g3 g4 g5
        go_wp2_with fail
        go_roundw
        case rel =>
          refine ⟨j + 1, ps ++ qs, by omega, by go_num, Lib.hid ?_, Lib.hid (fun p hp => ?_), Lib.hid ?_, ?_⟩
          · rw [List.map_append, hps.out, HFT.out, g1]
          · rcases List.mem_append.1 hp with hp | hp
            · exact grown_lies rfl HG.out HT.out (fun b hb => ⟨hb.2.1, hb.2.2⟩) (fun b hb h1 h2 => ⟨hb.1, h1, h2⟩) (HP2.out p hp)
            · exact grown_lies rfl HG.out HT.out (fun b hb => ⟨hb.2.1, hb.2.2⟩) (fun b hb h1 h2 => ⟨hb.1, h1, h2⟩) (HQ.out p.1 p.2 hp)
          · have hqn := congrArg List.length g1
            rw [List.length_map] at hqn
            rw [List.length_append, hqn]; exact HW.out
          · exact hkw.trans (Keep.of_grown HG.out) (fun b hb h => by have := (HO2.out.lt b h.symm).1; omega)
        case measure => simp [intOf]; omega
      · have m0 : (l[j].h.k == k) = false := by simpa using ek
        rw [if_neg ek] at hft hn3
        have hn3 : ps.length + 1 ≤ countL l := by simpa using hn3
        have HFT := Lib.hid hft
        clear hft ek
        have hk3 : Keep Nb wr (wr.alloc (.cells (Nd.row l[j] (.slice A2 l[j].l.length n2)) 27)) := Keep.alloc (Keep.refl _ _) _
        have s3 := hk3.size
        have hkw := hk.trans hk3 (fun _ _ h => h)
        have s0 := hkw.size
        have HP2 := Lib.hid (fun p hp => LiesP_mono (Ok' := fun b => (Ok b ∨ w.heap.size ≤ b) ∧ b < (wr.alloc (.cells (Nd.row l[j] (.slice A2 l[j].l.length n2)) 27)).heap.size ∧ some b ≠ u5.ownBlock) (fun b _ _ hb _ => ⟨hb.1, by omega, hb.2.2⟩) _ _ (Lies_keep hk3 (hpl.out p hp)))
        have hvl := hown.out.lt
        have HO2 := Lib.hid (ownsRow_keep hown.out hk3 (fun _ _ h => h))
        have hsa : (wr.alloc (.cells (Nd.row l[j] (.slice A2 l[j].l.length n2)) 27)).heap.size = wr.heap.size + 1 := by simp
        have HL2 := Lib.hid (one_lies (Ok := fun b => (Ok b ∨ w.heap.size ≤ b) ∧ b < (wr.alloc (.cells (Nd.row l[j] (.slice A2 l[j].l.length n2)) 27)).heap.size ∧ some b ≠ u5.ownBlock) (Blk.new wr (Nd.row l[j] (.slice A2 l[j].l.length n2)) 27) ⟨Or.inr (by omega), by omega, fun e => by have := (hvl _ e.symm).2; omega⟩
          (Lies_keep (Keep.alloc hk _) (LiesP_mono (Ok := fun b => Ok b ∧ b < w.heap.size) (fun b _ _ hb _ => ⟨Or.inl hb.1, by omega, fun e => by have := (hvl b e.symm).1; omega⟩) _ _ (LiesP_mono (fun b _ _ hb hc => ⟨hb, cell_lt hc⟩) _ _ hS))))
        clear hpl hown hvl hS
        rw [hsa] at s3 s0
        simp only [Nd.row] at HP2 HO2 HL2 hkw hsa ⊢
        simp only [hsa] at HP2 HL2
        go_wp2_with (refine wpList_append_nodes rfl _ _ 25 rfl w.heap.size 27 i0 _ Try.underlying25 hi0 hz0 hz1 hz2 rfl u5 ps.length ps rfl HO2.out (some ⟨wr.heap.size, 0, none⟩) [l[j]] 1 rfl HL2.out (by omega) (by omega) ?_)
        intro V' w5 S' g2 g3 g4 g5
        obtain ⟨qs, hqs⟩ : ∃ qs, qs = [(l[j], S')] := ⟨_, rfl⟩
        have g1 : qs.map (·.1) = [l[j]] := by rw [hqs]; rfl
        have g2 : ∀ q1 q2, (q1, q2) ∈ qs → LiesP _ _ q1 q2 := fun q1 q2 hq => by rw [hqs] at hq; simp at hq; obtain ⟨rfl, rfl⟩ := hq; exact g2
        rw [← hqs] at g3
        clear hqs
        have HG := Lib.hid g4
        have HT := Lib.hid g5
        have HQ := Lib.hid g2
        have HW := Lib.hid g3
        clear g2 g3 g4 g5
        go_wp2_with fail
        go_roundw
        case rel =>
          refine ⟨j + 1, ps ++ qs, by omega, by go_num, Lib.hid ?_, Lib.hid (fun p hp => ?_), Lib.hid ?_, ?_⟩
          · rw [List.map_append, hps.out, HFT.out, g1]
          · rcases List.mem_append.1 hp with hp | hp
            · exact grown_lies hsa HG.out HT.out (fun b hb => ⟨hb.2.1, hb.2.2⟩) (fun b hb h1 h2 => ⟨hb.1, h1, h2⟩) (HP2.out p hp)
            · exact grown_lies hsa HG.out HT.out (fun b hb => ⟨hb.2.1, hb.2.2⟩) (fun b hb h1 h2 => ⟨hb.1, h1, h2⟩) (HQ.out p.1 p.2 hp)
          · have hqn := congrArg List.length g1
            rw [List.length_map] at hqn
            rw [List.length_append, hqn]; exact HW.out
          · exact hkw.trans (Keep.of_grown HG.out) (fun b hb h => by have := (HO2.out.lt b h.symm).1; omega)
        case measure => simp [intOf]; omega
    · obtain rfl : j = l.length := by omega
      have hps1 := hps.out
      rw [List.take_length] at hps1
      have hpn := congrArg List.length hps1
      rw [List.length_map] at hpn
      obtain ⟨A4, c4, hAe, hc1, hc2, hLL⟩ := LiesPL_owns (Ok := fun b => Ok b ∨ w.heap.size ≤ b) hown.out (fun p hp => LiesP_mono (fun b _ _ hb _ => hb.1) _ _ (hpl.out p hp)) (fun g hg => Or.inr (hown.out.lt g hg).1)
      rw [hps1] at hLL
      rw [hpn] at hc1 hAe
      have HAe := Lib.hid hAe
      have HLL := Lib.hid hLL
      clear hAe hLL hps1 hpn
      go_wp2_with fail
      go_ret
      exact ⟨A4, c4, by rw [HAe.out]; rfl, hc1, hc2, HLL.out, hk⟩

end Go.Proofs.Ytkidjbfapldmbaa
