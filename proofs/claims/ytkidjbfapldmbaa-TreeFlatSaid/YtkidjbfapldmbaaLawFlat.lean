/- For every input TreeFlat returns true. -/
import Derived.Test.YtkidjbfapldmbaaLawJoins
import Derived.Test.YtkidjbfapldmbaaSame
namespace Go.Proofs.Ytkidjbfapldmbaa
set_option linter.unusedVariables false
set_option linter.unusedSimpArgs false
open Go.RowKit P8

/-! The plain law -/
theorem flatT_no : ∀ (l : List Nd), (∀ x ∈ l, x.h.k ≠ 8) → flatT 8 l = l
  | [], _ => rfl
  | x :: r, h => by
    have h1 := flatT_no r fun y hy => h y (List.mem_cons_of_mem _ hy)
    rw [flatT, List.flatMap_cons, if_neg (h x (List.mem_cons_self ..))]
    simp only [flatT] at h1
    rw [h1]; rfl
theorem flatT_joinT (l : List Nd) (h : ∀ x ∈ l, x.h.k ≠ 8) : (if (joinT l).h.k = 8 then (joinT l).l else [joinT l]) = l := by
  have hf := flatT_no l h
  rw [joinT]
  split
  · rename_i h1
    have h0 : (flatT 8 l)[0] ∈ l := by simp only [hf]; exact List.getElem_mem _
    rw [if_neg (h _ h0)]
    simp only [hf] at h1 ⊢
    obtain ⟨x, rfl⟩ := List.length_eq_one_iff.1 h1
    rfl
  · have h8 : (Nd.mk (hd0 8) (flatT 8 l)).h.k = 8 := rfl
    rw [if_pos h8]; exact hf
theorem joinT_congr {l m : List Nd} (h : flatT 8 l = flatT 8 m) : joinT l = joinT m := by
  unfold joinT; simp only [h]
theorem join_two (a b : List Nd) (ha : ∀ x ∈ a, x.h.k ≠ 8) (hb : ∀ x ∈ b, x.h.k ≠ 8) : joinT [joinT a, joinT b] = joinT (a ++ b) := by
  have h1 : flatT 8 [joinT a, joinT b] = a ++ b := by
    rw [flatT, List.flatMap_cons, List.flatMap_cons, List.flatMap_nil, flatT_joinT a ha, flatT_joinT b hb, List.append_nil]
  have h2 : flatT 8 (a ++ b) = a ++ b := flatT_no _ fun x hx => by
    rcases List.mem_append.1 hx with hx | hx
    · exact ha x hx
    · exact hb x hx
  exact joinT_congr (h1.trans h2.symm)

theorem two_lies {w : World} {b : Nat} {T U : Nd} {S S' : Value} {t : TypeId} {cs : Array Value} (h : Blk w b cs t) (hc : cs.toList = (Nd.row T S).toList ++ (Nd.row U S').toList) (hS : Lies w T S) (hS' : Lies w U S') : LiesL w (some ⟨b, 0, none⟩) 0 [T, U] := by
  show LiesPL _ w _ 0 [T, U]
  rw [LiesPL, LiesPL, LiesPL]
  have hx : ∀ (m : Nat) u, ((Nd.row T S).toList ++ (Nd.row U S').toList)[m]? = some u → w.cell? ⟨b, m, none⟩ = some u := fun m u hu => h.cell m (by rw [← Array.getElem?_toList, hc]; exact hu)
  have hl : (Nd.row T S).toList.length = 10 := rfl
  refine ⟨⟨b, 0, S, rfl, trivial, fun j u hu => ?_, hS⟩, ⟨b, 0, S', rfl, trivial, fun j u hu => ?_, hS'⟩, trivial⟩
  · rw [show 0 + 0 * 10 + j = j by omega]
    refine hx j u ?_
    have hj := (Array.getElem?_eq_some_iff.1 hu).1
    rw [List.getElem?_append_left (by simpa using hj)]
    simpa using hu
  · rw [show 0 + (0 + 1) * 10 + j = 10 + j by omega]
    refine hx (10 + j) u ?_
    rw [List.getElem?_append_right (by omega), hl, Nat.add_sub_cancel_left]
    simpa using hu

theorem flat_longa (la lb : List Nd) (h : 15 < la.length) (A A' : Option Addr) (cap cap' : Nat) (w : World) :
    Calls Try.prog 5 #[.slice A la.length cap, .slice A' lb.length cap'] w fun e w' => e = .returned (.bool true) ∧ Keep Nb w w' := by
  have m1 : decide (15 < (la.length : Int)) = true := by simp; omega
  clear h
  go_enter Try.func5, Try.ntmps5
  go_wp2_with fail
  refine (awake_any _).mono ?_
  rintro e w2 ⟨rfl, hk2⟩
  go_wp2_with fail
  refine (awake_any _).mono ?_
  rintro e w3 ⟨rfl, hk3⟩
  go_wp2_with fail
  go_ret
  exact ⟨rfl, hk2.trans hk3 (fun _ _ h => h)⟩

theorem flat_longb (la lb : List Nd) (h0 : la.length ≤ 15) (h : 15 < lb.length) (A A' : Option Addr) (cap cap' : Nat) (w : World) :
    Calls Try.prog 5 #[.slice A la.length cap, .slice A' lb.length cap'] w fun e w' => e = .returned (.bool true) ∧ Keep Nb w w' := by
  have m1 : decide (15 < (la.length : Int)) = false := by simp; omega
  have m2 : decide (15 < (lb.length : Int)) = true := by simp; omega
  clear h h0
  go_enter Try.func5, Try.ntmps5
  go_wp2_with fail
  refine (awake_any _).mono ?_
  rintro e w2 ⟨rfl, hk2⟩
  go_wp2_with fail
  refine (awake_any _).mono ?_
  rintro e w3 ⟨rfl, hk3⟩
  go_wp2_with fail
  go_ret
  exact ⟨rfl, hk2.trans hk3 (fun _ _ h => h)⟩

set_option maxRecDepth 100000 in
set_option maxHeartbeats 4000000 in
theorem flat_short (la lb : List Nd) (hla : la.length ≤ 15) (hlb : lb.length ≤ 15) (A A' : Option Addr) (cap cap' : Nat) (w : World) (hLa : LiesL w A 0 la) (hLb : LiesL w A' 0 lb) :
    Calls Try.prog 5 #[.slice A la.length cap, .slice A' lb.length cap'] w fun e w' => e = .returned (.bool true) ∧ Keep Nb w w' := by
  have m1 : decide (15 < (la.length : Int)) = false := by simp; omega
  have m2 : decide (15 < (lb.length : Int)) = false := by simp; omega
  obtain ⟨i0, hi0, hz0, hz1, hz2⟩ := info_parts info33
  go_enter Try.func5, Try.ntmps5
  go_wp2_with fail
  refine (awake_any _).mono ?_
  rintro e w0 ⟨rfl, hk00⟩
  go_wp2_with fail
  go_loopw [5, 25] (fun o i wr => ∃ (j : Nat) (ps : List (Nd × Value)), j ≤ la.length ∧ i = .int .i64 j ∧ Hid (ps.map (·.1) = la.take j) ∧ Hid (∀ x ∈ la.take j, few x = true ∧ x.h.k ≠ 8) ∧
      Hid (∀ p ∈ ps, LiesP (fun b => b < wr.heap.size ∧ some b ≠ o.ownBlock) wr p.1 p.2) ∧ Hid (wr.ownsRow w0.heap.size 33 10 o ps.length (rowsOf ps)) ∧ Keep Nb w0 wr) (fun _ i _ => la.length - (intOf i).toNat)
  case atStart => exact ⟨0, [], by omega, rfl, Lib.hid (by simp), Lib.hid (by simp), Lib.hid (by simp), Lib.hid (World.ownsRow_nil _ _ _ _), Keep.refl _ _⟩
  case round =>
    obtain ⟨j, ps, hj, rfl, hps, hfw, hpl, hown, hk0⟩ := hrel
    have hk : Keep Nb w wr := Keep.trans hk00 hk0 (fun _ _ h => h)
    have hkz := hk0.size
    by_cases hlt : j < la.length
    · obtain ⟨b0, off, A2, n2, rfl, hten, hS⟩ := hLa.at j hlt
      obtain ⟨c0, c1, c2, c3, c4, c5, c6, c7, c8, c9, lt⟩ := hten.keep hk
      have hj0 : (0 : Int) ≤ (j : Int) := by omega
      have hj1 : (j : Int) < (la.length : Int) := by omega
      have hfj := fun wx => few_any la[j] (.slice A2 la[j].l.length n2) wx
      by_cases ef : few la[j] = true
      · rw [ef] at hfj
        have HF := Lib.hid hfj; clear hfj
        have hct := (few_count ef).1
        by_cases e8 : la[j].h.k = 8
        · have m8 : (la[j].h.k == 8) = true := by simpa using e8
          clear e8 ef
          go_wp2_with fail
          refine (HF.out _ (Lies_keep hk hS)).mono ?_
          rintro e w3 ⟨rfl, hk3⟩
          have hk3' := hk.trans hk3 (fun _ _ h => h)
          clear c0 c1 c2 c3 c4 c5 c6 c7 c8 c9 lt
          obtain ⟨c0, c1, c2, c3, c4, c5, c6, c7, c8, c9, lt⟩ := hten.keep hk3'
          go_wp2_with fail
          go_ret
          exact ⟨rfl, hk3'⟩
        have m8 : (la[j].h.k == 8) = false := by simpa using e8
        have hfw2 : ∀ x ∈ la.take (j + 1), few x = true ∧ x.h.k ≠ 8 := fun x hx => by
          rw [List.take_succ_eq_append_getElem hlt] at hx
          rcases List.mem_append.1 hx with hx | hx
          · exact hfw.out x hx
          · obtain rfl : x = la[j] := by simpa using hx
            exact ⟨ef, e8⟩
        have HFW := Lib.hid hfw2
        clear hfw2 ef e8
        go_wp2_with fail
        refine (HF.out _ (Lies_keep hk hS)).mono ?_
        rintro e w3 ⟨rfl, hk3⟩
        have hk3' := hk.trans hk3 (fun _ _ h => h)
        have s3 := hk3.size
        clear c0 c1 c2 c3 c4 c5 c6 c7 c8 c9 lt
        obtain ⟨c0, c1, c2, c3, c4, c5, c6, c7, c8, c9, lt⟩ := hten.keep hk3'
        go_wp2_with fail
        refine (theirs_any 400 (by omega) la[j] (by omega) _ _ (Lies_keep hk3' hS)).mono ?_
        rintro e w4 ⟨S2, rfl, hS2, hk4⟩
        obtain ⟨A3, n3, rfl, _⟩ := LiesP_def.1 hS2
        have hk5 : Keep Nb wr (w4.alloc (.cells (Nd.row la[j] (.slice A3 la[j].l.length n3)) 33)) := Keep.alloc (hk3.trans hk4 (fun _ _ h => h)) _
        have s4 := hk4.size
        have hkw := hk0.trans hk5 (fun _ _ h => h)
        have hvl := hown.out.lt
        have hsa : (w4.alloc (.cells (Nd.row la[j] (.slice A3 la[j].l.length n3)) 33)).heap.size = w4.heap.size + 1 := by simp
        have HP2 := Lib.hid (fun p hp => LiesP_mono (Ok' := fun b => b < (w4.alloc (.cells (Nd.row la[j] (.slice A3 la[j].l.length n3)) 33)).heap.size ∧ some b ≠ u5.ownBlock) (fun b _ _ hb _ => ⟨by omega, hb.2⟩) _ _ (Lies_keep hk5 (hpl.out p hp)))
        have HO2 := Lib.hid (ownsRow_keep hown.out hk5 (fun _ _ h => h))
        have HL2 := Lib.hid (one_lies (Ok := fun b => b < (w4.alloc (.cells (Nd.row la[j] (.slice A3 la[j].l.length n3)) 33)).heap.size ∧ some b ≠ u5.ownBlock) (Blk.new w4 (Nd.row la[j] (.slice A3 la[j].l.length n3)) 33) ⟨by omega, fun e => by have := (hvl _ e.symm).2; omega⟩
          (Lies_keep (Keep.alloc (Keep.refl _ _) _) (LiesP_mono (fun b _ _ hb _ => ⟨by omega, fun e => by have := (hvl b e.symm).2; omega⟩) _ _ hS2)))
        have hn1 : ps.length ≤ 15 := by
          have hn1 := congrArg List.length hps.out
          rw [List.length_map, List.length_take] at hn1
          omega
        clear hS2 hpl hown hvl hk3 hk4 hk5 c0 c1 c2 c3 c4 c5 c6 c7 c8 c9 lt
        simp only [Nd.row] at HP2 HO2 HL2 hkw hsa ⊢
        simp only [hsa] at HP2 HL2
        go_wp2_with (refine wpList_append_nodes rfl _ _ 31 rfl w0.heap.size 33 i0 _ Try.underlying31 hi0 hz0 hz1 hz2 rfl u5 ps.length ps rfl HO2.out (some ⟨w4.heap.size, 0, none⟩) [la[j]] 1 rfl HL2.out (by simp; omega) (by simp; omega) ?_)
        intro V' w5 S' g2 g3 g4 g5
        obtain ⟨qs, hqs⟩ : ∃ qs, qs = [(la[j], S')] := ⟨_, rfl⟩
        have g1 : qs.map (·.1) = [la[j]] := by rw [hqs]; rfl
        have g2 : ∀ q1 q2, (q1, q2) ∈ qs → LiesP _ _ q1 q2 := fun q1 q2 hq => by rw [hqs] at hq; simp at hq; obtain ⟨rfl, rfl⟩ := hq; exact g2
        rw [← hqs] at g3
        clear hqs
        have HG := Lib.hid g4
        have HT := Lib.hid g5
        have HQ := Lib.hid g2
        have HW := Lib.hid g3
        clear g2 g3 g4 g5
        go_wp2_with fail
        go_roundw
        case rel =>
          refine ⟨j + 1, ps ++ qs, by omega, by go_num, Lib.hid ?_, HFW, Lib.hid (fun p hp => ?_), Lib.hid ?_, ?_⟩
          · rw [List.map_append, hps.out, g1, List.take_succ_eq_append_getElem hlt]
          · rcases List.mem_append.1 hp with hp | hp
            · exact grown_lies hsa HG.out HT.out (fun b hb => hb) (fun b _ h1 h2 => ⟨h1, h2⟩) (HP2.out p hp)
            · exact grown_lies hsa HG.out HT.out (fun b hb => hb) (fun b _ h1 h2 => ⟨h1, h2⟩) (HQ.out p.1 p.2 hp)
          · have hqn := congrArg List.length g1
            rw [List.length_map] at hqn
            rw [List.length_append, hqn]; exact HW.out
          · exact hkw.trans (Keep.of_grown HG.out) (fun b hb h => by have := (HO2.out.lt b h.symm).1; omega)
        case measure => simp [intOf]; omega
      · have ef' : few la[j] = false := by simpa using ef
        rw [ef'] at hfj
        have HF := Lib.hid hfj; clear hfj ef ef'
        go_wp2_with fail
        refine (HF.out _ (Lies_keep hk hS)).mono ?_
        rintro e w3 ⟨rfl, hk3⟩
        go_wp2_with fail
        go_ret
        exact ⟨rfl, hk.trans hk3 (fun _ _ h => h)⟩
    · obtain rfl : j = la.length := by omega
      have hps1 := hps.out
      have hfw1 := hfw.out
      rw [List.take_length] at hps1 hfw1
      have hpn := congrArg List.length hps1
      rw [List.length_map] at hpn
      obtain ⟨A4la, c4la, hAe, hc1, hc2, hLL⟩ := LiesPL_owns (Ok := fun _ => True) hown.out (fun p hp => LiesP_all (hpl.out p hp)) (fun _ _ => trivial)
      rw [hps1] at hLL
      rw [hpn] at hc1 hAe
      have hclla := countL_few la (fun x hx => (hfw1 x hx).1)
      have HLLla := Lib.hid hLL
      have HNla := Lib.hid (fun x hx => (hfw1 x hx).2)
      subst hAe
      clear hLL hps1 hpn hps hfw1 hfw hpl hown hlt hkz
      have hk1 := hk
      clear hk hk0
      generalize wr = w1 at *
      go_wp2_with fail
      go_loopw [6, 53] (fun o i wr => ∃ (j : Nat) (ps : List (Nd × Value)), j ≤ lb.length ∧ i = .int .i64 j ∧ Hid (ps.map (·.1) = lb.take j) ∧ Hid (∀ x ∈ lb.take j, few x = true ∧ x.h.k ≠ 8) ∧
          Hid (∀ p ∈ ps, LiesP (fun b => b < wr.heap.size ∧ some b ≠ o.ownBlock) wr p.1 p.2) ∧ Hid (wr.ownsRow w1.heap.size 33 10 o ps.length (rowsOf ps)) ∧ Keep Nb w1 wr) (fun _ i _ => lb.length - (intOf i).toNat)
      case atStart => exact ⟨0, [], by omega, rfl, Lib.hid (by simp), Lib.hid (by simp), Lib.hid (by simp), Lib.hid (World.ownsRow_nil _ _ _ _), Keep.refl _ _⟩
      case round =>
        obtain ⟨j, ps, hj, rfl, hps, hfw, hpl, hown, hk0⟩ := hrel
        have hk : Keep Nb w wr := Keep.trans hk1 hk0 (fun _ _ h => h)
        have hkz := hk0.size
        by_cases hlt : j < lb.length
        · obtain ⟨b0, off, A2, n2, rfl, hten, hS⟩ := hLb.at j hlt
          obtain ⟨c0, c1, c2, c3, c4, c5, c6, c7, c8, c9, lt⟩ := hten.keep hk
          have hj0 : (0 : Int) ≤ (j : Int) := by omega
          have hj1 : (j : Int) < (lb.length : Int) := by omega
          have hfj := fun wx => few_any lb[j] (.slice A2 lb[j].l.length n2) wx
          by_cases ef : few lb[j] = true
          · rw [ef] at hfj
            have HF := Lib.hid hfj; clear hfj
            have hct := (few_count ef).1
            by_cases e8 : lb[j].h.k = 8
            · have m8 : (lb[j].h.k == 8) = true := by simpa using e8
              clear e8 ef
              go_wp2_with fail
              refine (HF.out _ (Lies_keep hk hS)).mono ?_
              rintro e w3 ⟨rfl, hk3⟩
              have hk3' := hk.trans hk3 (fun _ _ h => h)
              clear c0 c1 c2 c3 c4 c5 c6 c7 c8 c9 lt
              obtain ⟨c0, c1, c2, c3, c4, c5, c6, c7, c8, c9, lt⟩ := hten.keep hk3'
              go_wp2_with fail
              go_ret
              exact ⟨rfl, hk3'⟩
            have m8 : (lb[j].h.k == 8) = false := by simpa using e8
            have hfw2 : ∀ x ∈ lb.take (j + 1), few x = true ∧ x.h.k ≠ 8 := fun x hx => by
              rw [List.take_succ_eq_append_getElem hlt] at hx
              rcases List.mem_append.1 hx with hx | hx
              · exact hfw.out x hx
              · obtain rfl : x = lb[j] := by simpa using hx
                exact ⟨ef, e8⟩
            have HFW := Lib.hid hfw2
            clear hfw2 ef e8
            go_wp2_with fail
            refine (HF.out _ (Lies_keep hk hS)).mono ?_
            rintro e w3 ⟨rfl, hk3⟩
            have hk3' := hk.trans hk3 (fun _ _ h => h)
            have s3 := hk3.size
            clear c0 c1 c2 c3 c4 c5 c6 c7 c8 c9 lt
            obtain ⟨c0, c1, c2, c3, c4, c5, c6, c7, c8, c9, lt⟩ := hten.keep hk3'
            go_wp2_with fail
            refine (theirs_any 400 (by omega) lb[j] (by omega) _ _ (Lies_keep hk3' hS)).mono ?_
            rintro e w4 ⟨S2, rfl, hS2, hk4⟩
            obtain ⟨A3, n3, rfl, _⟩ := LiesP_def.1 hS2
            have hk5 : Keep Nb wr (w4.alloc (.cells (Nd.row lb[j] (.slice A3 lb[j].l.length n3)) 33)) := Keep.alloc (hk3.trans hk4 (fun _ _ h => h)) _
            have s4 := hk4.size
            have hkw := hk0.trans hk5 (fun _ _ h => h)
            have hvl := hown.out.lt
            have hsa : (w4.alloc (.cells (Nd.row lb[j] (.slice A3 lb[j].l.length n3)) 33)).heap.size = w4.heap.size + 1 := by simp
            have HP2 := Lib.hid (fun p hp => LiesP_mono (Ok' := fun b => b < (w4.alloc (.cells (Nd.row lb[j] (.slice A3 lb[j].l.length n3)) 33)).heap.size ∧ some b ≠ u6.ownBlock) (fun b _ _ hb _ => ⟨by omega, hb.2⟩) _ _ (Lies_keep hk5 (hpl.out p hp)))
            have HO2 := Lib.hid (ownsRow_keep hown.out hk5 (fun _ _ h => h))
            have HL2 := Lib.hid (one_lies (Ok := fun b => b < (w4.alloc (.cells (Nd.row lb[j] (.slice A3 lb[j].l.length n3)) 33)).heap.size ∧ some b ≠ u6.ownBlock) (Blk.new w4 (Nd.row lb[j] (.slice A3 lb[j].l.length n3)) 33) ⟨by omega, fun e => by have := (hvl _ e.symm).2; omega⟩
              (Lies_keep (Keep.alloc (Keep.refl _ _) _) (LiesP_mono (fun b _ _ hb _ => ⟨by omega, fun e => by have := (hvl b e.symm).2; omega⟩) _ _ hS2)))
            have hn1 : ps.length ≤ 15 := by
              have hn1 := congrArg List.length hps.out
              rw [List.length_map, List.length_take] at hn1
              omega
            clear hS2 hpl hown hvl hk3 hk4 hk5 c0 c1 c2 c3 c4 c5 c6 c7 c8 c9 lt
            simp only [Nd.row] at HP2 HO2 HL2 hkw hsa ⊢
            simp only [hsa] at HP2 HL2
            go_wp2_with (refine wpList_append_nodes rfl _ _ 31 rfl w1.heap.size 33 i0 _ Try.underlying31 hi0 hz0 hz1 hz2 rfl u6 ps.length ps rfl HO2.out (some ⟨w4.heap.size, 0, none⟩) [lb[j]] 1 rfl HL2.out (by simp; omega) (by simp; omega) ?_)
            intro V' w5 S' g2 g3 g4 g5
            obtain ⟨qs, hqs⟩ : ∃ qs, qs = [(lb[j], S')] := ⟨_, rfl⟩
            have g1 : qs.map (·.1) = [lb[j]] := by rw [hqs]; rfl
            have g2 : ∀ q1 q2, (q1, q2) ∈ qs → LiesP _ _ q1 q2 := fun q1 q2 hq => by rw [hqs] at hq; simp at hq; obtain ⟨rfl, rfl⟩ := hq; exact g2
            rw [← hqs] at g3
            clear hqs
            have HG := Lib.hid g4
            have HT := Lib.hid g5
            have HQ := Lib.hid g2
            have HW := Lib.hid g3
            clear g2 g3 g4 g5
            go_wp2_with fail
            go_roundw
            case rel =>
              refine ⟨j + 1, ps ++ qs, by omega, by go_num, Lib.hid ?_, HFW, Lib.hid (fun p hp => ?_), Lib.hid ?_, ?_⟩
              · rw [List.map_append, hps.out, g1, List.take_succ_eq_append_getElem hlt]
              · rcases List.mem_append.1 hp with hp | hp
                · exact grown_lies hsa HG.out HT.out (fun b hb => hb) (fun b _ h1 h2 => ⟨h1, h2⟩) (HP2.out p hp)
                · exact grown_lies hsa HG.out HT.out (fun b hb => hb) (fun b _ h1 h2 => ⟨h1, h2⟩) (HQ.out p.1 p.2 hp)
              · have hqn := congrArg List.length g1
                rw [List.length_map] at hqn
                rw [List.length_append, hqn]; exact HW.out
              · exact hkw.trans (Keep.of_grown HG.out) (fun b hb h => by have := (HO2.out.lt b h.symm).1; omega)
            case measure => simp [intOf]; omega
          · have ef' : few lb[j] = false := by simpa using ef
            rw [ef'] at hfj
            have HF := Lib.hid hfj; clear hfj ef ef'
            go_wp2_with fail
            refine (HF.out _ (Lies_keep hk hS)).mono ?_
            rintro e w3 ⟨rfl, hk3⟩
            go_wp2_with fail
            go_ret
            exact ⟨rfl, hk.trans hk3 (fun _ _ h => h)⟩
        · obtain rfl : j = lb.length := by omega
          have hps1 := hps.out
          have hfw1 := hfw.out
          rw [List.take_length] at hps1 hfw1
          have hpn := congrArg List.length hps1
          rw [List.length_map] at hpn
          obtain ⟨A4lb, c4lb, hAe, hc1, hc2, hLL⟩ := LiesPL_owns (Ok := fun _ => True) hown.out (fun p hp => LiesP_all (hpl.out p hp)) (fun _ _ => trivial)
          rw [hps1] at hLL
          rw [hpn] at hc1 hAe
          have hcllb := countL_few lb (fun x hx => (hfw1 x hx).1)
          have HLLlb := Lib.hid hLL
          have HNlb := Lib.hid (fun x hx => (hfw1 x hx).2)
          subst hAe
          clear hLL hps1 hpn hps hfw1 hfw hpl hown hlt hkz
          have hkB := hk
          generalize wr = wB at *
          have HL1 := Lib.hid (LiesPL_mono (Ok' := fun b => b < wB.heap.size) (fun b _ _ _ hc => cell_lt hc) _ _ _ (LiesL_keep hk0 HLLla.out))
          have HL2 := Lib.hid (LiesPL_mono (Ok' := fun b => b < wB.heap.size) (fun b _ _ _ hc => cell_lt hc) _ _ _ HLLlb.out)
          clear HLLla HLLlb
          have hJE := join_two la lb HNla.out HNlb.out
          have hca : count (joinT la) ≤ 1 + countL la := count_joinT la
          have hcb : count (joinT lb) ≤ 1 + countL lb := count_joinT lb
          have hcab : countL (la ++ lb) = countL la + countL lb := countL_append la lb
          have hcj2 : countL [joinT la, joinT lb] = count (joinT la) + count (joinT lb) := by simp [countL]
          have hcj : count (joinT (la ++ lb)) ≤ 1 + countL (la ++ lb) := count_joinT _
          have hss : same (joinT (la ++ lb)) (joinT (la ++ lb)) = true := same_refl _
          have HJE := Lib.hid hJE
          have HSS := Lib.hid hss
          clear hJE hss HNla HNlb
          have HO0 : Hid ((wB.alloc (.cells #[] 33)).ownsRow wB.heap.size 33 10 (.slice (some ⟨wB.heap.size, 0, none⟩) 0 0) 0 (rowsOf [])) := Lib.hid (World.ownsRow_made (base := wB.heap.size) (e := 33) (size := 10) wB #[] 0 (Nat.le_refl _) (Nat.zero_le _) rfl)
          have HLA := Lib.hid (LiesL_keep (Keep.alloc (Keep.refl _ _) (.cells #[] 33)) HL1.out)
          go_wp2_with (refine wpList_append_nodes rfl _ _ 31 rfl wB.heap.size 33 i0 _ Try.underlying31 hi0 hz0 hz1 hz2 rfl _ 0 [] rfl HO0.out A4la la c4la rfl HLA.out (by omega) (by simp) ?_)
          intro V1 w6 qs1 g1 g2 g3 g4 g5
          have s6 := g4.size
          have s6' : (wB.alloc (.cells #[] 33)).heap.size = wB.heap.size + 1 := by simp
          have hkx : Keep Nb wB w6 := Keep.trans (Keep.alloc (Keep.refl _ _) _) (Keep.of_grown g4) (fun b hb h => by simp [Value.ownBlock] at h; omega)
          have HQ1 := Lib.hid (fun (q : Nd × Value) (hq : q ∈ qs1) => grown_lies (Ok := fun b => b < wB.heap.size) (Ok' := fun b => b < w6.heap.size ∧ some b ≠ V1.ownBlock) s6' g4 g5 (fun b hb => ⟨by omega, by simp [Value.ownBlock]; omega⟩) (fun b hb h1 h2 => ⟨h1, h2⟩) (g2 q.1 q.2 hq))
          have HLB := Lib.hid (LiesPL_mono (Ok' := fun b => b < w6.heap.size ∧ some b ≠ V1.ownBlock) (fun b _ _ hb _ => ⟨by omega, fun e => by have := (g3.lt b e.symm).1; omega⟩) _ _ _ (LiesL_keep hkx HL2.out))
          have HO1 := Lib.hid g3
          have hqn1 : qs1.length = la.length := by rw [← g1, List.length_map]
          have G1 := Lib.hid g1
          have HKX := Lib.hid hkx
          clear g1 g2 g3 g4 g5 HLA HO0 hkx
          go_wp2_with (refine wpList_append_nodes rfl _ _ 31 rfl wB.heap.size 33 i0 _ Try.underlying31 hi0 hz0 hz1 hz2 rfl V1 la.length qs1 rfl HO1.out A4lb lb c4lb rfl HLB.out (by omega) (by omega) ?_)
          intro V2 w7 qs2 f1 f2 f3 f4 f5
          have s7 := f4.size
          have hk7 : Keep Nb wB w7 := HKX.out.trans (Keep.of_grown f4) (fun b hb h => by have := (HO1.out.lt b h.symm).1; omega)
          have hq7 : ∀ q ∈ qs1 ++ qs2, Lies w7 q.1 q.2 := fun q hq => by
            rcases List.mem_append.1 hq with hq | hq
            · exact LiesP_all (grown_lies (Ok' := fun _ => True) rfl f4 f5 (fun b hb => hb) (fun b hb h1 h2 => trivial) (HQ1.out q hq))
            · exact LiesP_all (grown_lies (Ok' := fun _ => True) rfl f4 f5 (fun b hb => hb) (fun b hb h1 h2 => trivial) (f2 q.1 q.2 hq))
          obtain ⟨lab, hlab⟩ : ∃ x, x = la ++ lb := ⟨_, rfl⟩
          have hmap : (qs1 ++ qs2).map (·.1) = lab := by rw [List.map_append, G1.out, f1, hlab]
          have hqn : (qs1 ++ qs2).length = lab.length := by rw [← hmap, List.length_map]
          have hqn' : lab.length = la.length + lb.length := by rw [hlab, List.length_append]
          rw [← hqn', ← hqn] at f3
          obtain ⟨A6, c6, hAe, _, _, hLL⟩ := LiesPL_owns (Ok := fun _ => True) f3 hq7 (fun _ _ => trivial)
          rw [hmap] at hLL
          rw [hqn] at hAe
          rw [← hlab] at hcab hcj HJE HSS
          have HLL := Lib.hid hLL
          subst hAe
          have hclab : countL lab ≤ 12000 := by omega
          clear hLL f1 f2 f3 f4 f5 hq7 hmap hqn hqn' hlab HQ1 HLB HO1 G1 HKX hqn1
          go_wp2_with fail
          refine (tjoin_any lab (by omega) _ _ _ HLL.out).mono ?_
          rintro e w8 ⟨S1, rfl, hS1, hk8⟩
          obtain ⟨A7, n7, rfl, _⟩ := LiesP_def.1 hS1
          have hk8' : Keep Nb wB w8 := hk7.trans hk8 (fun _ _ h => h)
          clear hk8 hk7 HLL
          generalize joinT lab = TJ at *
          simp only [Nd.row]
          go_wp2_with fail
          have hk5 : Keep Nb w8 (w8.alloc (.cells (Nd.row TJ (.slice A7 TJ.l.length n7)) 33)) := Keep.alloc (Keep.refl _ _) _
          have hp : Blk (w8.alloc (.cells (Nd.row TJ (.slice A7 TJ.l.length n7)) 33)) w8.heap.size (Nd.row TJ (.slice A7 TJ.l.length n7)) 33 := Blk.new w8 _ _
          simp only [Nd.row] at hk5 hp
          generalize (w8.alloc (.cells #[.int .i64 TJ.h.k, .int .u8 TJ.h.c, .int .u64 TJ.h.s0, .int .u64 TJ.h.s1, .int .u64 TJ.h.s2, .int .u64 TJ.h.s3, .int .i64 TJ.h.n, .int .i64 TJ.h.mn, .int .i64 TJ.h.mx, .slice A7 TJ.l.length n7] 33)) = wc at hk5 hp ⊢
          generalize w8.heap.size = p at hp ⊢
          have hkc : Keep Nb wB wc := hk8'.trans hk5 (fun _ _ h => h)
          have hkW : Keep Nb w wc := hkB.trans hkc (fun _ _ h => h)
          have HLS := Lib.hid (Lies_keep hk5 hS1)
          have HL1c := Lib.hid (LiesL_keep hkc HL1.out)
          have HL2c := Lib.hid (LiesL_keep hkc HL2.out)
          clear hk5 hk8' hS1 HL1 HL2 hkc hkB hk0
          (have o0 := Blk.cell hp 0 (u := .int .i64 TJ.h.k) rfl; have o1 := Blk.cell hp 1 (u := .int .u8 TJ.h.c) rfl; have o2 := Blk.cell hp 2 (u := .int .u64 TJ.h.s0) rfl; have o3 := Blk.cell hp 3 (u := .int .u64 TJ.h.s1) rfl; have o4 := Blk.cell hp 4 (u := .int .u64 TJ.h.s2) rfl; have o5 := Blk.cell hp 5 (u := .int .u64 TJ.h.s3) rfl; have o6 := Blk.cell hp 6 (u := .int .i64 TJ.h.n) rfl; have o7 := Blk.cell hp 7 (u := .int .i64 TJ.h.mn) rfl; have o8 := Blk.cell hp 8 (u := .int .i64 TJ.h.mx) rfl; have o9 := Blk.cell hp 9 (u := (.slice A7 TJ.l.length n7)) rfl)
          have lp := hp.lt
          (refine wp_region_f [8] (InX Nb _) (by kernel_rfl) (InX.mk (Keep.drew (Keep.refl _ _))) (fun hI => ?_))
          have xx : ∀ k, ¬ Nb k := fun _ h => h
          have hK0 : Keep Nb wc wc.drew := (Keep.refl _ _).drew
          generalize wc.drew = x0 at hK0 hI ⊢
          (refine wpF_take (v := ?_) 0 rfl (by kernel_rfl) (by kernel_rfl) (by kernel_rfl) (by kernel_rfl) (fun _ _ _ h => h) (by assumption) rfl ?_ ?_; rotate_left; (focus (rintro _ ⟨E, rfl⟩; go_simp; (try with_reducible rfl))); simp only [Act.put, List.getElem_toArray, List.getElem_cons_succ, List.getElem_cons_zero, List.setIfInBounds_toArray, List.set_cons_zero, List.set_cons_succ])
          (refine wpF_take (v := ?_) 1 rfl (by kernel_rfl) (by kernel_rfl) (by kernel_rfl) (by kernel_rfl) (fun _ _ _ h => h) (by assumption) rfl ?_ ?_; rotate_left; (focus (rintro _ ⟨E, rfl⟩; go_simp; (try with_reducible rfl))); simp only [Act.put, List.getElem_toArray, List.getElem_cons_succ, List.getElem_cons_zero, List.setIfInBounds_toArray, List.set_cons_zero, List.set_cons_succ])
          (refine wpF_take (v := ?_) 3 rfl (by kernel_rfl) (by kernel_rfl) (by kernel_rfl) (by kernel_rfl) (fun _ _ _ h => h) (by assumption) rfl ?_ ?_; rotate_left; (focus (rintro _ ⟨E, rfl⟩; go_simp; (try with_reducible rfl))); simp only [Act.put, List.getElem_toArray, List.getElem_cons_succ, List.getElem_cons_zero, List.setIfInBounds_toArray, List.set_cons_zero, List.set_cons_succ])
          (refine wpF_one 2 rfl (by kernel_rfl) rfl (fun K hK => ?_))
          go_simp
          refine (tjoin_any la (by omega) _ _ _ (LiesPL_mono (fun _ _ _ _ _ => trivial) _ _ _ (LiesL_keep hK0 HL1c.out))).mono ?_
          rintro e x1 ⟨S2, he, hS2, hkn⟩
          obtain ⟨A8, n8, rfl, _⟩ := LiesP_def.1 hS2
          subst he
          replace hK0 := Keep.trans hK0 hkn (fun _ _ h => h)
          clear hkn
          generalize joinT la = T1 at *
          simp only [Nd.row]
          (refine hK _ _ (fun _ => InX.mk hK0) (fun hI => ?_); have hI := hI (by simp); clear hK K; try simp only [Act.put, List.getElem_toArray, List.getElem_cons_succ, List.getElem_cons_zero, List.setIfInBounds_toArray, List.set_cons_zero, List.set_cons_succ])
          (refine wpF_one 4 rfl (by kernel_rfl) rfl (fun K hK => ?_))
          go_simp
          refine (tjoin_any lb (by omega) _ _ _ (LiesPL_mono (fun _ _ _ _ _ => trivial) _ _ _ (LiesL_keep hK0 HL2c.out))).mono ?_
          rintro e x2 ⟨S3, he, hS3, hkn⟩
          obtain ⟨A9, n9, rfl, _⟩ := LiesP_def.1 hS3
          subst he
          replace hK0 := Keep.trans hK0 hkn (fun _ _ h => h)
          replace hS2 := Lies_keep hkn hS2
          clear hkn
          generalize joinT lb = T2 at *
          simp only [Nd.row]
          (refine hK _ _ (fun _ => InX.mk hK0) (fun hI => ?_); have hI := hI (by simp); clear hK K; try simp only [Act.put, List.getElem_toArray, List.getElem_cons_succ, List.getElem_cons_zero, List.setIfInBounds_toArray, List.set_cons_zero, List.set_cons_succ])
          (refine wpF_one 5 rfl (by kernel_rfl) rfl (fun K hK => ?_))
          go_simp
          have hb20 : Blk (x2.alloc (.cells #[.int .i64 T1.h.k, .int .u8 T1.h.c, .int .u64 T1.h.s0, .int .u64 T1.h.s1, .int .u64 T1.h.s2, .int .u64 T1.h.s3, .int .i64 T1.h.n, .int .i64 T1.h.mn, .int .i64 T1.h.mx, .slice A8 T1.l.length n8, .int .i64 T2.h.k, .int .u8 T2.h.c, .int .u64 T2.h.s0, .int .u64 T2.h.s1, .int .u64 T2.h.s2, .int .u64 T2.h.s3, .int .i64 T2.h.n, .int .i64 T2.h.mn, .int .i64 T2.h.mx, .slice A9 T2.l.length n9] 33)) x2.heap.size #[.int .i64 T1.h.k, .int .u8 T1.h.c, .int .u64 T1.h.s0, .int .u64 T1.h.s1, .int .u64 T1.h.s2, .int .u64 T1.h.s3, .int .i64 T1.h.n, .int .i64 T1.h.mn, .int .i64 T1.h.mx, .slice A8 T1.l.length n8, .int .i64 T2.h.k, .int .u8 T2.h.c, .int .u64 T2.h.s0, .int .u64 T2.h.s1, .int .u64 T2.h.s2, .int .u64 T2.h.s3, .int .i64 T2.h.n, .int .i64 T2.h.mn, .int .i64 T2.h.mx, .slice A9 T2.l.length n9] 33 := Blk.new x2 _ _
          have hkn : Keep Nb x2 (x2.alloc (.cells #[.int .i64 T1.h.k, .int .u8 T1.h.c, .int .u64 T1.h.s0, .int .u64 T1.h.s1, .int .u64 T1.h.s2, .int .u64 T1.h.s3, .int .i64 T1.h.n, .int .i64 T1.h.mn, .int .i64 T1.h.mx, .slice A8 T1.l.length n8, .int .i64 T2.h.k, .int .u8 T2.h.c, .int .u64 T2.h.s0, .int .u64 T2.h.s1, .int .u64 T2.h.s2, .int .u64 T2.h.s3, .int .i64 T2.h.n, .int .i64 T2.h.mn, .int .i64 T2.h.mx, .slice A9 T2.l.length n9] 33)) := Keep.alloc (Keep.refl _ _) _
          generalize x2.alloc (.cells #[.int .i64 T1.h.k, .int .u8 T1.h.c, .int .u64 T1.h.s0, .int .u64 T1.h.s1, .int .u64 T1.h.s2, .int .u64 T1.h.s3, .int .i64 T1.h.n, .int .i64 T1.h.mn, .int .i64 T1.h.mx, .slice A8 T1.l.length n8, .int .i64 T2.h.k, .int .u8 T2.h.c, .int .u64 T2.h.s0, .int .u64 T2.h.s1, .int .u64 T2.h.s2, .int .u64 T2.h.s3, .int .i64 T2.h.n, .int .i64 T2.h.mn, .int .i64 T2.h.mx, .slice A9 T2.l.length n9] 33) = x3 at hb20 hkn ⊢
          generalize x2.heap.size = g2 at hb20 ⊢
          have hLT : LiesL x3 (some ⟨g2, 0, none⟩) 0 [T1, T2] := two_lies (S := .slice A8 T1.l.length n8) (S' := .slice A9 T2.l.length n9) hb20 rfl (Lies_keep hkn hS2) (Lies_keep hkn hS3)
          replace hK0 := Keep.trans hK0 hkn (fun _ _ h => h)
          clear hkn hb20
          (refine hK _ _ (fun _ => InX.mk hK0) (fun hI => ?_); have hI := hI (by simp); clear hK K; try simp only [Act.put, List.getElem_toArray, List.getElem_cons_succ, List.getElem_cons_zero, List.setIfInBounds_toArray, List.set_cons_zero, List.set_cons_succ])
          (refine wpF_one 6 rfl (by kernel_rfl) rfl (fun K hK => ?_))
          go_simp
          refine (tjoin_any [T1, T2] (by omega) _ _ _ hLT).mono ?_
          rintro e x4 ⟨S4, he, hS4, hkn⟩
          rw [HJE.out] at he hS4
          obtain ⟨A10, n10, rfl, _⟩ := LiesP_def.1 hS4
          subst he
          replace hK0 := Keep.trans hK0 hkn (fun _ _ h => h)
          clear hkn
          simp only [Nd.row]
          (refine hK _ _ (fun _ => InX.mk hK0) (fun hI => ?_); have hI := hI (by simp); clear hK K; try simp only [Act.put, List.getElem_toArray, List.getElem_cons_succ, List.getElem_cons_zero, List.setIfInBounds_toArray, List.set_cons_zero, List.set_cons_succ])
          (refine wpF_one 7 rfl (by kernel_rfl) rfl (fun K hK => ?_))
          go_simp
          refine (same_any 20000 (by omega) TJ TJ (by omega) _ _ _ (Lies_keep hK0 HLS.out) hS4).mono ?_
          rintro e x5 ⟨he, hkn⟩
          rw [HSS.out] at he
          subst he
          replace hK0 := Keep.trans hK0 hkn (fun _ _ h => h)
          clear hkn
          (refine hK _ _ (fun _ => InX.mk hK0) (fun hI => ?_); have hI := hI (by simp); clear hK K; try simp only [Act.put, List.getElem_toArray, List.getElem_cons_succ, List.getElem_cons_zero, List.setIfInBounds_toArray, List.set_cons_zero, List.set_cons_succ])
          (refine wpF_one 8 rfl (by kernel_rfl) rfl (fun K hK => ?_))
          go_simp
          (refine hK _ _ (fun h => absurd (by simp) h) (fun _ => ?_); clear hK K; try simp only [Act.put, List.getElem_toArray, List.getElem_cons_succ, List.getElem_cons_zero, List.setIfInBounds_toArray, List.set_cons_zero, List.set_cons_succ])
          (refine wpF_done (by kernel_rfl) ?_ _)
          go_wp2_with fail
          go_ret
          exact ⟨rfl, Keep.trans hkW hK0 (fun _ _ h => h)⟩

theorem lawflat_any (la lb : List Nd) (A A' : Option Addr) (cap cap' : Nat) (w : World) (hLa : LiesL w A 0 la) (hLb : LiesL w A' 0 lb) :
    Calls Try.prog 5 #[.slice A la.length cap, .slice A' lb.length cap'] w fun e w' => e = .returned (.bool true) ∧ Keep Nb w w' := by
  by_cases h : la.length ≤ 15
  · by_cases h' : lb.length ≤ 15
    · exact flat_short la lb h h' A A' cap cap' w hLa hLb
    · exact flat_longb la lb h (by omega) A A' cap cap' w
  · exact flat_longa la lb (by omega) A A' cap cap' w

end Go.Proofs.Ytkidjbfapldmbaa
