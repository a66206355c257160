/- For every input TreeJoins returns true. -/
import Derived.Test.YtkidjbfapldmbaaJoin
import Derived.Test.YtkidjbfapldmbaaFormed
import Derived.Test.YtkidjbfapldmbaaRsame
namespace Go.Proofs.Ytkidjbfapldmbaa
set_option linter.unusedVariables false
set_option linter.unusedSimpArgs false
open Go.RowKit P8

theorem countL_flatT (k : Int) : ∀ l : List Nd, countL (flatT k l) ≤ countL l
  | [] => by simp [flatT, countL]
  | x :: r => by
    have h1 := countL_flatT k r
    have h3 : countL (if x.h.k = k then x.l else [x]) ≤ count x := by
      split
      · cases x; rw [count]; simp only [Nd.l]; omega
      · simp [countL]
    rw [flatT, List.flatMap_cons, countL_append, countL]
    simp only [flatT] at h1
    omega
theorem count_joinT (l : List Nd) : count (joinT l) ≤ 1 + countL l := by
  have h := countL_flatT 8 l
  rw [joinT]; split
  · have := countL_get_le (flatT 8 l) 0 (by omega); omega
  · rw [count]; omega
theorem count_eitherT (l : List Nd) : count (eitherT l) ≤ 1 + countL l := by
  have h := countL_flatT 9 l
  rw [eitherT]; split
  · simp [count, countL]
  split
  · have := countL_get_le (flatT 9 l) 0 (by omega); omega
  · rw [count]; omega
theorem countL_few : ∀ l : List Nd, (∀ x ∈ l, few x = true) → countL l ≤ 400 * l.length
  | [], _ => by simp [countL]
  | x :: r, h => by
    have h1 := countL_few r fun y hy => h y (List.mem_cons_of_mem _ hy)
    have h2 := (few_count (h x (List.mem_cons_self ..))).1
    rw [countL, List.length_cons]; omega

theorem joins_long (l : List Nd) (hlen : 30 < l.length) (A : Option Addr) (cap : Nat) (w : World) :
    Calls Try.prog 4 #[.slice A l.length cap] w fun e w' => e = .returned (.bool true) ∧ Keep Nb w w' := by
  have m1 : decide (30 < (l.length : Int)) = true := by simp; omega
  clear hlen
  go_enter Try.func4, Try.ntmps4
  go_wp2_with fail
  refine (awake_any _).mono ?_
  rintro e w2 ⟨rfl, hk2⟩
  go_wp2_with fail
  refine (awake_any _).mono ?_
  rintro e w3 ⟨rfl, hk3⟩
  go_wp2_with fail
  go_ret
  exact ⟨rfl, hk2.trans hk3 (fun _ _ h => h)⟩

set_option maxRecDepth 100000 in
set_option maxHeartbeats 2000000 in
theorem joins_short (l : List Nd) (hlen : l.length ≤ 30) (A : Option Addr) (cap : Nat) (w : World) (hL : LiesL w A 0 l) :
    Calls Try.prog 4 #[.slice A l.length cap] w fun e w' => e = .returned (.bool true) ∧ Keep Nb w w' := by
  have m1 : decide (30 < (l.length : Int)) = false := by simp; omega
  obtain ⟨i0, hi0, hz0, hz1, hz2⟩ := info_parts info33
  go_enter Try.func4, Try.ntmps4
  go_wp2_with fail
  refine (awake_any _).mono ?_
  rintro e w2 ⟨rfl, hk0⟩
  go_wp2_with fail
  go_loopw [3, 15] (fun o i wr => ∃ (j : Nat) (ps : List (Nd × Value)), j ≤ l.length ∧ i = .int .i64 j ∧ Hid (ps.map (·.1) = l.take j) ∧ Hid (∀ x ∈ l.take j, few x = true) ∧
      Hid (∀ p ∈ ps, LiesP (fun b => b < wr.heap.size ∧ some b ≠ o.ownBlock) wr p.1 p.2) ∧ Hid (wr.ownsRow w.heap.size 33 10 o ps.length (rowsOf ps)) ∧ Keep Nb w wr) (fun _ i _ => l.length - (intOf i).toNat)
  case atStart => exact ⟨0, [], by omega, rfl, Lib.hid (by simp), Lib.hid (by simp), Lib.hid (by simp), Lib.hid (World.ownsRow_nil _ _ _ _), hk0⟩
  case round =>
    obtain ⟨j, ps, hj, rfl, hps, hfw, hpl, hown, hk⟩ := hrel
    clear hk0
    have hkz := hk.size
    by_cases hlt : j < l.length
    · obtain ⟨b, off, A2, n2, rfl, hten, hS⟩ := hL.at j hlt
      obtain ⟨c0, c1, c2, c3, c4, c5, c6, c7, c8, c9, lt⟩ := hten.keep hk
      have hj0 : (0 : Int) ≤ (j : Int) := by omega
      have hj1 : (j : Int) < (l.length : Int) := by omega
      have hfj := fun wx => few_any l[j] (.slice A2 l[j].l.length n2) wx
      by_cases ef : few l[j] = true
      · rw [ef] at hfj
        have HF := Lib.hid hfj; clear hfj
        have hct := (few_count ef).1
        have hfw2 : ∀ x ∈ l.take (j + 1), few x = true := fun x hx => by
          rw [List.take_succ_eq_append_getElem hlt] at hx
          rcases List.mem_append.1 hx with hx | hx
          · exact hfw.out x hx
          · obtain rfl : x = l[j] := by simpa using hx
            exact ef
        have HFW := Lib.hid hfw2
        clear hfw2 ef
        go_wp2_with fail
        refine (HF.out _ (Lies_keep hk hS)).mono ?_
        rintro e w3 ⟨rfl, hk3⟩
        have hk3' := hk.trans hk3 (fun _ _ h => h)
        have s3 := hk3.size
        clear c0 c1 c2 c3 c4 c5 c6 c7 c8 c9 lt
        obtain ⟨c0, c1, c2, c3, c4, c5, c6, c7, c8, c9, lt⟩ := hten.keep hk3'
        go_wp2_with fail
        refine (theirs_any 400 (by omega) l[j] (by omega) _ _ (Lies_keep hk3' hS)).mono ?_
        rintro e w4 ⟨S2, rfl, hS2, hk4⟩
        obtain ⟨A3, n3, rfl, _⟩ := LiesP_def.1 hS2
        have hk5 : Keep Nb wr (w4.alloc (.cells (Nd.row l[j] (.slice A3 l[j].l.length n3)) 33)) := Keep.alloc (hk3.trans hk4 (fun _ _ h => h)) _
        have s4 := hk4.size
        have hkw := hk.trans hk5 (fun _ _ h => h)
        have hvl := hown.out.lt
        have hsa : (w4.alloc (.cells (Nd.row l[j] (.slice A3 l[j].l.length n3)) 33)).heap.size = w4.heap.size + 1 := by simp
        have HP2 := Lib.hid (fun p hp => LiesP_mono (Ok' := fun b => b < (w4.alloc (.cells (Nd.row l[j] (.slice A3 l[j].l.length n3)) 33)).heap.size ∧ some b ≠ u3.ownBlock) (fun b _ _ hb _ => ⟨by omega, hb.2⟩) _ _ (Lies_keep hk5 (hpl.out p hp)))
        have HO2 := Lib.hid (ownsRow_keep hown.out hk5 (fun _ _ h => h))
        have HL2 := Lib.hid (one_lies (Ok := fun b => b < (w4.alloc (.cells (Nd.row l[j] (.slice A3 l[j].l.length n3)) 33)).heap.size ∧ some b ≠ u3.ownBlock) (Blk.new w4 (Nd.row l[j] (.slice A3 l[j].l.length n3)) 33) ⟨by omega, fun e => by have := (hvl _ e.symm).2; omega⟩
          (Lies_keep (Keep.alloc (Keep.refl _ _) _) (LiesP_mono (fun b _ _ hb _ => ⟨by omega, fun e => by have := (hvl b e.symm).2; omega⟩) _ _ hS2)))
        have hn1 : ps.length ≤ 30 := by
          have hn1 := congrArg List.length hps.out
          rw [List.length_map, List.length_take] at hn1
          omega
        clear hS2 hpl hown hvl hk3 hk4 hk5 c0 c1 c2 c3 c4 c5 c6 c7 c8 c9 lt
        simp only [Nd.row] at HP2 HO2 HL2 hkw hsa ⊢
        simp only [hsa] at HP2 HL2
        go_wp2_with (refine wpList_append_nodes rfl _ _ 31 rfl w.heap.size 33 i0 _ Try.underlying31 hi0 hz0 hz1 hz2 rfl u3 ps.length ps rfl HO2.out (some ⟨w4.heap.size, 0, none⟩) [l[j]] 1 rfl HL2.out (by simp; omega) (by simp; omega) ?_)
        intro V' w5 S' g2 g3 g4 g5
        obtain ⟨qs, hqs⟩ : ∃ qs, qs = [(l[j], S')] := ⟨_, rfl⟩
        have g1 : qs.map (·.1) = [l[j]] := by rw [hqs]; rfl
        have g2 : ∀ q1 q2, (q1, q2) ∈ qs → LiesP _ _ q1 q2 := fun q1 q2 hq => by rw [hqs] at hq; simp at hq; obtain ⟨rfl, rfl⟩ := hq; exact g2
        rw [← hqs] at g3
        clear hqs
        have HG := Lib.hid g4
        have HT := Lib.hid g5
        have HQ := Lib.hid g2
        have HW := Lib.hid g3
        clear g2 g3 g4 g5
        go_wp2_with fail
        go_roundw
        case rel =>
          refine ⟨j + 1, ps ++ qs, by omega, by go_num, Lib.hid ?_, HFW, Lib.hid (fun p hp => ?_), Lib.hid ?_, ?_⟩
          · rw [List.map_append, hps.out, g1, List.take_succ_eq_append_getElem hlt]
          · rcases List.mem_append.1 hp with hp | hp
            · exact grown_lies hsa HG.out HT.out (fun b hb => hb) (fun b _ h1 h2 => ⟨h1, h2⟩) (HP2.out p hp)
            · exact grown_lies hsa HG.out HT.out (fun b hb => hb) (fun b _ h1 h2 => ⟨h1, h2⟩) (HQ.out p.1 p.2 hp)
          · have hqn := congrArg List.length g1
            rw [List.length_map] at hqn
            rw [List.length_append, hqn]; exact HW.out
          · exact hkw.trans (Keep.of_grown HG.out) (fun b hb h => by have := (HO2.out.lt b h.symm).1; omega)
        case measure => simp [intOf]; omega
      · have ef' : few l[j] = false := by simpa using ef
        rw [ef'] at hfj
        have HF := Lib.hid hfj; clear hfj ef ef'
        go_wp2_with fail
        refine (HF.out _ (Lies_keep hk hS)).mono ?_
        rintro e w3 ⟨rfl, hk3⟩
        go_wp2_with fail
        go_ret
        exact ⟨rfl, hk.trans hk3 (fun _ _ h => h)⟩
    · obtain rfl : j = l.length := by omega
      have hps1 := hps.out
      have hfw1 := hfw.out
      rw [List.take_length] at hps1 hfw1
      have hpn := congrArg List.length hps1
      rw [List.length_map] at hpn
      obtain ⟨A4, c4, hAe, hc1, hc2, hLL⟩ := LiesPL_owns (Ok := fun _ => True) hown.out (fun p hp => LiesP_all (hpl.out p hp)) (fun _ _ => trivial)
      rw [hps1] at hLL
      rw [hpn] at hc1 hAe
      have hcl := countL_few l hfw1
      have h1 := count_joinT l
      have h2 := count_eitherT l
      have e1 : same (joinT l) (joinT l) = true := same_refl _
      have e2 : same (eitherT l) (eitherT l) = true := same_refl _
      have HL1 := Lib.hid (LiesL_keep hk hL)
      have HLL := Lib.hid hLL
      subst hAe
      clear hLL hps1 hpn hps hfw1 hfw hpl hown
      have HE1 := Lib.hid e1
      have HE2 := Lib.hid e2
      clear e1 e2
      go_wp2_with fail
      refine (tjoin_any l (by omega) _ _ _ HLL.out).mono ?_
      rintro e w3 ⟨S1, rfl, hS1, hk3⟩
      obtain ⟨A5, n5, rfl, _⟩ := LiesP_def.1 hS1
      simp only [Nd.row]
      go_wp2_with fail
      refine (ours_any 20000 (by omega) (joinT l) (by omega) _ _ hS1).mono ?_
      rintro e w4 ⟨S2, rfl, hS2, hk4⟩
      obtain ⟨A6, n6, rfl, _⟩ := LiesP_def.1 hS2
      have hk5 := hk3.trans hk4 (fun _ _ h => h)
      simp only [Nd.row]
      go_wp2_with fail
      refine (rjoin_any l (by omega) _ _ _ (LiesL_keep hk5 HL1.out)).mono ?_
      rintro e w5 ⟨S3, rfl, hS3, hk6⟩
      obtain ⟨A7, n7, rfl, _⟩ := LiesP_def.1 hS3
      have hk7 := hk5.trans hk6 (fun _ _ h => h)
      simp only [Nd.row]
      go_wp2_with fail
      refine (rsame_any 20000 (by omega) (joinT l) (joinT l) (by omega) _ _ _ (Lies_keep hk6 (LiesP_all hS2)) hS3).mono ?_
      rintro e w6 ⟨he, hk8⟩
      rw [HE1.out] at he
      subst he
      have hk9 := hk7.trans hk8 (fun _ _ h => h)
      go_wp2_with fail
      refine (teither_any l (by omega) _ _ _ (LiesL_keep hk9 HLL.out)).mono ?_
      rintro e w7 ⟨S4, rfl, hS4, hk10⟩
      obtain ⟨A8, n8, rfl, _⟩ := LiesP_def.1 hS4
      have hk11 := hk9.trans hk10 (fun _ _ h => h)
      simp only [Nd.row]
      go_wp2_with fail
      refine (ours_any 20000 (by omega) (eitherT l) (by omega) _ _ hS4).mono ?_
      rintro e w8 ⟨S5, rfl, hS5, hk12⟩
      obtain ⟨A9, n9, rfl, _⟩ := LiesP_def.1 hS5
      have hk13 := hk11.trans hk12 (fun _ _ h => h)
      simp only [Nd.row]
      go_wp2_with fail
      refine (reither_any l (by omega) _ _ _ (LiesL_keep hk13 HL1.out)).mono ?_
      rintro e w9 ⟨S6, rfl, hS6, hk14⟩
      obtain ⟨A10, n10, rfl, _⟩ := LiesP_def.1 hS6
      have hk15 := hk13.trans hk14 (fun _ _ h => h)
      simp only [Nd.row]
      go_wp2_with fail
      refine (rsame_any 20000 (by omega) (eitherT l) (eitherT l) (by omega) _ _ _ (Lies_keep hk14 (LiesP_all hS5)) hS6).mono ?_
      rintro e w10 ⟨he, hk16⟩
      rw [HE2.out] at he
      subst he
      have hk17 := hk15.trans hk16 (fun _ _ h => h)
      go_wp2_with fail
      go_ret
      exact ⟨rfl, hk.trans hk17 (fun _ _ h => h)⟩

theorem lawjoins_any (l : List Nd) (A : Option Addr) (cap : Nat) (w : World) (hL : LiesL w A 0 l) :
    Calls Try.prog 4 #[.slice A l.length cap] w fun e w' => e = .returned (.bool true) ∧ Keep Nb w w' := by
  by_cases h : l.length ≤ 30
  · exact joins_short l h A cap w hL
  · exact joins_long l (by omega) A cap w

end Go.Proofs.Ytkidjbfapldmbaa
