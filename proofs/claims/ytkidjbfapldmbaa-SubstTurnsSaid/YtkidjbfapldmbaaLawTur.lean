/- SubstTurns. -/
import Derived.Test.YtkidjbfapldmbaaAwk
import Derived.Test.YtkidjbfapldmbaaTr
namespace Go.Proofs.Ytkidjbfapldmbaa
set_option linter.unusedVariables false
set_option linter.unusedSimpArgs false
open Go.RowKit P8

theorem turn_back {A B T : List UInt8} {n : Nat} (hA : DistL A B n) (hB : DistL B A n) (hno : ∀ c ∈ T, (∃ q, q < n ∧ B.getD q 0 = c) → ∃ q, q < n ∧ A.getD q 0 = c) : turnF (pairsL B A n) (turnF (pairsL A B n) T) = T := by
  unfold turnF
  rw [List.map_map]
  conv => rhs; rw [← List.map_id T]
  refine List.map_congr_left fun c hc => ?_
  simp only [Function.comp, id]
  by_cases h : ∃ q, q < n ∧ A.getD q 0 = c
  · obtain ⟨q, hq, rfl⟩ := h
    rw [look_hit hA hq]; simp only [Option.getD_some]; rw [look_hit hB hq]; rfl
  · have h1 : lookL (pairsL A B n) c.toNat = none := look_none.2 fun j hj e => h ⟨j, hj, UInt8.toNat_inj.1 e⟩
    have h2 : lookL (pairsL B A n) c.toNat = none := look_none.2 fun j hj e => h (hno c hc ⟨j, hj, UInt8.toNat_inj.1 e⟩)
    rw [h1]; simp [h2]
theorem turn_again {A B T : ByteArray} (hAB : A.size = B.size) (hA : DistL A.toList B.toList A.size) (hB : ∀ p, p < B.size → ∀ q, q < B.size → p ≠ q → B.toList.getD p 0 ≠ B.toList.getD q 0) (hno : ∀ j, j < T.size → (∃ q, q < B.size ∧ B.toList.getD q 0 = T.toList.getD j 0) → ∃ q, q < A.size ∧ A.toList.getD q 0 = T.toList.getD j 0) : turnW B A ⟨(turnF (pairsL A.toList B.toList A.size) T.toList).toArray⟩ = .tuple #[.string T, .int .i64 0] := by
  have hd : DistL B.toList A.toList B.size := dist_iff.2 fun k hk j hj => hB j (by omega) k hk (by omega)
  unfold turnW
  rw [if_pos ⟨hAB.symm, hd⟩]
  have e1 : (ByteArray.mk (turnF (pairsL A.toList B.toList A.size) T.toList).toArray).toList = turnF (pairsL A.toList B.toList A.size) T.toList := by rw [ByteArray.toList_eq]
  rw [e1, ← hAB, turn_back hA (by rw [hAB]; exact hd) (fun c hc h => ?_)]
  · have e2 : (⟨T.toList.toArray⟩ : ByteArray) = T := by rw [ByteArray.toList_eq]
    rw [e2]
  · obtain ⟨j, hj, rfl⟩ := List.mem_iff_getElem.1 hc
    rw [toList_len] at hj
    have e3 : T.toList.getD j 0 = T.toList[j]'(by rw [toList_len]; exact hj) := by
      rw [List.getD, List.getElem?_eq_getElem (by rw [toList_len]; exact hj)]; rfl
    rw [← e3] at h ⊢
    obtain ⟨q, h1, h2⟩ := h
    exact hno j hj ⟨q, by omega, h2⟩

set_option maxRecDepth 100000 in
set_option maxHeartbeats 2000000 in
theorem tur_big (A B T : ByteArray) (w : World) (h : 600 < A.size ∨ 600 < B.size ∨ 2000 < T.size) :
    Calls Try.prog 19 #[.string A, .string B, .string T] w fun e w' => e = .returned (.bool true) ∧ Keep Nb w w' := by
  by_cases h1 : 600 < A.size
  · have m1 : decide ((600 : Int) < (A.size : Int)) = true := by simp; omega
    clear h h1
    go_enter Try.func19, Try.ntmps19
    go_wp2_with fail
    refine (awake18 _).mono ?_
    rintro e w2 ⟨rfl, hk2⟩
    go_wp2_with fail
    refine (awake18 _).mono ?_
    rintro e w3 ⟨rfl, hk3⟩
    go_wp2_with fail
    go_ret
    exact ⟨rfl, hk2.trans hk3 (fun _ _ h => h)⟩
  have m1 : decide ((600 : Int) < (A.size : Int)) = false := by simp; omega
  by_cases h2 : 600 < B.size
  · have m2 : decide ((600 : Int) < (B.size : Int)) = true := by simp; omega
    clear h h1 h2
    go_enter Try.func19, Try.ntmps19
    go_wp2_with fail
    refine (awake18 _).mono ?_
    rintro e w2 ⟨rfl, hk2⟩
    go_wp2_with fail
    refine (awake18 _).mono ?_
    rintro e w3 ⟨rfl, hk3⟩
    go_wp2_with fail
    go_ret
    exact ⟨rfl, hk2.trans hk3 (fun _ _ h => h)⟩
  have m2 : decide ((600 : Int) < (B.size : Int)) = false := by simp; omega
  · have m3 : decide ((2000 : Int) < (T.size : Int)) = true := by simp; omega
    clear h h1 h2
    go_enter Try.func19, Try.ntmps19
    go_wp2_with fail
    refine (awake18 _).mono ?_
    rintro e w2 ⟨rfl, hk2⟩
    go_wp2_with fail
    refine (awake18 _).mono ?_
    rintro e w3 ⟨rfl, hk3⟩
    go_wp2_with fail
    go_ret
    exact ⟨rfl, hk2.trans hk3 (fun _ _ h => h)⟩

set_option maxRecDepth 100000 in
set_option maxHeartbeats 8000000 in
theorem tur_no (A B T : ByteArray) (w : World) (hA : A.size ≤ 600) (hB : B.size ≤ 600) (hT : T.size ≤ 2000) (hd : ¬ (A.size = B.size ∧ DistL A.toList B.toList A.size)) :
    Calls Try.prog 19 #[.string A, .string B, .string T] w fun e w' => e = .returned (.bool true) ∧ Keep Nb w w' := by
  have m1 : decide ((600 : Int) < (A.size : Int)) = false := by simp; omega
  have m2 : decide ((600 : Int) < (B.size : Int)) = false := by simp; omega
  have m3 : decide ((2000 : Int) < (T.size : Int)) = false := by simp; omega
  have hW : turnW A B T = .tuple #[.string ⟨#[]⟩, .int .i64 1] := by unfold turnW; rw [if_neg hd]
  have hTU := fun wx => turn_any A B T (by omega) (by omega) wx
  have hRT := fun wx => rturn_any A B T (by omega) (by omega) wx
  rw [hW] at hTU hRT
  have HTU := Lib.hid hTU
  have HRT := Lib.hid hRT
  clear hTU hRT hW hd hA hB hT
  go_enter Try.func19, Try.ntmps19
  go_wp2_with fail
  refine (awake18 _).mono ?_
  rintro e w2 ⟨rfl, hk2⟩
  go_wp2_with fail
  refine (HTU.out _).mono ?_
  rintro e w3 ⟨rfl, hk3⟩
  go_wp2_with fail
  refine (HRT.out _).mono ?_
  rintro e w4 ⟨rfl, hk4⟩
  go_wp2_with fail
  go_ret
  exact ⟨rfl, (hk2.trans hk3 (fun _ _ h => h)).trans hk4 (fun _ _ h => h)⟩

set_option maxRecDepth 100000 in
set_option maxHeartbeats 8000000 in
theorem tur_yes (A B T : ByteArray) (w : World) (hA : A.size ≤ 600) (hB : B.size ≤ 600) (hT : T.size ≤ 2000) (hAB : A.size = B.size) (hd : DistL A.toList B.toList A.size) :
    Calls Try.prog 19 #[.string A, .string B, .string T] w fun e w' => e = .returned (.bool true) ∧ Keep Nb w w' := by
  have m1 : decide ((600 : Int) < (A.size : Int)) = false := by simp; omega
  have m2 : decide ((600 : Int) < (B.size : Int)) = false := by simp; omega
  have m3 : decide ((2000 : Int) < (T.size : Int)) = false := by simp; omega
  have hag := turn_again (T := T) hAB hd
  obtain ⟨X, hX, hXs⟩ : ∃ X, X = (⟨(turnF (pairsL A.toList B.toList A.size) T.toList).toArray⟩ : ByteArray) ∧ X.size = T.size := ⟨_, rfl, by
    show (turnF (pairsL A.toList B.toList A.size) T.toList).toArray.size = T.size
    simp only [List.size_toArray]
    unfold turnF; rw [List.length_map, toList_len]⟩
  rw [← hX] at hag
  have hW : turnW A B T = .tuple #[.string X, .int .i64 0] := by unfold turnW; rw [if_pos ⟨hAB, hd⟩, hX]
  have hTU := fun wx => turn_any A B T (by omega) (by omega) wx
  have hRT := fun wx => rturn_any A B T (by omega) (by omega) wx
  rw [hW] at hTU hRT
  have HTU := Lib.hid hTU
  have HRT := Lib.hid hRT
  have HTV := Lib.hid (fun wx => turn_any B A X (by omega) (by omega) wx)
  have HINB := Lib.hid (fun c wx => in18_any B (by omega) c wx)
  have HINA := Lib.hid (fun c wx => in18_any A (by omega) c wx)
  have HAG := Lib.hid hag
  have HBS := Lib.hid hB
  have HTS := Lib.hid hT
  clear hTU hRT hW hd hA hX hAB hag hXs hB hT
  go_enter Try.func19, Try.ntmps19
  go_wp2_with fail
  refine (awake18 _).mono ?_
  rintro e w2 ⟨rfl, hk2⟩
  go_wp2_with fail
  refine (HTU.out _).mono ?_
  rintro e w3 ⟨rfl, hk3⟩
  go_wp2_with fail
  refine (HRT.out _).mono ?_
  rintro e w4 ⟨rfl, hk4⟩
  have HK4 := Lib.hid ((hk2.trans hk3 (fun _ _ h => h)).trans hk4 (fun _ _ h => h))
  clear hk2 hk3 hk4 HTU HRT m1 m2 m3
  go_wp2_with fail
  go_loopw [62] (fun i wr => ∃ k : Nat, k ≤ B.size ∧ i = .int .i64 (k : Int) ∧ Hid (∀ p, p < k → ∀ q, q < B.size → p ≠ q → B.toList.getD p 0 ≠ B.toList.getD q 0) ∧ Hid (Keep Nb w wr)) (fun i _ => B.size - (intOf i).toNat)
  case atStart => exact ⟨0, Nat.zero_le _, rfl, Lib.hid (fun p hp => by omega), HK4⟩
  case round =>
    clear HK4
    obtain ⟨k, hk, rfl, HP, HK⟩ := hrel
    have hB6 : B.size ≤ 600 := HBS.out
    rcases Nat.lt_or_ge k B.size with hlt | hge
    · have HLT := Lib.hid hlt
      go_wp2_with fail
      clear hlt
      go_loopw [67] (fun i wz => ∃ j : Nat, j ≤ B.size ∧ i = .int .i64 (j : Int) ∧ Hid (∀ q, q < j → k ≠ q → B.toList.getD k 0 ≠ B.toList.getD q 0) ∧ Hid (Keep Nb w wz)) (fun i _ => B.size - (intOf i).toNat)
      case atStart => exact ⟨0, Nat.zero_le _, rfl, Lib.hid (fun q hq => by omega), HK⟩
      case round =>
        clear HK
        obtain ⟨j, hj, rfl, HQ, HK⟩ := hrel
        rcases Nat.lt_or_ge j B.size with hjl | hjg
        · obtain ⟨d, b0, e0, f0⟩ := byteT HLT.out
          obtain ⟨e, b1, e1, f1⟩ := byteT hjl
          have i0 : (0 : Int) ≤ (k : Int) := by omega
          have i1 : (k : Int) < (B.size : Int) := by have := HLT.out; omega
          have j0 : (0 : Int) ≤ (j : Int) := by omega
          have j1 : (j : Int) < (B.size : Int) := by omega
          by_cases hkj : k = j
          · have n1 : ((k : Int) == (j : Int)) = true := by simp [hkj]
            have n2 : (k == j) = true := by simp [hkj]
            have n3 : ((k : Int) != (j : Int)) = false := by simp [hkj]
            have n4 : (k != j) = false := by simp [hkj]
            have HQ2 : Hid (∀ q, q < j + 1 → k ≠ q → B.toList.getD k 0 ≠ B.toList.getD q 0) := Lib.hid (fun q hq hn => by
              rcases Nat.lt_or_ge q j with h | h
              · exact HQ.out q h hn
              · omega)
            clear f0 f1 hkj e0 e1
            go_wp2_with fail
            (refine wp_region_f [11] (InX Nb _) (by kernel_rfl) (InX.mk (Keep.drew (Keep.refl _ _))) (fun hI => ?_))
            have xx : ∀ k, ¬ Nb k := fun _ h => h
            have hD : Keep Nb wr wr.drew := (Keep.refl _ _).drew
            generalize wr.drew = x0 at hI hD ⊢
            (refine wpI_from 0 ?_; (iterate 11 ((first | (refine wpI_take3' (v := ?_) rfl (by kernel_rfl) (fun _ _ _ h => h) hI rfl ?_ ?_; rotate_left; (focus (rintro _ ⟨E, rfl⟩; go_simp; (try with_reducible rfl)))) | refine wpI_skip3' rfl (by kernel_rfl) (fun _ _ _ h => h) hI rfl ?_); simp only [Act.put, tk, Nat.reduceAdd])); refine wpI_till ?_)
            (refine wpF_one 11 rfl (by kernel_rfl) rfl (fun K hK => ?_))
            go_simp
            (refine hK _ _ (fun h => absurd (by simp) h) (fun _ => ?_); clear hK K; try simp only [Act.put, tk])
            (refine wpF_done (by kernel_rfl) ?_ _)
            have HK2 := Lib.hid (HK.out.trans hD (fun _ _ h => h))
            clear hD
            go_wp2_with fail
            go_roundw
            case rel => exact ⟨j + 1, by omega, by go_num, HQ2, HK2⟩
            case measure => simp [intOf]; omega
          · have n1 : ((k : Int) == (j : Int)) = false := beq_eq_false_iff_ne.2 (by omega)
            have n2 : (k == j) = false := beq_eq_false_iff_ne.2 hkj
            have n3 : ((k : Int) != (j : Int)) = true := by simp; omega
            have n4 : (k != j) = true := by simp; omega
            by_cases hde : d = e
            · have p1 : ((d.toNat : Int) == (e.toNat : Int)) = true := by simp [hde]
              have p2 : (d.toNat == e.toNat) = true := by simp [hde]
              clear f0 f1 hde hkj
              go_wp2_with fail
              (refine wp_region_f [11] (InX Nb _) (by kernel_rfl) (InX.mk (Keep.drew (Keep.refl _ _))) (fun hI => ?_))
              have xx : ∀ k, ¬ Nb k := fun _ h => h
              have hD : Keep Nb wr wr.drew := (Keep.refl _ _).drew
              generalize wr.drew = x0 at hI hD ⊢
              (refine wpI_from 0 ?_; (iterate 11 ((first | (refine wpI_take3' (v := ?_) rfl (by kernel_rfl) (fun _ _ _ h => h) hI rfl ?_ ?_; rotate_left; (focus (rintro _ ⟨E, rfl⟩; go_simp; (try with_reducible rfl)))) | refine wpI_skip3' rfl (by kernel_rfl) (fun _ _ _ h => h) hI rfl ?_); simp only [Act.put, tk, Nat.reduceAdd])); refine wpI_till ?_)
              (refine wpF_one 11 rfl (by kernel_rfl) rfl (fun K hK => ?_))
              go_simp
              (refine hK _ _ (fun h => absurd (by simp) h) (fun _ => ?_); clear hK K; try simp only [Act.put, tk])
              (refine wpF_done (by kernel_rfl) ?_ _)
              have HK2 := Lib.hid (HK.out.trans hD (fun _ _ h => h))
              clear hD
              go_wp2_with fail
              go_ret
              exact ⟨rfl, HK2.out⟩
            · have hne : d.toNat ≠ e.toNat := fun x => hde (UInt8.toNat_inj.1 x)
              have p1 : ((d.toNat : Int) == (e.toNat : Int)) = false := beq_eq_false_iff_ne.2 (by omega)
              have p2 : (d.toNat == e.toNat) = false := beq_eq_false_iff_ne.2 hne
              have HQ2 : Hid (∀ q, q < j + 1 → k ≠ q → B.toList.getD k 0 ≠ B.toList.getD q 0) := Lib.hid (fun q hq hn => by
                rcases Nat.lt_or_ge q j with h | h
                · exact HQ.out q h hn
                · obtain rfl : q = j := by omega
                  rw [f0, f1]; exact hde)
              clear f0 f1 hde hne hkj
              go_wp2_with fail
              (refine wp_region_f [11] (InX Nb _) (by kernel_rfl) (InX.mk (Keep.drew (Keep.refl _ _))) (fun hI => ?_))
              have xx : ∀ k, ¬ Nb k := fun _ h => h
              have hD : Keep Nb wr wr.drew := (Keep.refl _ _).drew
              generalize wr.drew = x0 at hI hD ⊢
              (refine wpI_from 0 ?_; (iterate 11 ((first | (refine wpI_take3' (v := ?_) rfl (by kernel_rfl) (fun _ _ _ h => h) hI rfl ?_ ?_; rotate_left; (focus (rintro _ ⟨E, rfl⟩; go_simp; (try with_reducible rfl)))) | refine wpI_skip3' rfl (by kernel_rfl) (fun _ _ _ h => h) hI rfl ?_); simp only [Act.put, tk, Nat.reduceAdd])); refine wpI_till ?_)
              (refine wpF_one 11 rfl (by kernel_rfl) rfl (fun K hK => ?_))
              go_simp
              (refine hK _ _ (fun h => absurd (by simp) h) (fun _ => ?_); clear hK K; try simp only [Act.put, tk])
              (refine wpF_done (by kernel_rfl) ?_ _)
              have HK2 := Lib.hid (HK.out.trans hD (fun _ _ h => h))
              clear hD
              go_wp2_with fail
              go_roundw
              case rel => exact ⟨j + 1, by omega, by go_num, HQ2, HK2⟩
              case measure => simp [intOf]; omega
        · obtain rfl : j = B.size := by omega
          have HP2 : Hid (∀ p, p < k + 1 → ∀ q, q < B.size → p ≠ q → B.toList.getD p 0 ≠ B.toList.getD q 0) := Lib.hid (fun p hp q hq hn => by
            rcases Nat.lt_or_ge p k with h | h
            · exact HP.out p h q hq hn
            · obtain rfl : p = k := by omega
              exact HQ.out q hq hn)
          have hlt := HLT.out
          clear HQ
          go_wp2_with fail
          go_roundw
          case rel => exact ⟨k + 1, by omega, by go_num, HP2, HK⟩
          case measure => simp [intOf]; omega
    · obtain rfl : k = B.size := by omega
      go_wp2_with fail
      go_loopw [86] (fun i wz => ∃ j : Nat, j ≤ T.size ∧ i = .int .i64 (j : Int) ∧ Hid (∀ p, p < j → (∃ q, q < B.size ∧ B.toList.getD q 0 = T.toList.getD p 0) → ∃ q, q < A.size ∧ A.toList.getD q 0 = T.toList.getD p 0) ∧ Hid (Keep Nb w wz)) (fun i _ => T.size - (intOf i).toNat)
      case atStart => exact ⟨0, Nat.zero_le _, rfl, Lib.hid (fun p hp => by omega), HK⟩
      case round =>
        clear HK
        obtain ⟨j, hj, rfl, HQ, HK⟩ := hrel
        have hT6 : T.size ≤ 2000 := HTS.out
        rcases Nat.lt_or_ge j T.size with hjl | hjg
        · obtain ⟨d, b0, e0, f0⟩ := byteT hjl
          have j0 : (0 : Int) ≤ (j : Int) := by omega
          have j1 : (j : Int) < (T.size : Int) := by omega
          by_cases hb : ∃ q, q < B.size ∧ B.toList.getD q 0 = d
          · have hvb := HINB.out d
            rw [decide_eq_true hb] at hvb
            have HVB := Lib.hid hvb
            clear hvb
            by_cases ha : ∃ q, q < A.size ∧ A.toList.getD q 0 = d
            · have hva := HINA.out d
              rw [decide_eq_true ha] at hva
              have HVA := Lib.hid hva
              have HQ2 : Hid (∀ p, p < j + 1 → (∃ q, q < B.size ∧ B.toList.getD q 0 = T.toList.getD p 0) → ∃ q, q < A.size ∧ A.toList.getD q 0 = T.toList.getD p 0) := Lib.hid (fun p hp => by
                rcases Nat.lt_or_ge p j with h | h
                · exact HQ.out p h
                · obtain rfl : p = j := by omega
                  rw [f0]; exact fun _ => ha)
              clear hva ha hb f0
              go_wp2_with fail
              refine (HVB.out _).mono ?_
              rintro e w6 ⟨rfl, rfl⟩
              go_wp2_with fail
              refine (HVA.out _).mono ?_
              rintro e w7 ⟨rfl, rfl⟩
              go_wp2_with fail
              go_roundw
              case rel => exact ⟨j + 1, by omega, by go_num, HQ2, HK⟩
              case measure => simp [intOf]; omega
            · have hva := HINA.out d
              rw [decide_eq_false ha] at hva
              have HVA := Lib.hid hva
              clear hva ha hb f0
              go_wp2_with fail
              refine (HVB.out _).mono ?_
              rintro e w6 ⟨rfl, rfl⟩
              go_wp2_with fail
              refine (HVA.out _).mono ?_
              rintro e w7 ⟨rfl, rfl⟩
              go_wp2_with fail
              go_ret
              exact ⟨rfl, HK.out⟩
          · have hvb := HINB.out d
            rw [decide_eq_false hb] at hvb
            have HVB := Lib.hid hvb
            have HQ2 : Hid (∀ p, p < j + 1 → (∃ q, q < B.size ∧ B.toList.getD q 0 = T.toList.getD p 0) → ∃ q, q < A.size ∧ A.toList.getD q 0 = T.toList.getD p 0) := Lib.hid (fun p hp => by
              rcases Nat.lt_or_ge p j with h | h
              · exact HQ.out p h
              · obtain rfl : p = j := by omega
                rw [f0]; exact fun h => absurd h hb)
            clear hvb hb f0
            go_wp2_with fail
            refine (HVB.out _).mono ?_
            rintro e w6 ⟨rfl, rfl⟩
            go_wp2_with fail
            go_roundw
            case rel => exact ⟨j + 1, by omega, by go_num, HQ2, HK⟩
            case measure => simp [intOf]; omega
        · obtain rfl : j = T.size := by omega
          have hag := HAG.out HP.out HQ.out
          have hTV := HTV.out
          rw [hag] at hTV
          have HTV2 := Lib.hid hTV
          clear hTV hag HP HQ
          go_wp2_with fail
          refine (HTV2.out _).mono ?_
          rintro e w6 ⟨rfl, hk6⟩
          go_wp2_with fail
          go_ret
          exact ⟨by simp, HK.out.trans hk6 (fun _ _ h => h)⟩

theorem tur_any (A B T : ByteArray) (w : World) :
    Calls Try.prog 19 #[.string A, .string B, .string T] w fun e w' => e = .returned (.bool true) ∧ Keep Nb w w' := by
  by_cases h : 600 < A.size ∨ 600 < B.size ∨ 2000 < T.size
  · exact tur_big A B T w h
  · by_cases hd : A.size = B.size ∧ DistL A.toList B.toList A.size
    · exact tur_yes A B T w (by omega) (by omega) (by omega) hd.1 hd.2
    · exact tur_no A B T w (by omega) (by omega) (by omega) hd

end Go.Proofs.Ytkidjbfapldmbaa
