/- Turn of the reference; in. -/
import Derived.Test.YtkidjbfapldmbaaTu
namespace Go.Proofs.Ytkidjbfapldmbaa
set_option linter.unusedVariables false
set_option linter.unusedSimpArgs false
open Go.RowKit P8

theorem look_none {A B : List UInt8} {c : Nat} : ∀ {k : Nat}, lookL (pairsL A B k) c = none ↔ ∀ j, j < k → (A.getD j 0).toNat ≠ c
  | 0 => by simp [pairsL, lookL]
  | k + 1 => by
    rw [pairsL, lookL]
    by_cases h : (A.getD k 0).toNat = c
    · rw [if_pos h]
      exact ⟨(fun x => by cases x), fun x => absurd h (x k (Nat.lt_succ_self _))⟩
    · rw [if_neg h, look_none]
      exact ⟨fun x j hj => by
        rcases Nat.lt_or_ge j k with h1 | h1
        · exact x j h1
        · obtain rfl : j = k := by omega
          exact h, fun x j hj => x j (Nat.lt_succ_of_lt hj)⟩
theorem dist_iff {A B : List UInt8} {n : Nat} : DistL A B n ↔ ∀ k, k < n → ∀ j, j < k → A.getD j 0 ≠ A.getD k 0 := by
  unfold DistL
  constructor
  · intro h k hk j hj e
    exact look_none.1 (h k hk) j hj (by rw [e])
  · intro h k hk
    exact look_none.2 fun j hj e => h k hk j hj (UInt8.toNat_inj.1 e)
theorem look_hit {A B : List UInt8} {n : Nat} (hd : DistL A B n) {j : Nat} (hj : j < n) : lookL (pairsL A B n) (A.getD j 0).toNat = some (B.getD j 0) := by
  induction n with
  | zero => omega
  | succ n ih =>
    rw [pairsL, lookL]
    by_cases e : j = n
    · subst e; rw [if_pos rfl]
    · rw [if_neg (fun x => dist_iff.1 hd n (Nat.lt_succ_self _) j (by omega) (UInt8.toNat_inj.1 x).symm)]
      exact ih (fun k hk => hd k (Nat.lt_succ_of_lt hk)) (by omega)

/-- A text's bytes behind a slice of the call's own. -/
def TxtG (b n : Nat) (g : Nat → UInt8) (wr : World) : Prop :=
  ∃ C : Array Value, wr.heap[b]? = some (.cells C 5 (C.size, C.size + 1)) ∧ n ≤ C.size ∧ ∀ j, j < n → C[j]? = some (.int .u8 ((g j).toNat : Int))
theorem TxtG.lt {b n : Nat} {g : Nat → UInt8} {w : World} (h : TxtG b n g w) : b < w.heap.size := by
  obtain ⟨C, h1, _⟩ := h
  exact (Array.getElem?_eq_some_iff.1 h1).1
theorem TxtG.cell {b n j : Nat} {g : Nat → UInt8} {w : World} (h : TxtG b n g w) (hj : j < n) : w.cell? ⟨b, j, none⟩ = some (.int .u8 ((g j).toNat : Int)) := by
  obtain ⟨C, h1, h2, h3⟩ := h
  exact cell_fr h1 (h3 j hj)
theorem TxtG.frozen {b n j : Nat} {g : Nat → UInt8} {w : World} (h : TxtG b n g w) (hj : j < n) : w.frozen? ⟨b, j, none⟩ = false := by
  obtain ⟨C, h1, h2, h3⟩ := h
  exact frozen_fr h1 (by omega)
theorem TxtG.put {b n k : Nat} {g : Nat → UInt8} {w : World} (h : TxtG b n g w) (x : UInt8) : TxtG b n (fun j => if j = k then x else g j) (w.setCell ⟨b, k, none⟩ (.int .u8 (x.toNat : Int))) := by
  obtain ⟨C, h1, h2, h3⟩ := h
  refine ⟨C.setIfInBounds k (.int .u8 (x.toNat : Int)), ?_, by simpa using h2, fun j hj => ?_⟩
  · unfold World.setCell
    simp only [Array.getElem?_modify, if_true]
    rw [h1]; simp
  · rw [Array.getElem?_setIfInBounds]
    by_cases e : k = j
    · subst e; rw [if_pos rfl, if_pos (by omega)]; simp
    · rw [if_neg e, h3 j hj]; simp [Ne.symm e]
theorem TxtG.keep {X : Nat → Prop} {b n : Nat} {g : Nat → UInt8} {w w' : World} (h : TxtG b n g w) (hk : Keep X w w') (hx : ¬ X b) : TxtG b n g w' := by
  have hl := h.lt
  obtain ⟨C, h1, h2⟩ := h
  exact ⟨C, by rw [hk.block b hl hx]; exact h1, h2⟩
theorem TxtG.cong {b n : Nat} {g g' : Nat → UInt8} {w : World} (h : TxtG b n g w) (e : ∀ j, j < n → g j = g' j) : TxtG b n g' w := by
  obtain ⟨C, h1, h2, h3⟩ := h
  exact ⟨C, h1, h2, fun j hj => by rw [h3 j hj, e j hj]⟩

set_option maxRecDepth 100000 in
set_option maxHeartbeats 2000000 in
theorem in18_any (s : ByteArray) (hs : s.size ≤ 1000000) (c : UInt8) (w : World) :
    Calls Try.prog 57 #[.string s, .int .u8 (c.toNat : Int)] w fun e w' => e = .returned (.bool (decide (∃ j, j < s.size ∧ s.toList.getD j 0 = c))) ∧ w' = w := by
  have HS := Lib.hid hs
  go_enter Try.func57, Try.ntmps57
  go_wp2_with fail
  go_loopw [8] (fun i wr => ∃ k : Nat, k ≤ s.size ∧ i = .int .i64 (k : Int) ∧ Hid (∀ j, j < k → s.toList.getD j 0 ≠ c) ∧ wr = w) (fun i _ => s.size - (intOf i).toNat)
  case atStart => exact ⟨0, Nat.zero_le _, rfl, Lib.hid (fun j hj => by omega), rfl⟩
  case round =>
    obtain ⟨k, hk, rfl, HN, rfl⟩ := hrel
    rcases Nat.lt_or_ge k s.size with hlt | hge
    · obtain ⟨d, b0, e0, f0⟩ := byteT hlt
      have j0 : (0 : Int) ≤ (k : Int) := by omega
      have j1 : (k : Int) < (s.size : Int) := by omega
      by_cases hc : d = c
      · have m1 : ((d.toNat : Int) == (c.toNat : Int)) = true := by simp [hc]
        have m2 : (d.toNat == c.toNat) = true := by simp [hc]
        have HE : Hid (decide (∃ j, j < s.size ∧ s.toList.getD j 0 = c) = true) := Lib.hid (decide_eq_true ⟨k, hlt, by rw [f0, hc]⟩)
        clear f0 hc
        go_wp2_with fail
        go_ret
        exact ⟨by rw [HE.out]; rfl, rfl⟩
      · have hn : d.toNat ≠ c.toNat := fun e => hc (UInt8.toNat_inj.1 e)
        have m1 : ((d.toNat : Int) == (c.toNat : Int)) = false := beq_eq_false_iff_ne.2 (by omega)
        have m2 : (d.toNat == c.toNat) = false := beq_eq_false_iff_ne.2 hn
        have HN2 : Hid (∀ j, j < k + 1 → s.toList.getD j 0 ≠ c) := Lib.hid (fun j hj => by
          rcases Nat.lt_or_ge j k with h | h
          · exact HN.out j h
          · obtain rfl : j = k := by omega
            rw [f0]; exact hc)
        clear f0 hc hn
        go_wp2_with fail
        go_roundw
        case rel => exact ⟨k + 1, by omega, by go_num, HN2, by first | rfl | trivial⟩
        case measure => simp [intOf]; omega
    · obtain rfl : k = s.size := by omega
      have HE : Hid (decide (∃ j, j < s.size ∧ s.toList.getD j 0 = c) = false) := Lib.hid (decide_eq_false (fun ⟨j, h1, h2⟩ => HN.out j h1 h2))
      go_wp2_with fail
      go_ret
      exact ⟨by rw [HE.out]; rfl, rfl⟩

set_option maxRecDepth 100000 in
set_option maxHeartbeats 8000000 in
theorem rturn_any (A B T : ByteArray) (hA : A.size ≤ 1000000) (hT : T.size ≤ 1000000) (w : World) :
    Calls Try.prog 56 #[.string A, .string B, .string T] w fun e w' => e = .returned (turnW A B T) ∧ Keep Nb w w' := by
  have HA6 := Lib.hid hA
  have HT6 := Lib.hid hT
  clear hA hT
  go_enter Try.func56, Try.ntmps56
  go_wp2_with fail
  go_loopw [15] (fun i wr => ∃ k : Nat, k ≤ A.size ∧ i = .int .i64 (k : Int) ∧ Hid (DistL A.toList B.toList k) ∧ Hid (Keep Nb w wr)) (fun i _ => A.size - (intOf i).toNat)
  case atStart => exact ⟨0, Nat.zero_le _, rfl, Lib.hid (fun k hk => by omega), Lib.hid (Keep.refl _ _)⟩
  case round =>
    obtain ⟨k, hk, rfl, HD, HK⟩ := hrel
    have hA6 : A.size ≤ 1000000 := HA6.out
    rcases Nat.lt_or_ge k A.size with hlt | hge
    · have HLT := Lib.hid hlt
      have hk6 : k ≤ 9223372036854775806 := by omega
      go_wp2_with fail
      clear hlt
      go_loopw [19] (fun i wz => ∃ j : Nat, j ≤ k ∧ i = .int .i64 (j : Int) ∧ Hid (∀ q, q < j → A.toList.getD q 0 ≠ A.toList.getD k 0) ∧ Hid (Keep Nb w wz)) (fun i _ => k - (intOf i).toNat)
      case atStart => exact ⟨0, Nat.zero_le _, rfl, Lib.hid (fun q hq => by omega), HK⟩
      case round =>
        clear HK
        obtain ⟨j, hj, rfl, HQ, HK⟩ := hrel
        rcases Nat.lt_or_ge j k with hjl | hjg
        · obtain ⟨d, b0, e0, f0⟩ := byteT HLT.out
          obtain ⟨e, b1, e1, f1⟩ := byteT (s := A) (a := j) (by have := HLT.out; omega)
          have i0 : (0 : Int) ≤ (k : Int) := by omega
          have i1 : (k : Int) < (A.size : Int) := by have := HLT.out; omega
          have j0 : (0 : Int) ≤ (j : Int) := by omega
          have j1 : (j : Int) < (A.size : Int) := by omega
          by_cases hde : d = e
          · have m1 : ((d.toNat : Int) == (e.toNat : Int)) = true := by simp [hde]
            have m2 : (d.toNat == e.toNat) = true := by simp [hde]
            have HE : Hid (turnW A B T = .tuple #[.string ⟨#[]⟩, .int .i64 1]) := Lib.hid (by
              unfold turnW
              rw [if_neg (fun x => dist_iff.1 x.2 k HLT.out j hjl (by rw [f0, f1, hde]))])
            clear f0 f1 hde
            go_wp2_with fail
            (refine wp_region_f [6] (InX Nb _) (by kernel_rfl) (InX.mk (Keep.drew (Keep.refl _ _))) (fun hI => ?_))
            have xx : ∀ k, ¬ Nb k := fun _ h => h
            have hD : Keep Nb wr wr.drew := (Keep.refl _ _).drew
            generalize wr.drew = x0 at hI hD ⊢
            (refine wpI_from 0 ?_; (iterate 6 ((first | (refine wpI_take3' (v := ?_) rfl (by kernel_rfl) (fun _ _ _ h => h) hI rfl ?_ ?_; rotate_left; (focus (rintro _ ⟨E, rfl⟩; go_simp; (try with_reducible rfl)))) | refine wpI_skip3' rfl (by kernel_rfl) (fun _ _ _ h => h) hI rfl ?_); simp only [Act.put, tk, Nat.reduceAdd])); refine wpI_till ?_)
            (refine wpF_one 6 rfl (by kernel_rfl) rfl (fun K hK => ?_))
            go_simp
            (refine hK _ _ (fun h => absurd (by simp) h) (fun _ => ?_); clear hK K; try simp only [Act.put, tk])
            (refine wpF_done (by kernel_rfl) ?_ _)
            go_wp2_with fail
            go_ret2
            exact ⟨by rw [HE.out]; rfl, HK.out.trans hD (fun _ _ h => h)⟩
          · have hne : d.toNat ≠ e.toNat := fun x => hde (UInt8.toNat_inj.1 x)
            have m1 : ((d.toNat : Int) == (e.toNat : Int)) = false := beq_eq_false_iff_ne.2 (by omega)
            have m2 : (d.toNat == e.toNat) = false := beq_eq_false_iff_ne.2 hne
            have HQ2 : Hid (∀ q, q < j + 1 → A.toList.getD q 0 ≠ A.toList.getD k 0) := Lib.hid (fun q hq => by
              rcases Nat.lt_or_ge q j with h | h
              · exact HQ.out q h
              · obtain rfl : q = j := by omega
                rw [f0, f1]; exact fun x => hde x.symm)
            clear f0 f1 hde hne
            go_wp2_with fail
            (refine wp_region_f [6] (InX Nb _) (by kernel_rfl) (InX.mk (Keep.drew (Keep.refl _ _))) (fun hI => ?_))
            have xx : ∀ k, ¬ Nb k := fun _ h => h
            have hD : Keep Nb wr wr.drew := (Keep.refl _ _).drew
            generalize wr.drew = x0 at hI hD ⊢
            (refine wpI_from 0 ?_; (iterate 6 ((first | (refine wpI_take3' (v := ?_) rfl (by kernel_rfl) (fun _ _ _ h => h) hI rfl ?_ ?_; rotate_left; (focus (rintro _ ⟨E, rfl⟩; go_simp; (try with_reducible rfl)))) | refine wpI_skip3' rfl (by kernel_rfl) (fun _ _ _ h => h) hI rfl ?_); simp only [Act.put, tk, Nat.reduceAdd])); refine wpI_till ?_)
            (refine wpF_one 6 rfl (by kernel_rfl) rfl (fun K hK => ?_))
            go_simp
            (refine hK _ _ (fun h => absurd (by simp) h) (fun _ => ?_); clear hK K; try simp only [Act.put, tk])
            (refine wpF_done (by kernel_rfl) ?_ _)
            have HK2 := Lib.hid (HK.out.trans hD (fun _ _ h => h))
            clear hD
            go_wp2_with fail
            go_roundw
            case rel => exact ⟨j + 1, by omega, by go_num, HQ2, HK2⟩
            case measure => simp [intOf]; omega
        · obtain rfl : j = k := by omega
          have HD2 : Hid (DistL A.toList B.toList (j + 1)) := Lib.hid (fun q hq => by
            rcases Nat.lt_or_ge q j with h | h
            · exact HD.out q h
            · obtain rfl : q = j := by omega
              exact look_none.2 fun z hz e => HQ.out z hz (UInt8.toNat_inj.1 e))
          have hlt := HLT.out
          clear HQ
          go_wp2_with fail
          go_roundw
          case rel => exact ⟨j + 1, by omega, by go_num, HD2, HK⟩
          case measure => simp [intOf]; omega
    · obtain rfl : k = A.size := by omega
      by_cases hAB : A.size = B.size
      rotate_left
      · have m1 : ((A.size : Int) == (B.size : Int)) = false := beq_eq_false_iff_ne.2 (by omega)
        have m2 : (A.size == B.size) = false := beq_eq_false_iff_ne.2 hAB
        have HE : Hid (turnW A B T = .tuple #[.string ⟨#[]⟩, .int .i64 1]) := Lib.hid (by unfold turnW; rw [if_neg (fun x => hAB x.1)])
        clear hAB
        go_wp2_with fail
        go_ret2
        exact ⟨by rw [HE.out]; rfl, HK.out⟩
      · have m1 : ((A.size : Int) == (B.size : Int)) = true := by simp [hAB]
        have m2 : (A.size == B.size) = true := by simp [hAB]
        have m3 : ((A.size : Int) != (B.size : Int)) = false := by simp [hAB]
        have m4 : (A.size != B.size) = false := by simp [hAB]
        have HAB := Lib.hid hAB
        have hT6 : T.size ≤ 1000000 := HT6.out
        have hcv := fun wx => run_bytes_of_string (P := Try.prog) wx 9 128 5 T Try.underlying9 Try.underlying128 Try.underlying5
        clear hAB
        go_upto_region 14 with fail
        clear hcv m1 m2 m3 m4
        have HK5 : Hid (Keep Nb w (wr.alloc (.cells (bytesRow T (grownCap wr T.size 0 5)) 5 ((bytesRow T (grownCap wr T.size 0 5)).size, (bytesRow T (grownCap wr T.size 0 5)).size + 1))).drew) := Lib.hid (Keep.alloc HK.out _).drew
        have HTX : Hid (TxtG wr.heap.size T.size (fun j => T.toList.getD j 0) (wr.alloc (.cells (bytesRow T (grownCap wr T.size 0 5)) 5 ((bytesRow T (grownCap wr T.size 0 5)).size, (bytesRow T (grownCap wr T.size 0 5)).size + 1))).drew) := Lib.hid (by
          refine ⟨_, heap_alloc_new wr _, by unfold bytesRow; simp, fun j hj => ?_⟩
          show (bytesRow _ _)[j]? = some (.int .u8 ((T.toList.getD j 0).toNat : Int))
          rw [bytesRow_at T _ j (by simpa using hj), ByteArray.toList_eq, List.getD, List.getElem?_eq_getElem (by simpa using hj)]
          rfl)
        have HWL : Hid (w.heap.size ≤ wr.heap.size) := Lib.hid HK.out.size
        generalize (wr.alloc (.cells (bytesRow T (grownCap wr T.size 0 5)) 5 ((bytesRow T (grownCap wr T.size 0 5)).size, (bytesRow T (grownCap wr T.size 0 5)).size + 1))).drew = w5 at HK5 HTX ⊢
        generalize grownCap wr T.size 0 5 = cap
        generalize wr.heap.size = b3 at HTX HWL ⊢
        clear HK
        go_wp2_with fail
        go_loopw [40] (fun i wz => ∃ (k : Nat) (g : Nat → UInt8), k ≤ T.size ∧ i = .int .i64 (k : Int) ∧ Hid (Keep Nb w wz) ∧ Hid (TxtG b3 T.size g wz) ∧ Hid (∀ j, j < T.size → g j = if j < k then (lookL (pairsL A.toList B.toList A.size) (T.toList.getD j 0).toNat).getD (T.toList.getD j 0) else T.toList.getD j 0)) (fun i _ => T.size - (intOf i).toNat)
        case atStart => exact ⟨0, _, Nat.zero_le _, rfl, HK5, HTX, Lib.hid (fun j _ => by simp)⟩
        case round =>
          clear HK5 HTX
          obtain ⟨k, g, hk, rfl, HK, HX, HG⟩ := hrel
          rcases Nat.lt_or_ge k T.size with hlt | hge
          · have HLT := Lib.hid hlt
            go_wp2_with fail
            clear hlt
            go_loopw [45] (fun i wz => ∃ (q : Nat) (g : Nat → UInt8), q ≤ A.size ∧ i = .int .i64 (q : Int) ∧ Hid (Keep Nb w wz) ∧ Hid (TxtG b3 T.size g wz) ∧ Hid (∀ j, j < T.size → g j = if j < k then (lookL (pairsL A.toList B.toList A.size) (T.toList.getD j 0).toNat).getD (T.toList.getD j 0) else if j = k then (lookL (pairsL A.toList B.toList q) (T.toList.getD j 0).toNat).getD (T.toList.getD j 0) else T.toList.getD j 0)) (fun i _ => A.size - (intOf i).toNat)
            case atStart => exact ⟨0, g, Nat.zero_le _, rfl, HK, HX, Lib.hid (fun j hj => by
              rw [HG.out j hj]
              by_cases h : j < k
              · rw [if_pos h, if_pos h]
              · rw [if_neg h, if_neg h]; simp [pairsL, lookL])⟩
            case round =>
              clear HK HX HG
              obtain ⟨q, g, hq, rfl, HK, HX, HG⟩ := hrel
              rcases Nat.lt_or_ge q A.size with hql | hqg
              · obtain ⟨d, b0, e0, f0⟩ := byteT HLT.out
                obtain ⟨e, b1, e1, f1⟩ := byteT hql
                obtain ⟨x, b2, e2, f2⟩ := byteT (s := B) (a := q) (by have := HAB.out; omega)
                have i0 : (0 : Int) ≤ (k : Int) := by omega
                have i1 : (k : Int) < (T.size : Int) := by have := HLT.out; omega
                have j0 : (0 : Int) ≤ (q : Int) := by omega
                have j1 : (q : Int) < (A.size : Int) := by omega
                have j2 : (q : Int) < (B.size : Int) := by have := HAB.out; omega
                by_cases hde : d = e
                · have m1 : ((d.toNat : Int) == (e.toNat : Int)) = true := by simp [hde]
                  have m2 : (d.toNat == e.toNat) = true := by simp [hde]
                  have HG2 : Hid (∀ j, j < T.size → (if j = k then x else g j) = if j < k then (lookL (pairsL A.toList B.toList A.size) (T.toList.getD j 0).toNat).getD (T.toList.getD j 0) else if j = k then (lookL (pairsL A.toList B.toList (q + 1)) (T.toList.getD j 0).toNat).getD (T.toList.getD j 0) else T.toList.getD j 0) := Lib.hid (fun j hj => by
                    by_cases h : j = k
                    · subst h
                      rw [if_pos rfl, if_neg (Nat.lt_irrefl _), if_pos rfl, pairsL, lookL, f0, f1, f2, if_pos (by rw [hde])]
                      rfl
                    · rw [if_neg h, HG.out j hj, if_neg h, if_neg h])
                  clear f0 f1 f2 hde
                  go_wp2_with fail
                  (refine wp_region_f [6] (InX Nb _) (by kernel_rfl) (InX.mk (Keep.drew (Keep.refl _ _))) (fun hI => ?_))
                  have xx : ∀ k, ¬ Nb k := fun _ h => h
                  have hD : Keep Nb wr wr.drew := (Keep.refl _ _).drew
                  have hX := HX.out.keep hD (fun h => h)
                  generalize wr.drew = x0 at hI hD hX ⊢
                  (refine wpI_from 0 ?_; (iterate 6 ((first | (refine wpI_take3' (v := ?_) rfl (by kernel_rfl) (fun _ _ _ h => h) hI rfl ?_ ?_; rotate_left; (focus (rintro _ ⟨E, rfl⟩; go_simp; (try with_reducible rfl)))) | refine wpI_skip3' rfl (by kernel_rfl) (fun _ _ _ h => h) hI rfl ?_); simp only [Act.put, tk, Nat.reduceAdd])); refine wpI_till ?_)
                  (refine wpF_one 6 rfl (by kernel_rfl) rfl (fun K hK => ?_))
                  go_simp
                  (refine hK _ _ (fun h => absurd (by simp) h) (fun _ => ?_); clear hK K; try simp only [Act.put, tk])
                  (refine wpF_done (by kernel_rfl) ?_ _)
                  have HK2 : Hid (Keep Nb w (x0.setCell ⟨b3, k, none⟩ (.int .u8 (x.toNat : Int)))) := Lib.hid (Keep.setCell (HK.out.trans hD (fun _ _ h => h)) (Or.inl HWL.out) _)
                  have HX2 := Lib.hid (hX.put (k := k) x)
                  have ck := hX.cell HLT.out
                  have fk := hX.frozen HLT.out
                  have lk := hX.lt
                  clear hD hX
                  go_wp2_with fail
                  go_roundw
                  case rel => exact ⟨q + 1, _, by omega, by go_num, HK2, HX2, HG2⟩
                  case measure => simp [intOf]; omega
                · have hne : d.toNat ≠ e.toNat := fun x => hde (UInt8.toNat_inj.1 x)
                  have m1 : ((d.toNat : Int) == (e.toNat : Int)) = false := beq_eq_false_iff_ne.2 (by omega)
                  have m2 : (d.toNat == e.toNat) = false := beq_eq_false_iff_ne.2 hne
                  have HG2 : Hid (∀ j, j < T.size → g j = if j < k then (lookL (pairsL A.toList B.toList A.size) (T.toList.getD j 0).toNat).getD (T.toList.getD j 0) else if j = k then (lookL (pairsL A.toList B.toList (q + 1)) (T.toList.getD j 0).toNat).getD (T.toList.getD j 0) else T.toList.getD j 0) := Lib.hid (fun j hj => by
                    rw [HG.out j hj]
                    by_cases h : j = k
                    · subst h
                      rw [if_neg (Nat.lt_irrefl _), if_pos rfl, if_neg (Nat.lt_irrefl _), if_pos rfl, pairsL, lookL, f0, f1, if_neg (fun y => hne y.symm)]
                    · by_cases h' : j < k
                      · rw [if_pos h', if_pos h']
                      · rw [if_neg h', if_neg h, if_neg h', if_neg h])
                  clear f0 f1 f2 hde hne
                  go_wp2_with fail
                  (refine wp_region_f [6] (InX Nb _) (by kernel_rfl) (InX.mk (Keep.drew (Keep.refl _ _))) (fun hI => ?_))
                  have xx : ∀ k, ¬ Nb k := fun _ h => h
                  have hD : Keep Nb wr wr.drew := (Keep.refl _ _).drew
                  have hX := HX.out.keep hD (fun h => h)
                  generalize wr.drew = x0 at hI hD hX ⊢
                  (refine wpI_from 0 ?_; (iterate 6 ((first | (refine wpI_take3' (v := ?_) rfl (by kernel_rfl) (fun _ _ _ h => h) hI rfl ?_ ?_; rotate_left; (focus (rintro _ ⟨E, rfl⟩; go_simp; (try with_reducible rfl)))) | refine wpI_skip3' rfl (by kernel_rfl) (fun _ _ _ h => h) hI rfl ?_); simp only [Act.put, tk, Nat.reduceAdd])); refine wpI_till ?_)
                  (refine wpF_one 6 rfl (by kernel_rfl) rfl (fun K hK => ?_))
                  go_simp
                  (refine hK _ _ (fun h => absurd (by simp) h) (fun _ => ?_); clear hK K; try simp only [Act.put, tk])
                  (refine wpF_done (by kernel_rfl) ?_ _)
                  have HK2 := Lib.hid (HK.out.trans hD (fun _ _ h => h))
                  have HX2 := Lib.hid hX
                  clear hD hX
                  go_wp2_with fail
                  go_roundw
                  case rel => exact ⟨q + 1, g, by omega, by go_num, HK2, HX2, HG2⟩
                  case measure => simp [intOf]; omega
              · obtain rfl : q = A.size := by omega
                have HG2 : Hid (∀ j, j < T.size → g j = if j < k + 1 then (lookL (pairsL A.toList B.toList A.size) (T.toList.getD j 0).toNat).getD (T.toList.getD j 0) else T.toList.getD j 0) := Lib.hid (fun j hj => by
                  rw [HG.out j hj]
                  rcases Nat.lt_trichotomy j k with h | h | h
                  · rw [if_pos h, if_pos (by omega)]
                  · subst h; rw [if_neg (Nat.lt_irrefl _), if_pos rfl, if_pos (Nat.lt_succ_self _)]
                  · rw [if_neg (by omega), if_neg (by omega), if_neg (by omega)])
                have hlt := HLT.out
                go_wp2_with fail
                go_roundw
                case rel => exact ⟨k + 1, g, by omega, by go_num, HK, HX, HG2⟩
                case measure => simp [intOf]; omega
          · obtain rfl : k = T.size := by omega
            have hl : (turnF (pairsL A.toList B.toList A.size) T.toList).length = T.size := by unfold turnF; rw [List.length_map, toList_len]
            have hback : (convert 128 9 (.slice (some ⟨b3, 0, none⟩) T.size cap)).run Try.prog wr = .ok (.string ⟨(turnF (pairsL A.toList B.toList A.size) T.toList).toArray⟩) wr := by
              rw [← hl]
              refine run_convert_bytes_back wr 128 9 5 ⟨b3, 0, none⟩ cap (turnF (pairsL A.toList B.toList A.size) T.toList) Try.underlying128 Try.underlying5 Try.underlying9 (fun j hj => ?_)
              have hj' : j < T.size := by omega
              rw [add_zero', Nat.zero_add, HX.out.cell hj', HG.out j hj', if_pos hj', turnF_get _ _ (by rw [toList_len]; exact hj')]
            have HE : Hid (turnW A B T = .tuple #[.string ⟨(turnF (pairsL A.toList B.toList A.size) T.toList).toArray⟩, .int .i64 0]) := Lib.hid (by
              unfold turnW
              rw [if_pos ⟨HAB.out, HD.out⟩])
            clear hl
            go_wp2_with fail
            go_ret2
            exact ⟨by rw [HE.out]; rfl, HK.out⟩

end Go.Proofs.Ytkidjbfapldmbaa
