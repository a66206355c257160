/- Turn of the program. -/
import Derived.Test.YtkidjbfapldmbaaAwk
import Derived.Laws.NewBlocks
import Derived.Laws.IdiomStrings
import Derived.Test.YtkidjbfapldmbaaTk3
namespace Go.Proofs.Ytkidjbfapldmbaa
set_option linter.unusedVariables false
set_option linter.unusedSimpArgs false
open Go.RowKit P8

/-- 256 cells in a row. -/
def tabV (f : Nat → Value) : Array Value := ((List.range 256).map f).toArray
theorem tabV_size (f : Nat → Value) : (tabV f).size = 256 := by simp [tabV]
theorem tabV_get (f : Nat → Value) (i : Nat) (h : i < 256) : (tabV f)[i]? = some (f i) := by
  simp [tabV, h]
theorem tabV_set (f : Nat → Value) (q : Nat) (v : Value) : (tabV f).setIfInBounds q v = tabV (fun i => if i = q then v else f i) := by
  apply Array.ext_getElem?
  intro i
  rw [Array.getElem?_setIfInBounds]
  by_cases hi : i < 256
  · rw [tabV_get _ _ hi, tabV_get _ _ hi]
    by_cases e : q = i
    · subst e; simp [tabV_size, hi]
    · rw [if_neg e, if_neg (Ne.symm e)]
  · have h1 : (tabV f)[i]? = none := Array.getElem?_eq_none (by rw [tabV_size]; omega)
    have h2 : (tabV fun i => if i = q then v else f i)[i]? = none := Array.getElem?_eq_none (by rw [tabV_size]; omega)
    rw [h1, h2]
    split
    · rename_i e; subst e; rw [if_neg (by rw [tabV_size]; omega)]
    · rfl

/-! What is turned -/
def lookL : List (UInt8 × UInt8) → Nat → Option UInt8
  | [], _ => none
  | q :: r, c => if q.1.toNat = c then some q.2 else lookL r c
def pairsL (A B : List UInt8) : Nat → List (UInt8 × UInt8)
  | 0 => []
  | k + 1 => (A.getD k 0, B.getD k 0) :: pairsL A B k
def DistL (A B : List UInt8) (n : Nat) : Prop := ∀ k, k < n → lookL (pairsL A B k) (A.getD k 0).toNat = none
def turnF (ps : List (UInt8 × UInt8)) (T : List UInt8) : List UInt8 := T.map fun c => (lookL ps c.toNat).getD c
theorem turnF_get (ps : List (UInt8 × UInt8)) (T : List UInt8) {j : Nat} (h : j < T.length) : (turnF ps T)[j]'(by unfold turnF; rw [List.length_map]; exact h) = (lookL ps (T.getD j 0).toNat).getD (T.getD j 0) := by
  simp [turnF, List.getD, List.getElem?_eq_getElem h]
open Classical in
noncomputable def turnW (A B T : ByteArray) : Value :=
  if A.size = B.size ∧ DistL A.toList B.toList A.size then .tuple #[.string ⟨(turnF (pairsL A.toList B.toList A.size) T.toList).toArray⟩, .int .i64 0] else .tuple #[.string ⟨#[]⟩, .int .i64 1]
def tvL (ps : List (UInt8 × UInt8)) (c : Nat) : Value := .int .u8 (((lookL ps c).getD 0).toNat : Int)
def hvL (ps : List (UInt8 × UInt8)) (c : Nat) : Value := .bool (lookL ps c).isSome
theorem tvL_set (ps : List (UInt8 × UInt8)) (d e : UInt8) : (tabV (tvL ps)).setIfInBounds d.toNat (.int .u8 (e.toNat : Int)) = tabV (tvL ((d, e) :: ps)) := by
  rw [tabV_set]
  congr 1
  funext c
  show (if c = d.toNat then _ else Value.int .u8 (((lookL ps c).getD 0).toNat : Int)) = Value.int .u8 (((if d.toNat = c then some e else lookL ps c).getD 0).toNat : Int)
  by_cases h : c = d.toNat
  · rw [if_pos h, if_pos h.symm]; rfl
  · rw [if_neg h, if_neg (fun e => h e.symm)]
theorem hvL_set (ps : List (UInt8 × UInt8)) (d e : UInt8) : (tabV (hvL ps)).setIfInBounds d.toNat (.bool true) = tabV (hvL ((d, e) :: ps)) := by
  rw [tabV_set]
  congr 1
  funext c
  show (if c = d.toNat then _ else Value.bool (lookL ps c).isSome) = Value.bool (if d.toNat = c then some e else lookL ps c).isSome
  by_cases h : c = d.toNat
  · rw [if_pos h, if_pos h.symm]; rfl
  · rw [if_neg h, if_neg (fun e => h e.symm)]
theorem zero143 : Try.zeroCells143 = tabV (tvL []) := by kernel_rfl
theorem zero144 : Try.zeroCells144 = tabV (hvL []) := by kernel_rfl
theorem byteT {s : ByteArray} {a : Nat} (h : a < s.size) : ∃ d : UInt8, ∃ h : a < s.size, s[a] = d ∧ s.toList.getD a 0 = d := ⟨_, h, rfl, by
  rw [ByteArray.toList_eq]
  have : a < s.data.toList.length := by simpa using h
  rw [List.getD, List.getElem?_eq_getElem this]; rfl⟩

def LoX (b : Nat) : Nat → Prop := fun k => b ≤ k
/-- The table under way. -/
def TabAt (w : World) (ps : List (UInt8 × UInt8)) (wr : World) : Prop := Blk wr w.heap.size (tabV (tvL ps)) 143 ∧ Blk wr (w.heap.size + 1) (tabV (hvL ps)) 144 ∧ Keep Nb w wr
theorem TabAt.keep {w wr wz : World} {ps : List (UInt8 × UInt8)} (h : TabAt w ps wr) (hk : Keep Nb wr wz) : TabAt w ps wz := ⟨h.1.keep hk (fun h => h), h.2.1.keep hk (fun h => h), h.2.2.trans hk (fun _ _ h => h)⟩
/-- A text's bytes, the first k of them turned. -/
def TxtAt (b : Nat) (ps : List (UInt8 × UInt8)) (T : List UInt8) (k : Nat) (wr : World) : Prop :=
  ∃ C : Array Value, wr.heap[b]? = some (.cells C 5 (C.size, C.size + 1)) ∧ T.length ≤ C.size ∧ ∀ j, j < T.length → C[j]? = some (.int .u8 (((if j < k then (lookL ps (T.getD j 0).toNat).getD (T.getD j 0) else T.getD j 0) : UInt8).toNat : Int))

theorem cell_fr {w : World} {b j : Nat} {C : Array Value} {t : TypeId} {fr : Nat × Nat} {u : Value} (h : w.heap[b]? = some (.cells C t fr)) (hu : C[j]? = some u) : w.cell? ⟨b, j, none⟩ = some u := by
  unfold World.cell?; rw [h]; simpa using hu
theorem frozen_fr {w : World} {b j m : Nat} {C : Array Value} {t : TypeId} (h : w.heap[b]? = some (.cells C t (m, m + 1))) (hj : j < m) : w.frozen? ⟨b, j, none⟩ = false := by
  unfold World.frozen?; rw [h]; simp; omega
theorem TxtAt.lt {b : Nat} {ps : List (UInt8 × UInt8)} {T : List UInt8} {k : Nat} {w : World} (h : TxtAt b ps T k w) : b < w.heap.size := by
  obtain ⟨C, h1, _⟩ := h
  exact (Array.getElem?_eq_some_iff.1 h1).1
theorem TxtAt.cell {b : Nat} {ps : List (UInt8 × UInt8)} {T : List UInt8} {k j : Nat} {w : World} (h : TxtAt b ps T k w) (hj : j < T.length) : w.cell? ⟨b, j, none⟩ = some (.int .u8 (((if j < k then (lookL ps (T.getD j 0).toNat).getD (T.getD j 0) else T.getD j 0) : UInt8).toNat : Int)) := by
  obtain ⟨C, h1, h2, h3⟩ := h
  exact cell_fr h1 (h3 j hj)
theorem TxtAt.frozen {b : Nat} {ps : List (UInt8 × UInt8)} {T : List UInt8} {k j : Nat} {w : World} (h : TxtAt b ps T k w) (hj : j < T.length) : w.frozen? ⟨b, j, none⟩ = false := by
  obtain ⟨C, h1, h2, h3⟩ := h
  exact frozen_fr h1 (by omega)
theorem TxtAt.skip {b : Nat} {ps : List (UInt8 × UInt8)} {T : List UInt8} {k : Nat} {w : World} (h : TxtAt b ps T k w) (hn : lookL ps (T.getD k 0).toNat = none) : TxtAt b ps T (k + 1) w := by
  obtain ⟨C, h1, h2, h3⟩ := h
  refine ⟨C, h1, h2, fun j hj => ?_⟩
  rw [h3 j hj]
  rcases Nat.lt_trichotomy j k with h | h | h
  · rw [if_pos h, if_pos (by omega)]
  · subst h; rw [if_neg (Nat.lt_irrefl _), if_pos (Nat.lt_succ_self _), hn]; rfl
  · rw [if_neg (by omega), if_neg (by omega)]
theorem TxtAt.put {b : Nat} {ps : List (UInt8 × UInt8)} {T : List UInt8} {k : Nat} {w : World} {x : UInt8} (h : TxtAt b ps T k w) (hk : k < T.length) (hn : lookL ps (T.getD k 0).toNat = some x) : TxtAt b ps T (k + 1) (w.setCell ⟨b, k, none⟩ (.int .u8 (x.toNat : Int))) := by
  obtain ⟨C, h1, h2, h3⟩ := h
  refine ⟨C.setIfInBounds k (.int .u8 (x.toNat : Int)), ?_, by simpa using h2, fun j hj => ?_⟩
  · unfold World.setCell
    simp only [Array.getElem?_modify, if_true]
    rw [h1]; simp
  · rw [Array.getElem?_setIfInBounds]
    rcases Nat.lt_trichotomy j k with h | h | h
    · rw [if_neg (by omega), h3 j hj, if_pos h, if_pos (by omega)]
    · subst h; rw [if_pos rfl, if_pos (by omega), if_pos (Nat.lt_succ_self _), hn]; rfl
    · rw [if_neg (by omega), h3 j hj, if_neg (by omega), if_neg (by omega)]

set_option maxRecDepth 100000 in
theorem turn_len (A B T : ByteArray) (h : A.size ≠ B.size) (w : World) :
    Calls Try.prog 55 #[.string A, .string B, .string T] w fun e w' => e = .returned (turnW A B T) ∧ Keep Nb w w' := by
  have m1 : ((A.size : Int) == (B.size : Int)) = false := beq_eq_false_iff_ne.2 (by omega)
  have m2 : (A.size == B.size) = false := beq_eq_false_iff_ne.2 h
  have HE : Hid (turnW A B T = .tuple #[.string ⟨#[]⟩, .int .i64 1]) := Lib.hid (by unfold turnW; rw [if_neg (fun x => h x.1)])
  clear h
  go_enter Try.func55, Try.ntmps55
  go_wp2_with fail
  go_ret2
  exact ⟨by rw [HE.out]; rfl, Keep.refl _ _⟩

set_option maxRecDepth 100000 in
set_option maxHeartbeats 8000000 in
theorem turn_main (A B T : ByteArray) (h : A.size = B.size) (hA : A.size ≤ 1000000) (hT : T.size ≤ 1000000) (w : World) :
    Calls Try.prog 55 #[.string A, .string B, .string T] w fun e w' => e = .returned (turnW A B T) ∧ Keep Nb w w' := by
  obtain ⟨n, hn⟩ : ∃ n, n = A.size := ⟨_, rfl⟩
  have hnB : B.size = n := by omega
  have HNA := Lib.hid hn
  have HNB := Lib.hid hnB
  have HN : Hid (n ≤ 1000000) := Lib.hid (by omega)
  have HT := Lib.hid hT
  have m1 : ((A.size : Int) == (B.size : Int)) = true := by simp [h]
  have m2 : (A.size == B.size) = true := by simp [h]
  have m3 : ((A.size : Int) != (B.size : Int)) = false := by simp [h]
  have m4 : (A.size != B.size) = false := by simp [h]
  clear h hn hnB hA hT
  go_enter Try.func55, Try.ntmps55
  go_upto_region 5 with fail
  rw [zero143, zero144]
  have HA1 : Hid (TabAt w [] ((w.alloc (.cells (tabV (tvL [])) 143)).alloc (.cells (tabV (hvL [])) 144))) := Lib.hid ⟨(Blk.new w _ _).alloc _, Blk.new' (by simp) _ _, Keep.alloc (Keep.alloc (Keep.refl _ _) _) _⟩
  generalize (w.alloc (.cells (tabV (tvL [])) 143)).alloc (.cells (tabV (hvL [])) 144) = w1 at HA1 ⊢
  clear m1 m2 m3 m4
  go_wp2_with fail
  go_loopw [21] (fun i wr => ∃ k : Nat, k ≤ A.size ∧ i = .int .i64 (k : Int) ∧ Hid (TabAt w (pairsL A.toList B.toList k) wr) ∧ Hid (DistL A.toList B.toList k)) (fun i _ => A.size - (intOf i).toNat)
  case atStart => exact ⟨0, Nat.zero_le _, rfl, HA1, Lib.hid (fun k hk => by omega)⟩
  case round =>
    clear HA1
    obtain ⟨k, hk, rfl, HA, HD⟩ := hrel
    have hA6 : A.size ≤ 1000000 := by have := HN.out; have := HNA.out; omega
    rcases Nat.lt_or_ge k A.size with hlt | hge
    · obtain ⟨d, b0, e0, f0⟩ := byteT hlt
      obtain ⟨e, b1, e1, f1⟩ := byteT (s := B) (a := k) (by have := HNA.out; have := HNB.out; omega)
      have dlt : d.toNat < 256 := d.toNat_lt
      have i0 : (0 : Int) ≤ (d.toNat : Int) := by omega
      have i1 : (d.toNat : Int) < 256 := by omega
      have j0 : (0 : Int) ≤ (k : Int) := by omega
      have j1 : (k : Int) < (A.size : Int) := by omega
      have j2 : (k : Int) < (B.size : Int) := by omega
      have hc := HA.out.2.1.cell d.toNat (tabV_get _ _ dlt)
      have hl := HA.out.2.1.lt
      have hst : pairsL A.toList B.toList (k + 1) = (d, e) :: pairsL A.toList B.toList k := by rw [pairsL, f0, f1]
      have HST := Lib.hid hst
      have HF0 := Lib.hid f0
      clear hst f0 f1
      unfold hvL at hc
      cases hlk : lookL (pairsL A.toList B.toList k) d.toNat with
      | some x =>
        rw [hlk] at hc
        simp only [Option.isSome_some] at hc
        have HE : Hid (turnW A B T = .tuple #[.string ⟨#[]⟩, .int .i64 1]) := Lib.hid (by
          unfold turnW
          rw [if_neg (fun x => ?_)]
          have := x.2 k hlt
          rw [HF0.out, hlk] at this
          cases this)
        clear hlk
        go_wp2_with fail
        go_ret2
        exact ⟨by rw [HE.out]; rfl, HA.out.2.2⟩
      | none =>
        rw [hlk] at hc
        simp only [Option.isSome_none] at hc
        have HD2 : Hid (DistL A.toList B.toList (k + 1)) := Lib.hid (fun j hj => by
          rcases Nat.lt_or_ge j k with h | h
          · exact HD.out j h
          · obtain rfl : j = k := by omega
            rw [HF0.out]; exact hlk)
        have c1 := HA.out.1.cell d.toNat (tabV_get _ _ dlt)
        have g1 := HA.out.1.frozen d.toNat
        have g2 := HA.out.2.1.frozen d.toNat
        have l1 := HA.out.1.lt
        unfold tvL at c1
        clear hlk hc
        have hc := HA.out.2.1.cell d.toNat (tabV_get _ _ dlt)
        unfold hvL at hc
        rw [show (lookL (pairsL A.toList B.toList k) d.toNat).isSome = false by have := HD2.out k (by omega); rw [HF0.out] at this; rw [this]; rfl] at hc
        go_wp2_with fail
        (refine wp_region_f [12] (InX (LoX w.heap.size) _) (by kernel_rfl) (InX.mk (Keep.drew (Keep.refl _ _))) (fun hI => ?_))
        have hD : Keep (LoX w.heap.size) wr wr.drew := (Keep.refl _ _).drew
        have hA0 := HA.out.keep (Keep.refl Nb wr).drew
        clear c1 g1 g2 l1 hc hl
        generalize wr.drew = x0 at hI hD hA0 ⊢
        have c1 := hA0.1.cell d.toNat (tabV_get _ _ dlt)
        have g1 := hA0.1.frozen d.toNat
        have l1 := hA0.1.lt
        unfold tvL at c1
        (refine wpI_from 0 ?_; (iterate 10 ((first | (refine wpI_take3' (v := ?_) rfl (by kernel_rfl) (fun _ _ _ h => h) hI rfl ?_ ?_; rotate_left; (focus (rintro _ ⟨E, rfl⟩; go_simp; (try with_reducible rfl)))) | refine wpI_skip3' rfl (by kernel_rfl) (fun _ _ _ h => h) hI rfl ?_); simp only [Act.put, tk, Nat.reduceAdd])); refine wpI_till ?_)
        (refine wpF_one 10 rfl (by kernel_rfl) rfl (fun K hK => ?_))
        go_simp
        have hB1 : Blk (x0.setCell ⟨w.heap.size, d.toNat, none⟩ (.int .u8 (e.toNat : Int))) w.heap.size (tabV (tvL ((d, e) :: pairsL A.toList B.toList k))) 143 := by
          rw [← tvL_set]; exact hA0.1.set d.toNat _
        have hB2 : Blk (x0.setCell ⟨w.heap.size, d.toNat, none⟩ (.int .u8 (e.toNat : Int))) (w.heap.size + 1) (tabV (hvL (pairsL A.toList B.toList k))) 144 := hA0.2.1.setOther (p := ⟨w.heap.size, d.toNat, none⟩) (fun e => by simp at e) _
        have hKp : Keep Nb w (x0.setCell ⟨w.heap.size, d.toNat, none⟩ (.int .u8 (e.toNat : Int))) := Keep.setCell hA0.2.2 (Or.inl (Nat.le_refl _)) _
        replace hD : Keep (LoX w.heap.size) wr (x0.setCell ⟨w.heap.size, d.toNat, none⟩ (.int .u8 (e.toNat : Int))) := Keep.setCell hD (Or.inr (Nat.le_refl _)) _
        clear c1 g1 l1 hA0
        generalize x0.setCell ⟨w.heap.size, d.toNat, none⟩ (.int .u8 (e.toNat : Int)) = x1 at hB1 hB2 hKp hD ⊢
        (refine hK _ _ (fun _ => InX.mk hD) (fun hI => ?_); have hI := hI (by simp); clear hK K; try simp only [Act.put, tk])
        have c2 := hB2.cell d.toNat (tabV_get _ _ dlt)
        have g2 := hB2.frozen d.toNat
        have l2 := hB2.lt
        unfold hvL at c2
        (refine wpI_from 11 ?_; (iterate 1 ((first | (refine wpI_take3' (v := ?_) rfl (by kernel_rfl) (fun _ _ _ h => h) hI rfl ?_ ?_; rotate_left; (focus (rintro _ ⟨E, rfl⟩; go_simp; (try with_reducible rfl)))) | refine wpI_skip3' rfl (by kernel_rfl) (fun _ _ _ h => h) hI rfl ?_); simp only [Act.put, tk, Nat.reduceAdd])); refine wpI_till ?_)
        (refine wpF_one 12 rfl (by kernel_rfl) rfl (fun K hK => ?_))
        go_simp
        have HA2 : Hid (TabAt w (pairsL A.toList B.toList (k + 1)) (x1.setCell ⟨w.heap.size + 1, d.toNat, none⟩ (.bool true))) := Lib.hid (by
          rw [HST.out]
          exact ⟨hB1.setOther (p := ⟨w.heap.size + 1, d.toNat, none⟩) (fun e => by simp at e) _, by rw [← hvL_set]; exact hB2.set d.toNat _, Keep.setCell hKp (Or.inl (Nat.le_succ _)) _⟩)
        (refine hK _ _ (fun h => absurd (by simp) h) (fun _ => ?_); clear hK K; try simp only [Act.put, tk])
        (refine wpF_done (by kernel_rfl) ?_ _)
        clear c2 g2 l2 hB1 hB2 hKp hD
        generalize x1.setCell ⟨w.heap.size + 1, d.toNat, none⟩ (.bool true) = x2 at HA2 ⊢
        go_wp2_with fail
        go_roundw
        case rel => exact ⟨k + 1, by omega, by go_num, HA2, HD2⟩
        case measure => simp [intOf]; omega
    · obtain rfl : k = A.size := by omega
      have hcv := fun wx => run_bytes_of_string (P := Try.prog) wx 9 128 5 T Try.underlying9 Try.underlying128 Try.underlying5
      go_upto_region 13 with fail
      clear hcv
      have HAE := Lib.hid (HA.out.keep (wz := (wr.alloc (.cells (bytesRow T (grownCap wr T.size 0 5)) 5 ((bytesRow T (grownCap wr T.size 0 5)).size, (bytesRow T (grownCap wr T.size 0 5)).size + 1))).drew) (Keep.alloc (Keep.refl _ _) _).drew)
      have HTX : Hid (TxtAt wr.heap.size (pairsL A.toList B.toList A.size) T.toList 0 (wr.alloc (.cells (bytesRow T (grownCap wr T.size 0 5)) 5 ((bytesRow T (grownCap wr T.size 0 5)).size, (bytesRow T (grownCap wr T.size 0 5)).size + 1))).drew) := Lib.hid (by
        refine ⟨_, heap_alloc_new wr _, ?_, fun j hj => ?_⟩
        · rw [toList_len]; unfold bytesRow; simp
        · rw [toList_len] at hj
          rw [if_neg (by omega), bytesRow_at T _ j (by simpa using hj), ByteArray.toList_eq, List.getD, List.getElem?_eq_getElem (by simpa using hj)]
          rfl)
      have HWL : Hid (w.heap.size + 2 ≤ wr.heap.size) := Lib.hid HA.out.2.1.lt
      generalize (wr.alloc (.cells (bytesRow T (grownCap wr T.size 0 5)) 5 ((bytesRow T (grownCap wr T.size 0 5)).size, (bytesRow T (grownCap wr T.size 0 5)).size + 1))).drew = w5 at HAE HTX ⊢
      generalize grownCap wr T.size 0 5 = cap
      generalize wr.heap.size = b3 at HTX HWL ⊢
      have hT3 : T.size ≤ 9223372036854775807 := by have := HT.out; omega
      clear HA
      go_wp2_with fail
      go_loopw [45] (fun i wz => ∃ k : Nat, k ≤ T.size ∧ i = .int .i64 (k : Int) ∧ Hid (TabAt w (pairsL A.toList B.toList A.size) wz) ∧ Hid (TxtAt b3 (pairsL A.toList B.toList A.size) T.toList k wz)) (fun i _ => T.size - (intOf i).toNat)
      case atStart => exact ⟨0, Nat.zero_le _, rfl, HAE, HTX⟩
      case round =>
        clear HAE HTX
        obtain ⟨k, hk, rfl, HA, HX⟩ := hrel
        rcases Nat.lt_or_ge k T.size with hlt | hge
        · obtain ⟨d, b0, e0, f0⟩ := byteT hlt
          have dlt : d.toNat < 256 := d.toNat_lt
          have i0 : (0 : Int) ≤ (d.toNat : Int) := by omega
          have i1 : (d.toNat : Int) < 256 := by omega
          have j0 : (0 : Int) ≤ (k : Int) := by omega
          have j1 : (k : Int) < (T.size : Int) := by omega
          have ck := HX.out.cell (by rw [toList_len]; exact hlt)
          have fk := HX.out.frozen (by rw [toList_len]; exact hlt)
          have lk := HX.out.lt
          rw [if_neg (Nat.lt_irrefl k), f0] at ck
          have hc := HA.out.2.1.cell d.toNat (tabV_get _ _ dlt)
          have c1 := HA.out.1.cell d.toNat (tabV_get _ _ dlt)
          have hl := HA.out.2.1.lt
          have l1 := HA.out.1.lt
          have HF0 := Lib.hid f0
          unfold hvL at hc
          unfold tvL at c1
          cases hlk : lookL (pairsL A.toList B.toList A.size) d.toNat with
          | none =>
            rw [hlk] at hc c1
            simp only [Option.isSome_none, Option.getD_none] at hc c1
            have HX2 : Hid (TxtAt b3 (pairsL A.toList B.toList A.size) T.toList (k + 1) wr) := Lib.hid (HX.out.skip (by rw [HF0.out]; exact hlk))
            clear hlk f0 c1
            go_wp2_with fail
            go_roundw
            case rel => exact ⟨k + 1, by omega, by go_num, HA, HX2⟩
            case measure => simp [intOf]; omega
          | some x =>
            rw [hlk] at hc c1
            simp only [Option.isSome_some, Option.getD_some] at hc c1
            have hb1 : b3 ≠ w.heap.size := by have := HWL.out; omega
            have hb2 : b3 ≠ w.heap.size + 1 := by have := HWL.out; omega
            have HX2 : Hid (TxtAt b3 (pairsL A.toList B.toList A.size) T.toList (k + 1) (wr.setCell ⟨b3, k, none⟩ (.int .u8 (x.toNat : Int)))) := Lib.hid (HX.out.put (by rw [toList_len]; exact hlt) (by rw [HF0.out]; exact hlk))
            have HA2 : Hid (TabAt w (pairsL A.toList B.toList A.size) (wr.setCell ⟨b3, k, none⟩ (.int .u8 (x.toNat : Int)))) := Lib.hid ⟨HA.out.1.setOther (p := ⟨b3, k, none⟩) hb1 _, HA.out.2.1.setOther (p := ⟨b3, k, none⟩) hb2 _, Keep.setCell HA.out.2.2 (Or.inl (by have := HWL.out; simp only []; omega)) _⟩
            clear hlk f0
            go_wp2_with fail
            go_roundw
            case rel => exact ⟨k + 1, by omega, by go_num, HA2, HX2⟩
            case measure => simp [intOf]; omega
        · obtain rfl : k = T.size := by omega
          have hl : (turnF (pairsL A.toList B.toList A.size) T.toList).length = T.size := by unfold turnF; rw [List.length_map, toList_len]
          have hback : (convert 128 9 (.slice (some ⟨b3, 0, none⟩) T.size cap)).run Try.prog wr = .ok (.string ⟨(turnF (pairsL A.toList B.toList A.size) T.toList).toArray⟩) wr := by
            rw [← hl]
            refine run_convert_bytes_back wr 128 9 5 ⟨b3, 0, none⟩ cap (turnF (pairsL A.toList B.toList A.size) T.toList) Try.underlying128 Try.underlying5 Try.underlying9 (fun j hj => ?_)
            have hj' : j < T.size := by omega
            rw [add_zero', Nat.zero_add]
            have := HX.out.cell (j := j) (by rw [toList_len]; exact hj')
            rw [if_pos hj'] at this
            rw [this]
            rw [turnF_get _ _ (by rw [toList_len]; exact hj')]
          have HE : Hid (turnW A B T = .tuple #[.string ⟨(turnF (pairsL A.toList B.toList A.size) T.toList).toArray⟩, .int .i64 0]) := Lib.hid (by
            unfold turnW
            rw [if_pos ⟨by rw [HNB.out, HNA.out], HD.out⟩])
          clear hl
          go_wp2_with fail
          go_ret2
          exact ⟨by rw [HE.out]; rfl, HA.out.2.2⟩

theorem turn_any (A B T : ByteArray) (hA : A.size ≤ 1000000) (hT : T.size ≤ 1000000) (w : World) :
    Calls Try.prog 55 #[.string A, .string B, .string T] w fun e w' => e = .returned (turnW A B T) ∧ Keep Nb w w' := by
  by_cases h : A.size = B.size
  · exact turn_main A B T h hA hT w
  · exact turn_len A B T h w

end Go.Proofs.Ytkidjbfapldmbaa
