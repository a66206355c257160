/- Parse and the reference's Bracket, at any place of any text. -/
import Derived.Test.YtfjipiibkmapkaaBr2
import Derived.Test.YtfjipiibkmapkaaParseG1
import Derived.Test.YtfjipiibkmapkaaParseG2
import Derived.Test.YtfjipiibkmapkaaParseG3
import Derived.Test.YtfjipiibkmapkaaParseG4
namespace Go.Proofs.Ytfjipiibkmapkaa
set_option linter.unusedVariables false
set_option linter.unusedSimpArgs false
open Go.RowKit

/-- What stands at a place that bears a [. -/
def parseF (L : List UInt8) (a : Nat) : Option ((Nat → Int) × Nat) :=
  if preB [94] (L.drop (a + 1)) then loopF (L.length + 1) true zeroF (L.drop (a + 2)) (a + 2) else loopF (L.length + 1) true zeroF (L.drop (a + 1)) (a + 1)
/-- What Parse answers. -/
def parseV (L : List UInt8) (a : Int) : Value := if 0 ≤ a ∧ L[a.toNat]? = some 91 then brV (preB [94] (L.drop (a.toNat + 1))) (parseF L a.toNat) else .tuple #[.agg (setRow zeroF), .int .i64 0, .int .i64 1]
theorem parseV_of (L : List UInt8) (a : Int) : ∃ f n e, parseV L a = .tuple #[.agg (setRow f), .int .i64 n, .int .i64 e] := by
  unfold parseV
  split
  · cases parseF L a.toNat with
    | none => exact ⟨zeroF, 0, 10, rfl⟩
    | some r => obtain ⟨f, n⟩ := r; exact ⟨_, _, _, rfl⟩
  · exact ⟨_, _, _, rfl⟩

set_option maxRecDepth 100000 in
set_option maxHeartbeats 1000000 in
theorem prs_arg (s : ByteArray) (a : Int) (h : ¬ (0 ≤ a ∧ s.toList[a.toNat]? = some 91)) (w : World) :
    Calls Try.prog 20 #[.string s, .int .i64 a] w fun e w' => e = .returned (.tuple #[.agg (setRow zeroF), .int .i64 0, .int .i64 1]) ∧ Keep Nb w w' := by
  by_cases h0 : a < 0
  · have g1 : decide (a < 0) = true := by simpa using h0
    clear h h0
    have HR9 := Lib.hid ((Blk.new w _ _ : Blk (w.alloc (.cells (setRow zeroF) 26)) w.heap.size (setRow zeroF) 26).setRow (setRow zeroF))
    have HK9 := Lib.hid (Keep.setRow (X := Nb) (a := w) (Keep.alloc (Keep.refl _ _) (.cells (setRow zeroF) 26)) (Or.inl (Nat.le_refl w.heap.size)) (setRow zeroF))
    go_enter Try.func20, Try.ntmps20
    have hr : Blk (w.alloc (.cells (setRow zeroF) 26)) w.heap.size (setRow zeroF) 26 := Blk.new w _ _
    simp only [setRow, zeroF] at hr
    go_wp2_with (refine wpList_store_row rfl 26 (.tmp 4) (.tmp 27) rfl w.heap.size _ rfl rfl 26 _ hr sizeS1 rfl (by simp [setRow, Value.oneCell']) ?_)
    refine bodyPost_ret (results_ctt Try.results20 _ _ w.heap.size 26 _ (0, 0) _ rfl HR9.out Try.underlying26 rfl sizeS1) rfl ⟨rfl, HK9.out⟩
  · obtain ⟨n, rfl⟩ : ∃ n : Nat, a = (n : Int) := ⟨a.toNat, by omega⟩
    have h1 : ¬ s.toList[n]? = some 91 := fun e => h ⟨by omega, e⟩
    have g1 : decide ((n : Int) < 0) = false := by simp
    have k0 : (0 : Int) ≤ (n : Int) := by omega
    by_cases h2 : s.size ≤ n
    · have g2 : decide ((s.size : Int) ≤ (n : Int)) = true := by simp; omega
      have g3 : decide (s.size ≤ n) = true := by simp; omega
      clear h h0 h1 h2
      have HR9 := Lib.hid ((Blk.new w _ _ : Blk (w.alloc (.cells (setRow zeroF) 26)) w.heap.size (setRow zeroF) 26).setRow (setRow zeroF))
      have HK9 := Lib.hid (Keep.setRow (X := Nb) (a := w) (Keep.alloc (Keep.refl _ _) (.cells (setRow zeroF) 26)) (Or.inl (Nat.le_refl w.heap.size)) (setRow zeroF))
      go_enter Try.func20, Try.ntmps20
      have hr : Blk (w.alloc (.cells (setRow zeroF) 26)) w.heap.size (setRow zeroF) 26 := Blk.new w _ _
      simp only [setRow, zeroF] at hr
      go_wp2_with (refine wpList_store_row rfl 26 (.tmp 4) (.tmp 27) rfl w.heap.size _ rfl rfl 26 _ hr sizeS1 rfl (by simp [setRow, Value.oneCell']) ?_)
      refine bodyPost_ret (results_ctt Try.results20 _ _ w.heap.size 26 _ (0, 0) _ rfl HR9.out Try.underlying26 rfl sizeS1) rfl ⟨rfl, HK9.out⟩
    · have g2 : decide ((s.size : Int) ≤ (n : Int)) = false := by simp; omega
      have g3 : decide (s.size ≤ n) = false := by simp; omega
      have k1 : (n : Int) < (s.size : Int) := by omega
      obtain ⟨c, hc⟩ : ∃ c, s.toList[n]? = some c := ⟨_, List.getElem?_eq_getElem (by rw [toList_len]; omega)⟩
      obtain ⟨b0, e0⟩ := byte_at hc
      have m0 : ((c.toNat : Int) == 91) = false := u8_ne (n := 91) (by omega) (fun e => h1 (by rw [hc, e]; rfl))
      have m1 : ((c.toNat : Int) != 91) = true := by rw [bne, m0]; rfl
      clear h h0 h1 h2 hc
      have HR9 := Lib.hid ((Blk.new w _ _ : Blk (w.alloc (.cells (setRow zeroF) 26)) w.heap.size (setRow zeroF) 26).setRow (setRow zeroF))
      have HK9 := Lib.hid (Keep.setRow (X := Nb) (a := w) (Keep.alloc (Keep.refl _ _) (.cells (setRow zeroF) 26)) (Or.inl (Nat.le_refl w.heap.size)) (setRow zeroF))
      go_enter Try.func20, Try.ntmps20
      have hr : Blk (w.alloc (.cells (setRow zeroF) 26)) w.heap.size (setRow zeroF) 26 := Blk.new w _ _
      simp only [setRow, zeroF] at hr
      go_wp2_with (refine wpList_store_row rfl 26 (.tmp 4) (.tmp 27) rfl w.heap.size _ rfl rfl 26 _ hr sizeS1 rfl (by simp [setRow, Value.oneCell']) ?_)
      refine bodyPost_ret (results_ctt Try.results20 _ _ w.heap.size 26 _ (0, 0) _ rfl HR9.out Try.underlying26 rfl sizeS1) rfl ⟨rfl, HK9.out⟩

set_option maxRecDepth 100000 in
set_option maxHeartbeats 1000000 in
theorem brr_arg (s : ByteArray) (a : Int) (h : ¬ (0 ≤ a ∧ s.toList[a.toNat]? = some 91)) (w : World) :
    Calls Try.prog 21 #[.string s, .int .i64 a] w fun e w' => e = .returned (.tuple #[.agg (setRow zeroF), .int .i64 0, .int .i64 1]) ∧ Keep Nb w w' := by
  by_cases h0 : a < 0
  · have g1 : decide (a < 0) = true := by simpa using h0
    clear h h0
    have HR9 := Lib.hid ((Blk.new w _ _ : Blk (w.alloc (.cells (setRow zeroF) 24)) w.heap.size (setRow zeroF) 24).setRow (setRow zeroF))
    have HK9 := Lib.hid (Keep.setRow (X := Nb) (a := w) (Keep.alloc (Keep.refl _ _) (.cells (setRow zeroF) 24)) (Or.inl (Nat.le_refl w.heap.size)) (setRow zeroF))
    go_enter Try.func21, Try.ntmps21
    have hr : Blk (w.alloc (.cells (setRow zeroF) 24)) w.heap.size (setRow zeroF) 24 := Blk.new w _ _
    simp only [setRow, zeroF] at hr
    go_wp2_with (refine wpList_store_row rfl 24 (.tmp 4) (.tmp 27) rfl w.heap.size _ rfl rfl 24 _ hr sizeS2 rfl (by simp [setRow, Value.oneCell']) ?_)
    refine bodyPost_ret (results_ctt Try.results21 _ _ w.heap.size 24 _ (0, 0) _ rfl HR9.out Try.underlying24 rfl sizeS2) rfl ⟨rfl, HK9.out⟩
  · obtain ⟨n, rfl⟩ : ∃ n : Nat, a = (n : Int) := ⟨a.toNat, by omega⟩
    have h1 : ¬ s.toList[n]? = some 91 := fun e => h ⟨by omega, e⟩
    have g1 : decide ((n : Int) < 0) = false := by simp
    have k0 : (0 : Int) ≤ (n : Int) := by omega
    by_cases h2 : s.size ≤ n
    · have g2 : decide ((s.size : Int) ≤ (n : Int)) = true := by simp; omega
      have g3 : decide (s.size ≤ n) = true := by simp; omega
      clear h h0 h1 h2
      have HR9 := Lib.hid ((Blk.new w _ _ : Blk (w.alloc (.cells (setRow zeroF) 24)) w.heap.size (setRow zeroF) 24).setRow (setRow zeroF))
      have HK9 := Lib.hid (Keep.setRow (X := Nb) (a := w) (Keep.alloc (Keep.refl _ _) (.cells (setRow zeroF) 24)) (Or.inl (Nat.le_refl w.heap.size)) (setRow zeroF))
      go_enter Try.func21, Try.ntmps21
      have hr : Blk (w.alloc (.cells (setRow zeroF) 24)) w.heap.size (setRow zeroF) 24 := Blk.new w _ _
      simp only [setRow, zeroF] at hr
      go_wp2_with (refine wpList_store_row rfl 24 (.tmp 4) (.tmp 27) rfl w.heap.size _ rfl rfl 24 _ hr sizeS2 rfl (by simp [setRow, Value.oneCell']) ?_)
      refine bodyPost_ret (results_ctt Try.results21 _ _ w.heap.size 24 _ (0, 0) _ rfl HR9.out Try.underlying24 rfl sizeS2) rfl ⟨rfl, HK9.out⟩
    · have g2 : decide ((s.size : Int) ≤ (n : Int)) = false := by simp; omega
      have g3 : decide (s.size ≤ n) = false := by simp; omega
      have k1 : (n : Int) < (s.size : Int) := by omega
      obtain ⟨c, hc⟩ : ∃ c, s.toList[n]? = some c := ⟨_, List.getElem?_eq_getElem (by rw [toList_len]; omega)⟩
      obtain ⟨b0, e0⟩ := byte_at hc
      have m0 : ((c.toNat : Int) == 91) = false := u8_ne (n := 91) (by omega) (fun e => h1 (by rw [hc, e]; rfl))
      have m1 : ((c.toNat : Int) != 91) = true := by rw [bne, m0]; rfl
      clear h h0 h1 h2 hc
      have HR9 := Lib.hid ((Blk.new w _ _ : Blk (w.alloc (.cells (setRow zeroF) 24)) w.heap.size (setRow zeroF) 24).setRow (setRow zeroF))
      have HK9 := Lib.hid (Keep.setRow (X := Nb) (a := w) (Keep.alloc (Keep.refl _ _) (.cells (setRow zeroF) 24)) (Or.inl (Nat.le_refl w.heap.size)) (setRow zeroF))
      go_enter Try.func21, Try.ntmps21
      have hr : Blk (w.alloc (.cells (setRow zeroF) 24)) w.heap.size (setRow zeroF) 24 := Blk.new w _ _
      simp only [setRow, zeroF] at hr
      go_wp2_with (refine wpList_store_row rfl 24 (.tmp 4) (.tmp 27) rfl w.heap.size _ rfl rfl 24 _ hr sizeS2 rfl (by simp [setRow, Value.oneCell']) ?_)
      refine bodyPost_ret (results_ctt Try.results21 _ _ w.heap.size 24 _ (0, 0) _ rfl HR9.out Try.underlying24 rfl sizeS2) rfl ⟨rfl, HK9.out⟩

theorem parse_t (s : ByteArray) (a : Int) (hz : s.size ≤ 1000000) (w : World) (hm : Laid0 w) :
    Calls Try.prog 20 #[.string s, .int .i64 a] w fun e w' => e = .returned (parseV s.toList a) ∧ Keep Nb w w' := by
  by_cases h : 0 ≤ a ∧ s.toList[a.toNat]? = some 91
  · rw [parseV, if_pos h]
    obtain ⟨h0, hc⟩ := h
    obtain ⟨n, rfl⟩ : ∃ n : Nat, a = (n : Int) := ⟨a.toNat, by omega⟩
    rw [Int.toNat_natCast] at hc ⊢
    unfold parseF
    rw [toList_len]
    cases q1 : preB [94] (s.toList.drop (n + 1)) with
    | true =>
      rw [if_pos rfl]
      cases hf : loopF (s.size + 1) true zeroF (s.toList.drop (n + 2)) (n + 2) with
      | none => exact parse_not_no s n hc q1 hf hz w hm
      | some r => obtain ⟨f, k⟩ := r; exact parse_not_ok s n hc f k q1 hf hz w hm
    | false =>
      rw [if_neg (by simp)]
      cases hf : loopF (s.size + 1) true zeroF (s.toList.drop (n + 1)) (n + 1) with
      | none => exact parse_yes_no s n hc q1 hf hz w hm
      | some r => obtain ⟨f, k⟩ := r; exact parse_yes_ok s n hc f k q1 hf hz w hm
  · rw [parseV, if_neg h]
    exact prs_arg s a h w
theorem bracket_r (s : ByteArray) (a : Int) (hz : s.size ≤ 1000000) (w : World) :
    Calls Try.prog 21 #[.string s, .int .i64 a] w fun e w' => e = .returned (parseV s.toList a) ∧ Keep Nb w w' := by
  by_cases h : 0 ≤ a ∧ s.toList[a.toNat]? = some 91
  · rw [parseV, if_pos h]
    obtain ⟨h0, hc⟩ := h
    obtain ⟨n, rfl⟩ : ∃ n : Nat, a = (n : Int) := ⟨a.toNat, by omega⟩
    rw [Int.toNat_natCast] at hc ⊢
    unfold parseF
    rw [toList_len]
    cases q1 : preB [94] (s.toList.drop (n + 1)) with
    | true => rw [if_pos rfl]; exact br_not s n hc q1 _ rfl hz w
    | false => rw [if_neg (by simp)]; exact br_yes s n hc q1 _ rfl hz w
  · rw [parseV, if_neg h]
    exact brr_arg s a h w

end Go.Proofs.Ytfjipiibkmapkaa
