/- How long a bracket expression is: plain, and of the program. -/
import Derived.Test.YtilnccjdbdcklaaDoorRl
import Derived.Test.YtilnccjdbdcklaaDoorShl
import Derived.Test.YtilnccjdbdcklaaDoorDig
namespace Go.Proofs.YtilnccjdbdcklaaDoor
set_option linter.unusedVariables false
set_option linter.unusedSimpArgs false
open Go.RowKit

def lnP (l : List UInt8) : List UInt8 := l.takeWhile (· != 10)
def dts : List UInt8 := [46, 61, 58]
def brkF (L : List UInt8) : Nat → Nat → Bool → Nat
  | 0, _, _ => L.length
  | n + 1, k, f =>
    if k < L.length then
      if L.getD k 0 = 93 ∧ f = false then k + 1
      else if L.getD k 0 = 91 ∧ k + 1 < L.length ∧ dts.contains (L.getD (k + 1) 0) = true then
        (if Lib.index (L.drop (k + 2)) [L.getD (k + 1) 0, 93] < 0 then L.length else brkF L n (k + (Lib.index (L.drop (k + 2)) [L.getD (k + 1) 0, 93]).toNat + 4) false)
      else brkF L n (k + 1) false
    else L.length
def brk (L : List UInt8) : Nat := brkF L L.length (if Lib.hasPrefix (L.drop 1) [94] then 2 else 1) true

theorem cut_line : ∀ l : List UInt8, (Lib.cut l [10]).1 = lnP l
  | [] => rfl
  | b :: l => by
    have ih := cut_line l
    unfold lnP at ih ⊢
    unfold Lib.cut at ih ⊢
    rw [List.takeWhile_cons, Lib.index]
    have hp : [10].isPrefixOf (b :: l) = ((10 : UInt8) == b) := by simp [List.isPrefixOf]
    rw [hp]
    by_cases hb : b = 10
    · subst hb; simp
    · have h1 : ((10 : UInt8) == b) = false := beq_eq_false_iff_ne.2 (fun e => hb e.symm)
      have h2 : (b != 10) = true := bne_iff_ne.2 hb
      rw [h1, h2]
      simp only [Bool.false_eq_true, if_false, if_true]
      have hge := Lib.index_ge l [10]
      by_cases hi : Lib.index l [10] = -1
      · rw [hi] at ih ⊢
        simp at ih ⊢
        rw [← ih]
      · have e : (Lib.index l [10] == -1) = false := beq_eq_false_iff_ne.2 hi
        rw [e]
        have h0 : 0 ≤ Lib.index l [10] := by omega
        simp only [Bool.false_eq_true, if_false, if_pos h0] at ih ⊢
        rw [if_pos (by omega), ← ih]
        have e2 : (Lib.index l [10] + 1).toNat = (Lib.index l [10]).toNat + 1 := by omega
        rw [e2, List.take_succ_cons]
theorem lnP_self {l : List UInt8} (h : ∀ c ∈ l, c ≠ 10) : lnP l = l := by
  induction l with
  | nil => rfl
  | cons b l ih =>
    unfold lnP at ih ⊢
    rw [List.takeWhile_cons, if_pos (bne_iff_ne.2 (h b (by simp))), ih (fun c hc => h c (by simp [hc]))]
theorem lnP_no (l : List UInt8) : ∀ c ∈ lnP l, c ≠ 10 := by
  intro c hc
  have := List.all_takeWhile (l := l) (p := (· != (10 : UInt8)))
  have h2 := List.all_eq_true.1 this c hc
  simpa using h2

/-- closing: of a line from the [ on. -/
theorem closing_t (Z : ByteArray) (c : UInt8) (w : World) (hm : Laid0 w) (hz : Z.size ≤ 1000000) (h2 : 2 ≤ Z.size) (hc : Z[1] = c) (hno : ∀ x ∈ Z.data.toList, x ≠ 10) :
    Calls Tryd.prog 59 #[.string Z] w fun e w' => Keep Nb w w' ∧ (Lib.index (Z.data.toList.drop 2) [c, 93] < 0 → e = .returned (.int .i64 (-1))) ∧
      (¬ Lib.index (Z.data.toList.drop 2) [c, 93] < 0 → e = .returned (.int .i64 (Lib.index (Z.data.toList.drop 2) [c, 93] + 4))) := by
  have e1 : (Z.extract 2 Z.size).data.toList = Z.data.toList.drop 2 := Lib.extract_to_end Z 2
  have hno2 : ∀ x ∈ Z.data.toList.drop 2, x ≠ 10 := fun x hx => hno x (List.mem_of_mem_drop hx)
  have h4 := cut_t (Z.extract 2 Z.size) ⟨#[10]⟩ w (by rw [ByteArray.size_extract]; omega) hm
  have e2 : (Lib.cut (Z.extract 2 Z.size).data.toList (⟨#[10]⟩ : ByteArray).data.toList).1 = Z.data.toList.drop 2 := by
    rw [e1]; show (Lib.cut _ [10]).1 = _
    rw [cut_line, lnP_self hno2]
  rw [e2] at h4
  obtain ⟨Y, hY⟩ : ∃ Y : ByteArray, Y = ⟨(Z.data.toList.drop 2).toArray⟩ := ⟨_, rfl⟩
  have hYl : Y.data.toList = Z.data.toList.drop 2 := by rw [hY]
  have hYs : Y.size ≤ 1000000 := by
    have : Y.data.toList.length ≤ Z.data.toList.length := by rw [hYl, List.length_drop]; omega
    rw [Array.length_toList, Array.length_toList] at this
    exact Nat.le_trans this hz
  rw [← hY] at h4
  have HC := Lib.hid h4
  have hsub : Z.extract 1 2 ++ ⟨#[93]⟩ = (⟨#[c, 93]⟩ : ByteArray) := by
    refine ba_eq3 ?_
    rw [add_sz3]
    have e3 : (Z.extract 1 2).data.toList = [c] := by
      rw [ByteArray.data_extract, Array.toList_extract, List.extract_eq_take_drop]
      have hl : 1 < Z.data.toList.length := by rw [Array.length_toList]; show 1 < Z.size; omega
      rw [List.drop_eq_getElem_cons hl]
      have : Z.data.toList[1] = c := by rw [← hc]; rfl
      rw [this]
      rfl
    rw [e3]; rfl
  have HI := Lib.hid (fun wx hx => index_t Y ⟨#[c, 93]⟩ wx (by omega) hx)
  simp only [show (⟨#[c, 93]⟩ : ByteArray).data.toList = [c, 93] from rfl, hYl] at HI
  have hge := Lib.index_ge (Z.data.toList.drop 2) [c, 93]
  have hle := Lib.index_le (Z.data.toList.drop 2) [c, 93]
  have hlen : (Z.data.toList.drop 2).length ≤ 1000000 := by rw [List.length_drop, Array.length_toList]; exact Nat.le_trans (Nat.sub_le _ _) hz
  generalize Lib.index (Z.data.toList.drop 2) [c, 93] = v at HI hge hle ⊢
  have hv1 : v ≤ 1000000 := by omega
  have hb1 : (2 : Int) ≤ (Z.size : Int) := by omega
  have hs1 : (Z.extract 1 2).size = 1 := by rw [ByteArray.size_extract]; omega
  have n1 : ¬ 9223372036854775807 < (Z.extract 1 2).size + 1 := by omega
  have HM := Lib.hid hm
  clear h4 e1 e2 hno hno2 hY hYl hm hc hYs hlen
  go_enter Tryd.func59, Tryd.ntmps59
  go_wp2_with fail
  refine HC.out.mono ?_
  rintro e w2 ⟨rfl, hk2⟩
  have HK2 := Lib.hid hk2
  have HI2 := Lib.hid (HI.out w2 (HM.out.keep hk2 id))
  clear hk2
  by_cases hv : v < 0
  · have m1 : decide (v < 0) = true := decide_eq_true hv
    have HV := Lib.hid hv
    clear hv
    go_wp2_with fail
    refine HI2.out.mono ?_
    rintro e w3 ⟨rfl, rfl⟩
    go_wp2_with fail
    go_ret
    exact ⟨HK2.out, fun _ => rfl, fun h => absurd HV.out (by omega)⟩
  · have m1 : decide (v < 0) = false := decide_eq_false hv
    have HV := Lib.hid hv
    have hv0 : 0 ≤ v := by omega
    have hv9 : v + 4 ≤ 9223372036854775807 := by omega
    clear hv
    go_wp2_with fail
    refine HI2.out.mono ?_
    rintro e w3 ⟨rfl, rfl⟩
    go_wp2_with fail
    go_ret
    exact ⟨HK2.out, fun h => absurd h (by have := HV.out; omega), by first | rfl | exact fun _ => rfl⟩

end Go.Proofs.YtilnccjdbdcklaaDoor
