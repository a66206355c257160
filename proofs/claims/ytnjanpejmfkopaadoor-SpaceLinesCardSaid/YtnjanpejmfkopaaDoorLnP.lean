/- The plain law of a text's lines: each ended by a line feed they are the text, ended by one. -/
import Derived.Test.YtnjanpejmfkopaaDoorAw
namespace Go.Proofs.YtnjanpejmfkopaaDoor
set_option linter.unusedVariables false
set_option linter.unusedSimpArgs false
open Go.RowKit P8

def flatL (ls : List ByteArray) : List UInt8 := ls.flatMap fun l => l.data.toList ++ [10]
theorem flatL_take {ls : List ByteArray} {k : Nat} (h : k < ls.length) : flatL (ls.take (k + 1)) = flatL (ls.take k) ++ (ls[k].data.toList ++ [10]) := by
  unfold flatL; rw [List.take_succ_eq_append_getElem h, List.flatMap_append]; simp
theorem flatL_take_le (ls : List ByteArray) (k : Nat) : (flatL (ls.take k)).length ≤ (flatL ls).length := by
  have : flatL ls = flatL (ls.take k) ++ flatL (ls.drop k) := by unfold flatL; rw [← List.flatMap_append, List.take_append_drop]
  rw [this, List.length_append]; omega

theorem splitK_flat : ∀ (k : Nat) (l : List UInt8), (Lib.splitK [10] 0 k l).flatMap (fun x => x ++ [10]) = l ++ [10]
  | 0, l => by simp [Lib.splitK]
  | k + 1, l => by
    rcases Lib.index_spec l [10] with ⟨h, _⟩ | ⟨i, h, hi, ho, _⟩
    · unfold Lib.splitK; rw [h]; simp
    · have e : ¬ ((i : Int) == -1) = true := by simp
      unfold Lib.splitK
      rw [h, if_neg e]
      simp only [List.flatMap_cons, splitK_flat k, Int.toNat_natCast, Nat.add_zero, List.length_cons, List.length_nil]
      have hd : ∃ r, l.drop i = 10 :: r := by
        unfold Lib.occAt at ho
        rw [List.isPrefixOf_iff_prefix] at ho
        obtain ⟨t, ht⟩ := ho
        exact ⟨t, ht.symm⟩
      obtain ⟨r, hr⟩ := hd
      have e2 : l.drop (i + (0 + 1)) = r := by
        rw [← List.drop_drop, hr]; rfl
      rw [e2]
      conv => rhs; rw [← List.take_append_drop i l, hr]
      simp

/-- A text, ended by a line feed. -/
def endedL (l : List UInt8) : List UInt8 := if l = [] then [] else if l.getLast? = some 10 then l else l ++ [10]

theorem lines_flat (s : ByteArray) : flatL (linesP s) = endedL s.data.toList := by
  unfold linesP endedL
  by_cases h0 : s.size = 0
  · have e : s.data.toList = [] := by rw [← ByteArray.size_data, ← Array.length_toList] at h0; exact List.length_eq_zero_iff.1 h0
    rw [if_pos h0, if_pos e]; rfl
  · have e : s.data.toList ≠ [] := by
      intro e; rw [← ByteArray.size_data, ← Array.length_toList, e] at h0; exact h0 rfl
    rw [if_neg h0, if_neg e]
    have h1 : flatL (Lib.splitB ⟨#[10]⟩ 0 (Lib.countB (trimL s) ⟨#[10]⟩) (trimL s)) = (trimL s).data.toList ++ [10] := by
      have := splitK_flat (Lib.countB (trimL s) ⟨#[10]⟩) (trimL s).data.toList
      rw [← this, ← show (⟨#[10]⟩ : ByteArray).data.toList = [10] from rfl, ← Lib.splitB_data, List.flatMap_map]
      rfl
    rw [h1]
    show (Lib.trimSuffix s.data.toList [10]).toArray.toList ++ [10] = _
    rw [List.toList_toArray]
    unfold Lib.trimSuffix Lib.hasSuffix
    generalize s.data.toList = l at e
    obtain ⟨t, c, rfl⟩ : ∃ t c, l = t ++ [c] := ⟨l.dropLast, l.getLast e, (List.dropLast_concat_getLast e).symm⟩
    have hsx : ([10].isSuffixOf (t ++ [c])) = (c == 10) := by
      rw [Bool.eq_iff_iff, List.isSuffixOf_iff_suffix, beq_iff_eq]
      constructor
      · rintro ⟨u, hu⟩
        have := congrArg List.getLast? hu
        simpa using this.symm
      · rintro rfl; exact ⟨t, rfl⟩
    rw [hsx]
    by_cases hc : c = 10
    · subst hc; simp
    · have : (c == 10) = false := by simpa using hc
      rw [this]
      simp [hc]

end Go.Proofs.YtnjanpejmfkopaaDoor
