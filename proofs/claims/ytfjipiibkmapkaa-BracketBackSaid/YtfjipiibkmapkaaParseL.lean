/- How a bracket expression is gone through. -/
import Derived.Test.YtfjipiibkmapkaaMemberJ
import Derived.Test.YtfjipiibkmapkaaParse
namespace Go.Proofs.Ytfjipiibkmapkaa
set_option linter.unusedVariables false
set_option linter.unusedSimpArgs false
open Go.RowKit

theorem loopF_exit {f : Nat} {acc : Nat → Int} {l : List UInt8} {n : Nat} (h : preB [93] l = true) : loopF (f + 1) false acc l n = some (acc, n + 1) := by
  rw [loopF, if_pos ⟨rfl, h⟩]
theorem loopF_none {f : Nat} {b : Bool} {acc : Nat → Int} {l : List UInt8} {n : Nat} (h : b = true ∨ preB [93] l = false) (hm : memberF l = none) : loopF (f + 1) b acc l n = none := by
  rw [loopF, if_neg (by rcases h with h | h <;> simp [h]), hm]
theorem loopF_some {f : Nat} {b : Bool} {acc : Nat → Int} {l : List UInt8} {n : Nat} {t : Nat → Int} {k : Nat} (h : b = true ∨ preB [93] l = false) (hm : memberF l = some (t, k)) : loopF (f + 1) b acc l n = loopF f false (orF acc t) (l.drop k) (n + k) := by
  rw [loopF, if_neg (by rcases h with h | h <;> simp [h]), hm]
theorem go_on {s : ByteArray} {i k fu : Nat} (h : s.size - i < fu + 1 ∧ i ≤ s.size) (hk : 1 ≤ k ∧ k ≤ (s.toList.drop i).length) : s.size - (i + k) < fu ∧ i + k ≤ s.size := by
  rw [List.length_drop, toList_len] at hk
  omega
theorem less_on {s : ByteArray} {i k fu b : Nat} {w w' : World} (hw : w.cell? ⟨b, 1, none⟩ = some (.int .i64 (i : Int))) (hw' : w'.cell? ⟨b, 1, none⟩ = some (.int .i64 ((i + k : Nat) : Int))) (h : s.size - i < fu + 1 ∧ i ≤ s.size) (hk : 1 ≤ k ∧ k ≤ (s.toList.drop i).length) :
    (match w'.cell? ⟨b, 1, none⟩ with | some (.int _ i) => s.size - i.toNat | _ => 0) < (match w.cell? ⟨b, 1, none⟩ with | some (.int _ i) => s.size - i.toNat | _ => 0) := by
  rw [List.length_drop, toList_len] at hk
  rw [hw, hw']
  simp only []
  omega

end Go.Proofs.Ytfjipiibkmapkaa
