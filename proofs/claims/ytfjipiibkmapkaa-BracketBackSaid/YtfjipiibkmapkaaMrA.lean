/- The reference: a member of a bracket expression. -/
import Derived.Test.YtfjipiibkmapkaaMr4
import Derived.Test.YtfjipiibkmapkaaMr5
import Derived.Test.YtfjipiibkmapkaaMr6
import Derived.Test.YtfjipiibkmapkaaMr7
import Derived.Test.YtfjipiibkmapkaaMr8
namespace Go.Proofs.Ytfjipiibkmapkaa
set_option linter.unusedVariables false
set_option linter.unusedSimpArgs false
open Go.RowKit

theorem member_r (s : ByteArray) (a : Nat) (ha : a ≤ s.size) (hz : s.size ≤ 1000000) (w : World) :
    Calls Try.prog 29 #[.string s, .int .i64 (a : Int)] w fun e w' => MemR (memberF (s.toList.drop a)) a e ∧ Keep Nb w w' := by
  cases p1 : preB [91, 58] (s.toList.drop a) with
  | true => exact mr_cls s a ha hz p1 w
  | false =>
    cases p2 : preB [91, 61] (s.toList.drop a) with
    | true => exact mr_eq s a ha hz p2 w
    | false =>
      by_cases h2 : a + 2 ≤ s.size
      · obtain ⟨c0, hc0⟩ : ∃ c, s.toList[a]? = some c := ⟨_, List.getElem?_eq_getElem (by rw [toList_len]; omega)⟩
        by_cases hk : c0 = 91
        · subst hk
          cases hS : singleF (s.toList.drop a) with
          | none => exact mr_none3 s a ha hz p1 p2 h2 hc0 hS w
          | some xn =>
            obtain ⟨x, n⟩ := xn
            cases hR : rangeB s.toList (a + n) with
            | false => exact mr_one3 s a ha hz p1 p2 h2 hc0 x n _ hS rfl hR w
            | true =>
              cases hT : singleF (s.toList.drop (a + n + 1)) with
              | none => exact mr_rnone3 s a ha hz p1 p2 h2 hc0 x n _ hS rfl hR hT w
              | some yk =>
                obtain ⟨y, k⟩ := yk
                by_cases h3 : s.size < a + n + 3
                · exact mr_rngA3 s a ha hz p1 p2 h2 hc0 x n _ hS rfl hR y k _ hT rfl h3 w
                · by_cases h1 : s.toList[a + n + 1]? = some 91
                  · exact mr_rngB3 s a ha hz p1 p2 h2 hc0 x n _ hS rfl hR y k _ hT rfl ⟨by omega, h1⟩ w
                  · exact mr_rngC3 s a ha hz p1 p2 h2 hc0 x n _ hS rfl hR y k _ hT rfl ⟨by omega, h1⟩ w
        · cases hS : singleF (s.toList.drop a) with
          | none => exact mr_none2 s a ha hz p1 p2 h2 c0 hc0 hk hS w
          | some xn =>
            obtain ⟨x, n⟩ := xn
            cases hR : rangeB s.toList (a + n) with
            | false => exact mr_one2 s a ha hz p1 p2 h2 c0 hc0 hk x n _ hS rfl hR w
            | true =>
              cases hT : singleF (s.toList.drop (a + n + 1)) with
              | none => exact mr_rnone2 s a ha hz p1 p2 h2 c0 hc0 hk x n _ hS rfl hR hT w
              | some yk =>
                obtain ⟨y, k⟩ := yk
                by_cases h3 : s.size < a + n + 3
                · exact mr_rngA2 s a ha hz p1 p2 h2 c0 hc0 hk x n _ hS rfl hR y k _ hT rfl h3 w
                · by_cases h1 : s.toList[a + n + 1]? = some 91
                  · exact mr_rngB2 s a ha hz p1 p2 h2 c0 hc0 hk x n _ hS rfl hR y k _ hT rfl ⟨by omega, h1⟩ w
                  · exact mr_rngC2 s a ha hz p1 p2 h2 c0 hc0 hk x n _ hS rfl hR y k _ hT rfl ⟨by omega, h1⟩ w
      · cases hS : singleF (s.toList.drop a) with
        | none =>
          exact mr_none1 s a ha hz p1 p2 (by omega) hS w
        | some xn =>
          obtain ⟨x, n⟩ := xn
          have hl := singleF_len hS
          rw [List.length_drop, toList_len] at hl
          have hR : rangeB s.toList (a + n) = false := by
            cases hr : rangeB s.toList (a + n) with
            | false => rfl
            | true => have := (range_get hr).2; rw [toList_len] at this; omega
          exact mr_one1 s a ha hz p1 p2 (by omega) x n _ hS rfl hR w

end Go.Proofs.Ytfjipiibkmapkaa
