/- What the reader's member reads: whatever stands there. -/
import Derived.Test.YtfjipiibkmapkaaMemberA
import Derived.Test.YtfjipiibkmapkaaMemberB
import Derived.Test.YtfjipiibkmapkaaMemberC
import Derived.Test.YtfjipiibkmapkaaMemberD
import Derived.Test.YtfjipiibkmapkaaMemberE
import Derived.Test.YtfjipiibkmapkaaMemberF
import Derived.Test.YtfjipiibkmapkaaMemberG
namespace Go.Proofs.Ytfjipiibkmapkaa
set_option linter.unusedVariables false
set_option linter.unusedSimpArgs false
open Go.RowKit

theorem dropdrop (l : List UInt8) (a n : Nat) : (l.drop a).drop n = l.drop (a + n) := by
  rw [List.drop_drop]

theorem signF_single {l : List UInt8} (h1 : preB [91, 58] l = false) (h2 : preB [91, 61] l = false) : signF l = singleF l := by
  unfold signF
  rw [if_neg (by rw [h1, h2]; simp)]

section
variable (p : Nat) (s : ByteArray) (a : Nat)
theorem member_okG (t : Nat → Int) (k : Nat) (hf : memberF (s.toList.drop a) = some (t, k)) (ha : a ≤ s.size) (hz : s.size ≤ 1000000) (hp0 : p ≠ 0) (w : World) (hb : RdAt w p s a) (hm : Laid0 w) :
    Calls Try.prog 27 #[.pointer (some ⟨p, 0, none⟩)] w fun e w' => e = .returned (.tuple #[.agg (setRow t), .bool true]) ∧ RdAt w' p s (a + k) ∧ Keep (Ob p) w w' := by
  unfold memberF at hf
  split at hf
  · rename_i p1
    unfold classF at hf
    rw [dropdrop] at hf
    split at hf
    · cases hf
    · rename_i i hi
      split at hf
      · cases hf
      · rename_i hne
        cases hf
        have h := mg_cls p s a p1 i hi ha hz hp0 w hb hm
        rw [show decide (clsP ((s.toList.drop (a + 2)).take i) ≠ []) = true by simpa using hne] at h
        exact h
  · rename_i p1
    have p1' : preB [91, 58] (s.toList.drop a) = false := by simpa using p1
    split at hf
    · rename_i p2
      obtain ⟨x, hx, hxx⟩ := Option.map_eq_some_iff.1 hf
      cases hxx
      exact mg_eq p s a p1' p2 x hx ha hz hp0 w hb hm
    · rename_i p2
      have p2' : preB [91, 61] (s.toList.drop a) = false := by simpa using p2
      split at hf
      · cases hf
      · rename_i x n hs
        rw [← signF_single p1' p2'] at hs
        unfold rangeF at hf
        rw [dropdrop, dropdrop, List.length_drop, toList_len] at hf
        have hnl := signF_len hs
        rw [List.length_drop, toList_len] at hnl
        split at hf
        · rename_i hc
          obtain ⟨p3, p4, hle⟩ := hc
          have hle' : a + n + 1 < s.size := by omega
          rw [show a + (n + 1) = a + n + 1 by omega] at hf
          split at hf
          · cases hf
          · rename_i y k2 hy
            rw [dropdrop, show a + (n + 1 + k2) = a + n + 1 + k2 by omega] at hf
            split at hf
            · cases hf
            · rename_i hno
              cases hf
              have hxy : x.toNat ≤ y.toNat := by
                rcases Nat.lt_or_ge y.toNat x.toNat with h | h
                · exact absurd (.inl h) hno
                · exact h
              have e : a + (n + 1 + k2) = a + n + 1 + k2 := by omega
              rw [e]
              by_cases p5 : preB [45] (s.toList.drop (a + n + 1)) = true
              · have p6 : preB [93] (s.toList.drop (a + n + 1 + k2)) = true := by
                  by_cases h6 : preB [93] (s.toList.drop (a + n + 1 + k2)) = true
                  · exact h6
                  · exact absurd (.inr ⟨p5, by simpa using h6⟩) hno
                exact mg_r5 p s a p1' p2' x n hs p3 p4 hle' p5 y k2 hy hxy p6 ha hz hp0 w hb hm
              · exact mg_r4 p s a p1' p2' x n hs p3 p4 hle' (by simpa using p5) y k2 hy hxy ha hz hp0 w hb hm
        · rename_i hc
          cases hf
          by_cases p3 : preB [45] (s.toList.drop (a + k)) = true
          · by_cases p4 : preB [45, 93] (s.toList.drop (a + k)) = true
            · exact mg_one2 p s a p1' p2' x k hs p3 p4 ha hz hp0 w hb hm
            · have p4' : preB [45, 93] (s.toList.drop (a + k)) = false := by simpa using p4
              have hle : s.size ≤ a + k + 1 := by
                rcases Nat.lt_or_ge (a + k + 1) s.size with h | h
                · exact absurd ⟨p3, p4', by omega⟩ hc
                · exact h
              exact mg_one3 p s a p1' p2' x k hs p3 p4' hle ha hz hp0 w hb hm
          · exact mg_one1 p s a p1' p2' x k hs (by simpa using p3) ha hz hp0 w hb hm

theorem member_badG (hf : memberF (s.toList.drop a) = none) (ha : a ≤ s.size) (hz : s.size ≤ 1000000) (hp0 : p ≠ 0) (w : World) (hb : RdAt w p s a) (hm : Laid0 w) :
    Calls Try.prog 27 #[.pointer (some ⟨p, 0, none⟩)] w fun e w' => (∃ g, e = .returned (.tuple #[.agg (setRow g), .bool false])) ∧ Keep (Ob p) w w' := by
  unfold memberF at hf
  split at hf
  · rename_i p1
    unfold classF at hf
    rw [dropdrop] at hf
    split at hf
    · rename_i hi
      exact mg_nocls p s a p1 hi ha hz hp0 w hb hm
    · rename_i i hi
      split at hf
      · rename_i hne
        have h := mg_cls p s a p1 i hi ha hz hp0 w hb hm
        rw [show decide (clsP ((s.toList.drop (a + 2)).take i) ≠ []) = false by simpa using hne] at h
        exact h.mono fun e w' ⟨he, _, hk⟩ => ⟨⟨_, he⟩, hk⟩
      · cases hf
  · rename_i p1
    have p1' : preB [91, 58] (s.toList.drop a) = false := by simpa using p1
    split at hf
    · rename_i p2
      exact mg_noeq p s a p1' p2 (by simpa using hf) ha hz hp0 w hb hm
    · rename_i p2
      have p2' : preB [91, 61] (s.toList.drop a) = false := by simpa using p2
      split at hf
      · rename_i hs
        rw [← signF_single p1' p2'] at hs
        exact mg_nosign p s a p1' p2' hs ha hz hp0 w hb hm
      · rename_i x n hs
        rw [← signF_single p1' p2'] at hs
        unfold rangeF at hf
        rw [dropdrop, dropdrop, List.length_drop, toList_len] at hf
        have hnl := signF_len hs
        rw [List.length_drop, toList_len] at hnl
        split at hf
        · rename_i hc
          obtain ⟨p3, p4, hle⟩ := hc
          have hle' : a + n + 1 < s.size := by omega
          rw [show a + (n + 1) = a + n + 1 by omega] at hf
          obtain ⟨d, p5⟩ : ∃ d, preB [45] (s.toList.drop (a + n + 1)) = d := ⟨_, rfl⟩
          split at hf
          · rename_i hy
            exact mg_r1 p s a p1' p2' x n hs p3 p4 hle' d p5 hy ha hz hp0 w hb hm
          · rename_i y k2 hy
            rw [dropdrop, show a + (n + 1 + k2) = a + n + 1 + k2 by omega] at hf
            split at hf
            · rename_i hyes
              by_cases hxy : y.toNat < x.toNat
              · exact mg_r2 p s a p1' p2' x n hs p3 p4 hle' d p5 y k2 hy hxy ha hz hp0 w hb hm
              · rcases hyes with h | ⟨h5, h6⟩
                · exact absurd h hxy
                · exact mg_r3 p s a p1' p2' x n hs p3 p4 hle' h5 y k2 hy (by omega) h6 ha hz hp0 w hb hm
            · cases hf
        · cases hf
end

end Go.Proofs.Ytfjipiibkmapkaa
