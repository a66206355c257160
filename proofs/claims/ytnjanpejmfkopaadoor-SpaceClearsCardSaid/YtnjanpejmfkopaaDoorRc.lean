/- Clear of the reference. Printed by gen_rc.py. -/
import Derived.Test.YtnjanpejmfkopaaDoorCl
namespace Go.Proofs.YtnjanpejmfkopaaDoor
set_option linter.unusedVariables false
set_option linter.unusedSimpArgs false
open Go.RowKit P8

/-- Where the reference stands behind k rounds. -/
def stR (s : ByteArray) (k : Nat) : List UInt8 × Nat := if k ≤ s.size then runC (s.data.toList.take k) else stepC [36] 60 (runC s.data.toList)
theorem stR_len (s : ByteArray) (k : Nat) (h : k ≤ s.size + 1) : (stR s k).1.length ≤ 6 * k ∧ (stR s k).2 ≤ 60 := by
  unfold stR
  split
  · have := runC_len k s.data.toList (by rw [← size_len]; assumption); omega
  · have h1 := runC_len s.data.toList.length s.data.toList (Nat.le_refl _)
    rw [List.take_length] at h1
    have h2 := stepC_len [36] 60 (runC s.data.toList) (by simp)
    rw [size_len] at h
    rename_i h3
    rw [size_len] at h3
    omega

set_option maxHeartbeats 2000000 in
set_option maxRecDepth 100000 in
theorem rclear_any (s : ByteArray) (hs : s.size ≤ 5000) (w : World) :
    Calls Tryd.prog 12 #[.string s] w fun e w' => e = .returned (.string ⟨(clearP s.data.toList).toArray⟩) ∧ Keep Nb w w' := by
  have HS := Lib.hid hs
  have hn0 : s.size + 1 ≤ 9223372036854775807 := by omega
  clear hs
  go_enter Tryd.func12, Tryd.ntmps12
  go_wp2_with fail
  go_loopw [3, 4, 11] (fun o nw i wr => ∃ (k : Nat) (a b : ByteArray), k ≤ s.size + 1 ∧ i = .int .i64 (k : Int) ∧ o = .string a ∧ nw = .string b ∧ Hid (stR s k = (a.data.toList ++ b.data.toList, b.data.toList.length) ∧ Keep Nb w wr)) (fun _ _ i _ => s.size + 1 - (intOf i).toNat)
  case atStart => exact ⟨0, ⟨#[]⟩, ⟨#[]⟩, Nat.zero_le _, rfl, rfl, rfl, Lib.hid ⟨by unfold stR; simp [runC], Keep.refl _ _⟩⟩
  case round =>
    obtain ⟨k, a, b, hk, rfl, rfl, rfl, HR⟩ := hrel
    have hsz : a.size + b.size ≤ 31000 ∧ b.size ≤ 60 := by
      have h1 := stR_len s k hk
      rw [HR.out.1] at h1
      simp only [List.length_append] at h1
      rw [← size_len, ← size_len] at h1
      have := HS.out
      omega
    have n1 : ¬ 9223372036854775807 < a.size + b.size := by omega
    have n2 : ¬ 9223372036854775807 < a.size + b.size + 2 := by omega
    have n3 : ¬ 9223372036854775807 < (a ++ b).size + 2 := by rw [ByteArray.size_append]; omega
    rcases Nat.lt_or_ge k s.size with hlt | hge
    · have hlt2 : k < s.data.toList.length := by rw [← size_len]; exact hlt
      have HST : Hid (stR s (k + 1) = stepC (shP s[k].toNat) 59 (stR s k)) := Lib.hid (by
        unfold stR
        rw [if_pos (by omega), if_pos (by omega), runC_take hlt2]
        rfl)
      have HSH := Lib.hid (sign_any s[k].toNat wr (UInt8.toNat_lt _))
      have hS4 := (shP_len s[k].toNat).1
      rw [HR.out.1] at HST
      generalize shP s[k].toNat = sh at HST HSH hS4
      obtain ⟨S, hS⟩ : ∃ S : ByteArray, S = ⟨sh.toArray⟩ := ⟨_, rfl⟩
      have hSd : S.data.toList = sh := by rw [hS]
      rw [← hS] at HSH
      rw [← hSd] at HST hS4
      rw [← size_len] at hS4
      clear hS hSd
      have n4 : ¬ 9223372036854775807 < b.size + S.size := by omega
      have n5 : ¬ 9223372036854775807 < S.size := by omega
      clear hsz hS4
      have hkz : (k : Int) < (s.size : Int) := by omega
      have hk0 : (0 : Int) ≤ (k : Int) := by omega
      have hk1 : (k : Int) < (s.size : Int) + 1 := by omega
      have m2 : ((k : Int) == (s.size : Int)) = false := by simp; omega
      go_wp2_with fail
      refine HSH.out.mono ?_
      rintro e w2 ⟨rfl, hk2⟩
      have HKX : Hid (Keep Nb w w2) := Lib.hid (HR.out.2.trans hk2 (fun _ _ h => h))
      clear hk2
      by_cases hgt : 59 < b.size + S.size
      · have m3 : decide ((59 : Int) < (b.size : Int) + (S.size : Int)) = true := decide_eq_true (by omega)
        have HE : Hid (stR s (k + 1) = ((a ++ b ++ (⟨#[92, 10]⟩ : ByteArray)).data.toList ++ (⟨#[]⟩ ++ S : ByteArray).data.toList, (⟨#[]⟩ ++ S : ByteArray).data.toList.length)) := Lib.hid (by
          rw [HST.out, add_sz, add_sz, add_sz]
          unfold stepC
          simp only []
          rw [← size_len b, ← size_len S, if_pos hgt]
          simp)
        clear hgt
        go_wp2_with fail
        go_roundw
        case rel => exact ⟨k + 1, _, _, by omega, by go_num, rfl, rfl, Lib.hid ⟨HE.out, HKX.out⟩⟩
        case measure => simp [intOf]; omega
      · have m3 : decide ((59 : Int) < (b.size : Int) + (S.size : Int)) = false := decide_eq_false (by omega)
        have HE : Hid (stR s (k + 1) = (a.data.toList ++ (b ++ S).data.toList, (b ++ S).data.toList.length)) := Lib.hid (by
          rw [HST.out, add_sz]
          unfold stepC
          simp only []
          rw [← size_len b, ← size_len S, if_neg hgt, List.length_append, ← size_len b, ← size_len S, List.append_assoc])
        clear hgt
        go_wp2_with fail
        go_roundw
        case rel => exact ⟨k + 1, _, _, by omega, by go_num, rfl, rfl, Lib.hid ⟨HE.out, HKX.out⟩⟩
        case measure => simp [intOf]; omega
    · rcases Nat.lt_or_ge s.size k with hk3 | hk3
      · obtain rfl : k = s.size + 1 := by omega
        have HCP : Hid (clearP s.data.toList = a.data.toList ++ b.data.toList ++ [10]) := Lib.hid (by
          have h1 := HR.out.1
          unfold stR at h1
          rw [if_neg (by omega)] at h1
          unfold clearP
          rw [h1])
        have n4 : ¬ 9223372036854775807 < a.size + b.size + 1 := by omega
        have n5 : ¬ 9223372036854775807 < (a ++ b).size + 1 := by rw [ByteArray.size_append]; omega
        clear hsz
        go_wp2_with fail
        go_ret
        refine ⟨?_, HR.out.2⟩
        rw [HCP.out]
        exact congrArg (fun z => Ending.returned (Value.string z)) (ba_eq2 (by rw [add_sz, add_sz]))
      · obtain rfl : k = s.size := by omega
        have HST : Hid (stR s (s.size + 1) = stepC [36] 60 (stR s s.size)) := Lib.hid (by
          unfold stR
          rw [if_neg (by omega), if_pos (Nat.le_refl _), show s.data.toList.take s.size = s.data.toList by rw [size_len]; exact List.take_length])
        rw [HR.out.1] at HST
        have n4 : ¬ 9223372036854775807 < b.size + 1 := by omega
        clear hsz
        have hk1 : (s.size : Int) < (s.size : Int) + 1 := by omega
        have HKX : Hid (Keep Nb w wr) := Lib.hid HR.out.2
        by_cases hgt : 60 < b.size + 1
        · have m3 : decide ((60 : Int) < (b.size : Int) + 1) = true := decide_eq_true (by omega)
          have HE : Hid (stR s (s.size + 1) = ((a ++ b ++ (⟨#[92, 10]⟩ : ByteArray)).data.toList ++ [36], [36].length)) := Lib.hid (by
            rw [HST.out, add_sz, add_sz]
            unfold stepC
            simp only []
            rw [← size_len b, if_pos (by simpa using hgt)]
            rfl)
          clear hgt
          go_wp2_with fail
          go_roundw
          case rel => exact ⟨s.size + 1, _, _, by omega, by go_num, rfl, rfl, Lib.hid ⟨HE.out, HKX.out⟩⟩
          case measure => (simp [intOf]; try omega)
        · have m3 : decide ((60 : Int) < (b.size : Int) + 1) = false := decide_eq_false (by omega)
          have HE : Hid (stR s (s.size + 1) = (a.data.toList ++ (b ++ (⟨#[36]⟩ : ByteArray)).data.toList, (b ++ (⟨#[36]⟩ : ByteArray)).data.toList.length)) := Lib.hid (by
            rw [HST.out, add_sz]
            unfold stepC
            simp only []
            rw [← size_len b, if_neg (by simpa using hgt), List.length_append, ← size_len b, List.append_assoc])
          clear hgt
          go_wp2_with fail
          go_roundw
          case rel => exact ⟨s.size + 1, _, _, by omega, by go_num, rfl, rfl, Lib.hid ⟨HE.out, HKX.out⟩⟩
          case measure => (simp [intOf]; try omega)

end Go.Proofs.YtnjanpejmfkopaaDoor
