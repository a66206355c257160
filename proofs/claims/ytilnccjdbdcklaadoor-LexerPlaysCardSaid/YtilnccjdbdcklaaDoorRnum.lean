/- The reference's Number. -/
import Derived.Test.YtilnccjdbdcklaaDoorRl
namespace Go.Proofs.YtilnccjdbdcklaaDoor
set_option linter.unusedVariables false
set_option linter.unusedSimpArgs false
open Go.RowKit

theorem digit_any (c : UInt8) (w : World) : Calls Tryd.prog 37 #[.int .u8 c.toNat] w fun e w' => e = .returned (.bool (digs.contains c)) ∧ w' = w := by
  have hd := digs_iff c
  by_cases h1 : 48 ≤ c.toNat
  · have m1 : decide ((48 : Int) ≤ (c.toNat : Int)) = true := decide_eq_true (by omega)
    by_cases h2 : c.toNat ≤ 57
    · have m2 : decide ((c.toNat : Int) ≤ 57) = true := decide_eq_true (by omega)
      rw [hd.2 ⟨h1, h2⟩]
      clear hd h1 h2
      go_enter Tryd.func37, Tryd.ntmps37
      go_wp2_with fail
      go_ret
      exact ⟨rfl, rfl⟩
    · have m2 : decide ((c.toNat : Int) ≤ 57) = false := decide_eq_false (by omega)
      have e : digs.contains c = false := Bool.eq_false_iff.2 (fun h => h2 (hd.1 h).2)
      rw [e]
      clear hd h1 h2 e
      go_enter Tryd.func37, Tryd.ntmps37
      go_wp2_with fail
      go_ret
      exact ⟨rfl, rfl⟩
  · have m1 : decide ((48 : Int) ≤ (c.toNat : Int)) = false := decide_eq_false (by omega)
    have e : digs.contains c = false := Bool.eq_false_iff.2 (fun h => h1 (hd.1 h).1)
    rw [e]
    clear hd h1 e
    go_enter Tryd.func37, Tryd.ntmps37
    go_wp2_with fail
    go_ret
    exact ⟨rfl, rfl⟩

set_option maxHeartbeats 4000000 in
set_option maxRecDepth 100000 in
theorem rnumber_any (q : Nat) (s : ByteArray) (a : Nat) (w : World) (hb : RAt w q s a) (ha : a ≤ s.size) (hz : s.size ≤ 1000000) :
    Calls Tryd.prog 23 #[.pointer (some ⟨q, 0, none⟩)] w fun e w' => Keep (Ob q) w w' ∧
      (1000000000 < valD (dgP (s.toList.drop a)) → e = .returned (.tuple #[.int .i64 0, .bool false]) ∧ RAt w' q s a) ∧
      (valD (dgP (s.toList.drop a)) ≤ 1000000000 → e = .returned (.tuple #[.int .i64 (valD (dgP (s.toList.drop a)) : Nat), .bool (decide (0 < (dgP (s.toList.drop a)).length))]) ∧ RAt w' q s (a + (dgP (s.toList.drop a)).length)) := by
  have HAT : Hid (∀ k (h : k < (dgP (s.toList.drop a)).length), ∃ hk : a + k < s.size, s[a + k] = (dgP (s.toList.drop a))[k] ∧ digs.contains s[a + k] = true) := Lib.hid (fun k h => by
    obtain ⟨h1, h2⟩ := tw_at _ _ _ h
    obtain ⟨h3, h4⟩ := drop_at s a k h1
    refine ⟨h3, ?_, by rw [← h4]; exact h2⟩
    rw [← h4]
    exact ((List.takeWhile_prefix _).getElem h).symm)
  have HEND : Hid (∀ h : a + (dgP (s.toList.drop a)).length < s.size, digs.contains s[a + (dgP (s.toList.drop a)).length] = false) := Lib.hid (fun h => by
    have h1 : (dgP (s.toList.drop a)).length < (s.toList.drop a).length := by rw [List.length_drop, toList_len]; omega
    have h2 := tw_end (digs.contains ·) (s.toList.drop a) h1
    obtain ⟨h3, h4⟩ := drop_at s a (dgP (s.toList.drop a)).length h1
    rw [← h4]; exact h2)
  have hle : a + (dgP (s.toList.drop a)).length ≤ s.size := by
    have := tw_le (digs.contains ·) (s.toList.drop a)
    rw [List.length_drop, toList_len] at this
    unfold dgP; omega
  generalize dgP (s.toList.drop a) = d at HAT HEND hle ⊢
  have hb0 := hb.drew
  have c0 := hb.cell 0 (u := .string s) rfl
  have c1 := hb.cell 1 (u := .int .i64 (a : Int)) rfl
  have lq := hb.lt
  have HB := Lib.hid hb
  clear hb hb0
  go_enter Tryd.func23, Tryd.ntmps23
  go_wp2_with fail
  refine wp_region_x (by kernel_rfl) (by kernel_rfl) ?_; (repeat (go_big_quiet_step ((fail)))); refine wpQuiet_nil ?_; rintro w3 ⟨⟨_, hk3⟩, rfl⟩
  have HB3 := Lib.hid (HB.out.keep hk3 id)
  have HK3 := Lib.hid hk3
  clear hk3 c0 c1 lq
  have hd1 : a + d.length ≤ 1000000 := by omega
  go_wp2_with fail
  go_loopw [4, 5] (fun n i wr => ∃ k : Nat, k ≤ d.length ∧ i = .int .i64 ((a + k : Nat) : Int) ∧ n = .int .i64 ((min (valD (d.take k)) 1000000001 : Nat) : Int) ∧ wr = w3) (fun _ i _ => a + d.length - (intOf i).toNat)
  case atStart => exact ⟨0, Nat.zero_le _, rfl, rfl, rfl⟩
  case round =>
    obtain ⟨k, hk, rfl, rfl, rfl⟩ := hrel
    have c0 := HB3.out.cell 0 (u := .string s) rfl
    have c1 := HB3.out.cell 1 (u := .int .i64 (a : Int)) rfl
    have f1 := HB3.out.frozen 1
    have lq := HB3.out.lt
    rcases Nat.lt_or_ge k d.length with hlt | hge
    · obtain ⟨hk1, hk2, hk4⟩ := HAT.out k hlt
      have HDI := Lib.hid (digit_any s[a + k] wr)
      rw [hk4] at HDI
      have hdg := (digs_iff _).1 hk4
      have HST := Lib.hid (valD_take hlt)
      rw [← hk2] at HST
      clear hk2 hk4
      generalize ej : a + k = j at *
      have HEJ := Lib.hid ej
      clear ej
      have hkz : (j : Int) < (s.size : Int) := by omega
      have hk0 : (0 : Int) ≤ (j : Int) := by omega
      have hc1 : (48 : Int) ≤ (s[j].toNat : Int) := by omega
      have hc2 : (s[j].toNat : Int) ≤ 57 := by omega
      have hj1 : j ≤ 1000000 := by omega
      obtain ⟨n, hn⟩ : ∃ n, n = min (valD (d.take k)) 1000000001 := ⟨_, rfl⟩
      have hn1 : n ≤ 1000000001 := by omega
      have HN2 : Hid (min (valD (d.take (k + 1))) 1000000001 = min (10 * n + (s[j].toNat - 48)) 1000000001) := Lib.hid (by rw [HST.out, hn]; omega)
      rw [← hn]
      clear hn HST
      have HN3 : Hid (((min (valD (d.take (k + 1))) 1000000001 : Nat) : Int) = min (10 * (n : Int) + ((s[j].toNat : Int) - 48)) 1000000001) := Lib.hid (by rw [HN2.out]; omega)
      go_wp2_with fail
      refine HDI.out.mono ?_
      rintro e w4 ⟨rfl, rfl⟩
      go_wp2_with fail
      go_roundw
      case rel => exact ⟨k + 1, by omega, by rw [show ((a + (k + 1) : Nat) : Int) = (j : Int) + 1 by have := HEJ.out; omega], by rw [HN3.out], by simp⟩
      case measure => (have := HEJ.out; simp [intOf]; omega)
    · obtain rfl : k = d.length := by omega
      have e0 : d.take d.length = d := List.take_length
      rw [e0]
      obtain ⟨n, hn⟩ : ∃ n, n = min (valD d) 1000000001 := ⟨_, rfl⟩
      rw [← hn]
      have HNV := Lib.hid hn
      have HK4 := Lib.hid HK3.out
      clear hn e0 HAT
      generalize ej : a + d.length = j at *
      have HEJ := Lib.hid ej
      clear ej
      have hle2 : j ≤ s.size := by have := HEJ.out; omega
      have HEN2 : Hid (∀ h : j < s.size, digs.contains s[j] = false) := Lib.hid (by
        have h1 := HEND.out
        have h2 := HEJ.out
        subst h2
        exact h1)
      have HDD := Lib.hid (fun (h : j < s.size) wx => digit_any s[j] wx)
      have HV0 : Hid (d.length = 0 → valD d = 0) := Lib.hid (fun h => by rw [List.length_eq_zero_iff.1 h]; rfl)
      have HSET := Lib.hid (Blk.set HB3.out 1 (.int .i64 (j : Int)))
      have HSK := Lib.hid (Keep.setOb wr q 1 (.int .i64 (j : Int)))
      clear HEND hle
      by_cases hA : d.length = 0
      · have m1 : ((j : Int) == (a : Int)) = true := beq_iff_eq.2 (by have := HEJ.out; omega)
        have hv := HV0.out hA
        have HRES : Hid (valD d = 0 ∧ d.length = 0) := Lib.hid ⟨hv, hA⟩
        clear hA hv
        by_cases hj : j < s.size
        · have HDJ := Lib.hid (HDD.out hj wr)
          rw [HEN2.out hj] at HDJ
          have hkz : (j : Int) < (s.size : Int) := by omega
          have hk0 : (0 : Int) ≤ (j : Int) := by omega
          go_wp2_with fail
          refine HDJ.out.mono ?_
          rintro e w4 ⟨rfl, rfl⟩
          go_wp2_with fail
          go_ret2
          exact ⟨HK3.out.ob, fun h => by rw [HRES.out.1] at h; omega, fun _ => ⟨by rw [HRES.out.1, HRES.out.2]; rfl, by rw [HRES.out.2]; exact HB3.out⟩⟩
        · have hkz : ¬ (j : Int) < (s.size : Int) := by omega
          go_wp2_with fail
          go_ret2
          exact ⟨HK3.out.ob, fun h => by rw [HRES.out.1] at h; omega, fun _ => ⟨by rw [HRES.out.1, HRES.out.2]; rfl, by rw [HRES.out.2]; exact HB3.out⟩⟩
      · have m1 : ((j : Int) == (a : Int)) = false := beq_eq_false_iff_ne.2 (by have := HEJ.out; omega)
        by_cases hbig : 1000000000 < valD d
        · have m2 : decide ((1000000000 : Int) < (n : Int)) = true := decide_eq_true (by have := HNV.out; omega)
          have m3 : decide (1000000000 < n) = true := decide_eq_true (by have := HNV.out; omega)
          have HBG := Lib.hid hbig
          clear hA hbig
          by_cases hj : j < s.size
          · have HDJ := Lib.hid (HDD.out hj wr)
            rw [HEN2.out hj] at HDJ
            have hkz : (j : Int) < (s.size : Int) := by omega
            have hk0 : (0 : Int) ≤ (j : Int) := by omega
            go_wp2_with fail
            refine HDJ.out.mono ?_
            rintro e w4 ⟨rfl, rfl⟩
            go_wp2_with fail
            go_ret2
            exact ⟨HK3.out.ob, fun _ => ⟨rfl, HB3.out⟩, fun h => absurd HBG.out (by omega)⟩
          · have hkz : ¬ (j : Int) < (s.size : Int) := by omega
            go_wp2_with fail
            go_ret2
            exact ⟨HK3.out.ob, fun _ => ⟨rfl, HB3.out⟩, fun h => absurd HBG.out (by omega)⟩
        · have m2 : decide ((1000000000 : Int) < (n : Int)) = false := decide_eq_false (by have := HNV.out; omega)
          have m3 : decide (1000000000 < n) = false := decide_eq_false (by have := HNV.out; omega)
          have HSM : Hid (valD d ≤ 1000000000 ∧ n = valD d ∧ decide (0 < d.length) = true) := Lib.hid ⟨by omega, by have := HNV.out; omega, decide_eq_true (by omega)⟩
          clear hA hbig
          by_cases hj : j < s.size
          · have HDJ := Lib.hid (HDD.out hj wr)
            rw [HEN2.out hj] at HDJ
            have hkz : (j : Int) < (s.size : Int) := by omega
            have hk0 : (0 : Int) ≤ (j : Int) := by omega
            go_wp2_with fail
            refine HDJ.out.mono ?_
            rintro e w4 ⟨rfl, rfl⟩
            go_wp2_with fail
            go_ret2
            exact ⟨HK3.out.ob.trans HSK.out (fun _ _ h => h), fun h => absurd HSM.out.1 (by omega), fun _ => ⟨by rw [← HSM.out.2.1, HSM.out.2.2]; rfl, by rw [HEJ.out]; exact HSET.out⟩⟩
          · have hkz : ¬ (j : Int) < (s.size : Int) := by omega
            go_wp2_with fail
            go_ret2
            exact ⟨HK3.out.ob.trans HSK.out (fun _ _ h => h), fun h => absurd HSM.out.1 (by omega), fun _ => ⟨by rw [← HSM.out.2.1, HSM.out.2.2]; rfl, by rw [HEJ.out]; exact HSET.out⟩⟩

end Go.Proofs.YtilnccjdbdcklaaDoor
