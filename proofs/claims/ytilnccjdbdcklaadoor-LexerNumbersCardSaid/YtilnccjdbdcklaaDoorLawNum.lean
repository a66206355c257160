/- LexerNumbers: a number's digits, with any noughts ahead, are read as it. -/
import Derived.Test.YtilnccjdbdcklaaDoorNum
import Derived.Test.YtilnccjdbdcklaaDoorAwake
namespace Go.Proofs.YtilnccjdbdcklaaDoor
set_option linter.unusedVariables false
set_option linter.unusedSimpArgs false
open Go.RowKit

theorem digF_val : ∀ (k n : Nat), n < 10 ^ (k + 1) → valD (digF k n) = n
  | 0, n, h => by
    unfold digF valD
    have : n < 10 := by simpa using h
    simp only [List.foldl_cons, List.foldl_nil]
    rw [UInt8.toNat_ofNat_of_lt' (by have : UInt8.size = 256 := rfl; omega)]; omega
  | k + 1, n, h => by
    unfold digF
    split
    · unfold valD
      simp only [List.foldl_cons, List.foldl_nil]
      rw [UInt8.toNat_ofNat_of_lt' (by have : UInt8.size = 256 := rfl; omega)]; omega
    · have ih := digF_val k (n / 10) (by rw [Nat.pow_succ] at h; exact Nat.div_lt_of_lt_mul (by omega))
      unfold valD at ih ⊢
      rw [List.foldl_append, ih]
      simp only [List.foldl_cons, List.foldl_nil]
      rw [UInt8.toNat_ofNat_of_lt' (by have : UInt8.size = 256 := rfl; omega)]; omega
theorem digF_all : ∀ (k n : Nat), ∀ c ∈ digF k n, digs.contains c = true
  | 0, n, c, h => by
    unfold digF at h
    simp only [List.mem_cons, List.mem_nil_iff, or_false] at h
    subst h
    rw [digs_iff, UInt8.toNat_ofNat_of_lt' (by have : UInt8.size = 256 := rfl; omega)]; omega
  | k + 1, n, c, h => by
    unfold digF at h
    split at h
    · simp only [List.mem_cons, List.mem_nil_iff, or_false] at h
      subst h
      rw [digs_iff, UInt8.toNat_ofNat_of_lt' (by have : UInt8.size = 256 := rfl; omega)]; omega
    · rcases List.mem_append.1 h with h | h
      · exact digF_all k (n / 10) c h
      · simp only [List.mem_cons, List.mem_nil_iff, or_false] at h
        subst h
        rw [digs_iff, UInt8.toNat_ofNat_of_lt' (by have : UInt8.size = 256 := rfl; omega)]; omega
theorem digF_pos : ∀ k n, 0 < (digF k n).length
  | 0, n => by simp [digF]
  | k + 1, n => by
    unfold digF
    split
    · simp
    · simp only [List.length_append, List.length_cons, List.length_nil]; omega
theorem valD_zeros : ∀ (m : Nat) (l : List UInt8), valD (List.replicate m 48 ++ l) = valD l
  | 0, l => by simp
  | m + 1, l => by
    have := valD_zeros m l
    unfold valD at this ⊢
    rw [List.replicate_succ, List.cons_append, List.foldl_cons]
    exact this
theorem dgP_all : ∀ (A B : List UInt8), (∀ c ∈ A, digs.contains c = true) → (∀ c, B.head? = some c → digs.contains c = false) → dgP (A ++ B) = A
  | [], [], _, _ => rfl
  | [], c :: B, _, h => by
    have := h c rfl
    unfold dgP
    rw [List.nil_append, List.takeWhile_cons, this]
    rfl
  | a :: A, B, hA, hB => by
    have h1 := hA a (by simp)
    have ih := dgP_all A B (fun c hc => hA c (by simp [hc])) hB
    unfold dgP at ih ⊢
    rw [List.cons_append, List.takeWhile_cons, if_pos h1, ih]

set_option maxHeartbeats 1000000 in
set_option maxRecDepth 100000 in
theorem num_awake (n : Int) (b : UInt8) (s : ByteArray) (w : World) (h : n < 0 ∨ 1000000000 < n ∨ 100 < s.size ∨ (∃ h0 : 0 < s.size, 48 ≤ (s[0]).toNat ∧ (s[0]).toNat ≤ 57)) :
    Calls Tryd.prog 3 #[.int .i64 n, .int .u8 b.toNat, .string s] w fun e w' => e = .returned (.bool true) ∧ Keep Nb w w' := by
  by_cases h1 : n < 0
  · have m1 : decide (n < 0) = true := decide_eq_true h1
    clear h h1
    go_enter Tryd.func3, Tryd.ntmps3
    go_wp2_with fail
    refine (awake_any _).mono ?_
    rintro e w2 ⟨rfl, hk2⟩
    go_wp2_with fail
    refine (awake_any _).mono ?_
    rintro e w3 ⟨rfl, hk3⟩
    go_wp2_with fail
    go_ret
    exact ⟨rfl, hk2.trans hk3 (fun _ _ h => h)⟩
  have m1 : decide (n < 0) = false := decide_eq_false h1
  by_cases h2 : 1000000000 < n
  · have m2 : decide (1000000000 < n) = true := decide_eq_true h2
    clear h h1 h2
    go_enter Tryd.func3, Tryd.ntmps3
    go_wp2_with fail
    refine (awake_any _).mono ?_
    rintro e w2 ⟨rfl, hk2⟩
    go_wp2_with fail
    refine (awake_any _).mono ?_
    rintro e w3 ⟨rfl, hk3⟩
    go_wp2_with fail
    go_ret
    exact ⟨rfl, hk2.trans hk3 (fun _ _ h => h)⟩
  have m2 : decide (1000000000 < n) = false := decide_eq_false h2
  by_cases h3 : 100 < s.size
  · have m3 : decide ((100 : Int) < (s.size : Int)) = true := decide_eq_true (by omega)
    clear h h1 h2 h3
    go_enter Tryd.func3, Tryd.ntmps3
    go_wp2_with fail
    refine (awake_any _).mono ?_
    rintro e w2 ⟨rfl, hk2⟩
    go_wp2_with fail
    refine (awake_any _).mono ?_
    rintro e w3 ⟨rfl, hk3⟩
    go_wp2_with fail
    go_ret
    exact ⟨rfl, hk2.trans hk3 (fun _ _ h => h)⟩
  have m3 : decide ((100 : Int) < (s.size : Int)) = false := decide_eq_false (by omega)
  obtain ⟨h0, h4, h5⟩ : ∃ h0 : 0 < s.size, 48 ≤ (s[0]).toNat ∧ (s[0]).toNat ≤ 57 := by
    rcases h with h | h | h | h
    · exact absurd h h1
    · exact absurd h h2
    · exact absurd h h3
    · exact h
  have h0' : (0 : Int) < (s.size : Int) := by omega
  have m4 : decide ((48 : Int) ≤ ((s[0]).toNat : Int)) = true := decide_eq_true (by omega)
  have m5 : decide (((s[0]).toNat : Int) ≤ 57) = true := decide_eq_true (by omega)
  clear h h1 h2 h3 h4 h5
  go_enter Tryd.func3, Tryd.ntmps3
  go_wp2_with fail
  refine (awake_any _).mono ?_
  rintro e w2 ⟨rfl, hk2⟩
  go_wp2_with fail
  refine (awake_any _).mono ?_
  rintro e w3 ⟨rfl, hk3⟩
  go_wp2_with fail
  go_ret
  exact ⟨rfl, hk2.trans hk3 (fun _ _ h => h)⟩

set_option maxHeartbeats 2000000 in
set_option maxRecDepth 100000 in
theorem num_main (n : Nat) (b : UInt8) (s : ByteArray) (w : World) (h1 : n ≤ 1000000000) (h3 : s.size ≤ 100) (h4 : ∀ h0 : 0 < s.size, ¬ (48 ≤ (s[0]).toNat ∧ (s[0]).toNat ≤ 57)) :
    Calls Tryd.prog 3 #[.int .i64 n, .int .u8 b.toNat, .string s] w fun e w' => e = .returned (.bool true) ∧ Keep Nb w w' := by
  have m1 : decide ((n : Int) < 0) = false := decide_eq_false (by omega)
  have m2 : decide ((1000000000 : Int) < (n : Int)) = false := decide_eq_false (by omega)
  have m3 : decide ((100 : Int) < (s.size : Int)) = false := decide_eq_false (by omega)
  have HB0 : Hid (∀ c, s.data.toList.head? = some c → digs.contains c = false) := Lib.hid (fun c hc => by
    have h0 : 0 < s.size := by
      rw [← ByteArray.size_data, ← Array.length_toList]
      cases hs : s.data.toList with
      | nil => rw [hs] at hc; simp at hc
      | cons x r => simp
    have h5 := h4 h0
    have e : s[0] = c := by
      rw [List.head?_eq_getElem?, Array.getElem?_toList, Array.getElem?_eq_getElem (by exact h0)] at hc
      exact Option.some.inj hc
    rw [e, ← digs_iff] at h5
    simpa using h5)
  have HX : Hid (∀ k, k ≤ 9 → True) := Lib.hid (fun _ _ => trivial)
  obtain ⟨m, hm⟩ : ∃ m : Nat, m = b.toNat % 20 := ⟨_, rfl⟩
  have hmm : (b.toNat : Int) % 20 = (m : Int) := by omega
  have hm20 : m < 20 := by omega
  have HDI := Lib.hid (fun wx => digits_any 9 n wx (by omega) h1 (by omega))
  have HDV : Hid (valD (digF 9 n) = n) := Lib.hid (digF_val 9 n (by omega))
  have HDA := Lib.hid (digF_all 9 n)
  have HDL : Hid ((digF 9 n).length ≤ 10) := Lib.hid (digF_len 9 n)
  have HDP : Hid (0 < (digF 9 n).length) := Lib.hid (digF_pos 9 n)
  generalize digF 9 n = D at HDI HDV HDA HDL HDP
  obtain ⟨Ds, hDs⟩ : ∃ Ds : ByteArray, Ds = ⟨D.toArray⟩ := ⟨_, rfl⟩
  have hDl : D = Ds.data.toList := by rw [hDs]
  rw [← hDs] at HDI
  rw [hDl] at HDV HDA HDL HDP
  clear hDs hDl hm HX
  have hDz : Ds.size ≤ 10 := by rw [← ByteArray.size_data, ← Array.length_toList]; exact HDL.out
  have HPOS : Hid (0 < Ds.size) := Lib.hid (by
    rw [← ByteArray.size_data, ← Array.length_toList]
    exact HDP.out)
  by_cases h0 : 0 < s.size
  · have h0' : (0 : Int) < (s.size : Int) := by omega
    have hx := h4 h0
    have hmid : ∃ q1 q2 : Bool, decide ((48 : Int) ≤ ((s[0]).toNat : Int)) = q1 ∧ decide (((s[0]).toNat : Int) ≤ 57) = q2 ∧ (q1 && q2) = false := ⟨_, _, rfl, rfl, by
      rw [Bool.and_eq_false_iff, decide_eq_false_iff_not, decide_eq_false_iff_not]; omega⟩
    obtain ⟨q1, q2, m4, m5, hq⟩ := hmid
    clear h4 hx
    cases q1 with
    | true =>
      obtain rfl : q2 = false := by simpa using hq
      go_enter Tryd.func3, Tryd.ntmps3
      go_wp2_with fail
      refine (awake_any _).mono ?_
      rintro e w2 ⟨rfl, hk2⟩
      have HK2 := Lib.hid hk2
      clear hk2
      go_upto_region 3 with fail
      clear m1 m2 m3
      go_wp2_with fail
      go_loopw [7, 44] (fun x i wr => ∃ (k : Nat) (X : ByteArray), k ≤ m ∧ i = .int .u8 (k : Int) ∧ x = .string X ∧ Hid (X.data.toList = List.replicate k 48 ∧ Keep Nb w wr)) (fun _ i _ => m - (intOf i).toNat)
      case atStart => exact ⟨0, ⟨#[]⟩, Nat.zero_le _, rfl, rfl, Lib.hid ⟨rfl, HK2.out⟩⟩
      case round =>
        clear HK2
        obtain ⟨k, X, hk, rfl, rfl, HR⟩ := hrel
        have hXz : X.size = k := by
          rw [← ByteArray.size_data, ← Array.length_toList, HR.out.1, List.length_replicate]
        rcases Nat.lt_or_ge k m with hlt | hge
        · have n1 : ¬ 9223372036854775807 < X.size + 1 := by omega
          have n2 : ¬ 9223372036854775807 < k + 1 := by omega
          go_wp2_with fail
          go_roundw
          case rel => exact ⟨k + 1, _, by omega, by go_num, rfl, Lib.hid ⟨by rw [add_sz3, HR.out.1, List.replicate_succ'], HR.out.2⟩⟩
          case measure => simp [intOf]; omega
        · obtain rfl : k = m := by omega
          have n1 : ¬ 9223372036854775807 < X.size + Ds.size := by omega
          have n2 : ¬ 9223372036854775807 < (X ++ Ds).size + s.size := by rw [ByteArray.size_append]; omega
          have n3 : ¬ 9223372036854775807 < X.size + Ds.size + s.size := by omega
          have hSz : (X ++ Ds ++ s).size ≤ 1000000 := by rw [ByteArray.size_append, ByteArray.size_append]; omega
          have hAl : (X ++ Ds ++ s).toList.drop 0 = (List.replicate k 48 ++ Ds.data.toList) ++ s.data.toList := by
            rw [List.drop_zero, ByteArray.toList_eq, add_sz3, add_sz3, HR.out.1]
          have hdg : dgP ((X ++ Ds ++ s).toList.drop 0) = List.replicate k 48 ++ Ds.data.toList := by
            rw [hAl]
            refine dgP_all _ _ (fun c hc => ?_) HB0.out
            rcases List.mem_append.1 hc with hc | hc
            · rw [(List.mem_replicate.1 hc).2]; rfl
            · exact HDA.out c hc
          have hln : (List.replicate k (48 : UInt8) ++ Ds.data.toList).length = X.size + Ds.size := by
            rw [List.length_append, List.length_replicate, hXz, ← ByteArray.size_data, ← Array.length_toList]
          have hDp : 0 < Ds.size := HPOS.out
          have HNU := Lib.hid (fun p wx hb => number_any p (X ++ Ds ++ s) 0 wx hb (Nat.zero_le _) hSz)
          rw [hdg] at HNU
          have hva : valD (List.replicate k 48 ++ Ds.data.toList) = n := by rw [valD_zeros]; exact HDV.out
          rw [hva, hln] at HNU
          have hd1 : decide (0 < X.size + Ds.size) = true := decide_eq_true (by omega)
          rw [hd1, Nat.zero_add] at HNU
          clear hd1 hva hln hdg hAl hSz
          have HKR := Lib.hid HR.out.2
          clear HR
          go_wp2_with fail
          refine (HDI.out wr).mono ?_
          rintro e w3 ⟨rfl, hk3⟩
          have HK3 := Lib.hid (HKR.out.trans hk3 (fun _ _ h => h))
          clear hk3
          go_wp2_with fail
          refine (new_any (X ++ Ds ++ s) _).mono ?_
          rintro e w4 ⟨p, rfl, hp, hb4, hk4⟩
          have HK4 := Lib.hid (HK3.out.trans hk4 (fun _ _ h => h))
          have HP : Hid (w.heap.size ≤ p) := Lib.hid (by have := HK3.out.size; omega)
          have HNU2 := Lib.hid (HNU.out p w4 hb4)
          clear hp hb4 hk4
          go_wp2_with fail
          refine HNU2.out.mono ?_
          rintro e w5 ⟨hk5, _, h5⟩
          obtain ⟨rfl, hb5⟩ := h5 h1
          have HK5 := Lib.hid (HK4.out.trans hk5 (fun b hb h => by simp only [Ob] at h; have := HP.out; omega))
          have HAT := Lib.hid (at_any p _ _ w5 hb5)
          clear h5 hb5 hk5
          go_wp2_with fail
          refine HAT.out.mono ?_
          rintro e w6 ⟨rfl, hk6⟩
          have HK6 := Lib.hid (HK5.out.trans hk6 (fun _ _ h => h))
          clear hk6
          go_wp2_with fail
          go_ret
          exact ⟨by simp, HK6.out⟩
    | false =>
      clear m5 hq
      go_enter Tryd.func3, Tryd.ntmps3
      go_wp2_with fail
      refine (awake_any _).mono ?_
      rintro e w2 ⟨rfl, hk2⟩
      have HK2 := Lib.hid hk2
      clear hk2
      go_upto_region 3 with fail
      clear m1 m2 m3
      go_wp2_with fail
      go_loopw [7, 44] (fun x i wr => ∃ (k : Nat) (X : ByteArray), k ≤ m ∧ i = .int .u8 (k : Int) ∧ x = .string X ∧ Hid (X.data.toList = List.replicate k 48 ∧ Keep Nb w wr)) (fun _ i _ => m - (intOf i).toNat)
      case atStart => exact ⟨0, ⟨#[]⟩, Nat.zero_le _, rfl, rfl, Lib.hid ⟨rfl, HK2.out⟩⟩
      case round =>
        clear HK2
        obtain ⟨k, X, hk, rfl, rfl, HR⟩ := hrel
        have hXz : X.size = k := by
          rw [← ByteArray.size_data, ← Array.length_toList, HR.out.1, List.length_replicate]
        rcases Nat.lt_or_ge k m with hlt | hge
        · have n1 : ¬ 9223372036854775807 < X.size + 1 := by omega
          have n2 : ¬ 9223372036854775807 < k + 1 := by omega
          go_wp2_with fail
          go_roundw
          case rel => exact ⟨k + 1, _, by omega, by go_num, rfl, Lib.hid ⟨by rw [add_sz3, HR.out.1, List.replicate_succ'], HR.out.2⟩⟩
          case measure => simp [intOf]; omega
        · obtain rfl : k = m := by omega
          have n1 : ¬ 9223372036854775807 < X.size + Ds.size := by omega
          have n2 : ¬ 9223372036854775807 < (X ++ Ds).size + s.size := by rw [ByteArray.size_append]; omega
          have n3 : ¬ 9223372036854775807 < X.size + Ds.size + s.size := by omega
          have hSz : (X ++ Ds ++ s).size ≤ 1000000 := by rw [ByteArray.size_append, ByteArray.size_append]; omega
          have hAl : (X ++ Ds ++ s).toList.drop 0 = (List.replicate k 48 ++ Ds.data.toList) ++ s.data.toList := by
            rw [List.drop_zero, ByteArray.toList_eq, add_sz3, add_sz3, HR.out.1]
          have hdg : dgP ((X ++ Ds ++ s).toList.drop 0) = List.replicate k 48 ++ Ds.data.toList := by
            rw [hAl]
            refine dgP_all _ _ (fun c hc => ?_) HB0.out
            rcases List.mem_append.1 hc with hc | hc
            · rw [(List.mem_replicate.1 hc).2]; rfl
            · exact HDA.out c hc
          have hln : (List.replicate k (48 : UInt8) ++ Ds.data.toList).length = X.size + Ds.size := by
            rw [List.length_append, List.length_replicate, hXz, ← ByteArray.size_data, ← Array.length_toList]
          have hDp : 0 < Ds.size := HPOS.out
          have HNU := Lib.hid (fun p wx hb => number_any p (X ++ Ds ++ s) 0 wx hb (Nat.zero_le _) hSz)
          rw [hdg] at HNU
          have hva : valD (List.replicate k 48 ++ Ds.data.toList) = n := by rw [valD_zeros]; exact HDV.out
          rw [hva, hln] at HNU
          have hd1 : decide (0 < X.size + Ds.size) = true := decide_eq_true (by omega)
          rw [hd1, Nat.zero_add] at HNU
          clear hd1 hva hln hdg hAl hSz
          have HKR := Lib.hid HR.out.2
          clear HR
          go_wp2_with fail
          refine (HDI.out wr).mono ?_
          rintro e w3 ⟨rfl, hk3⟩
          have HK3 := Lib.hid (HKR.out.trans hk3 (fun _ _ h => h))
          clear hk3
          go_wp2_with fail
          refine (new_any (X ++ Ds ++ s) _).mono ?_
          rintro e w4 ⟨p, rfl, hp, hb4, hk4⟩
          have HK4 := Lib.hid (HK3.out.trans hk4 (fun _ _ h => h))
          have HP : Hid (w.heap.size ≤ p) := Lib.hid (by have := HK3.out.size; omega)
          have HNU2 := Lib.hid (HNU.out p w4 hb4)
          clear hp hb4 hk4
          go_wp2_with fail
          refine HNU2.out.mono ?_
          rintro e w5 ⟨hk5, _, h5⟩
          obtain ⟨rfl, hb5⟩ := h5 h1
          have HK5 := Lib.hid (HK4.out.trans hk5 (fun b hb h => by simp only [Ob] at h; have := HP.out; omega))
          have HAT := Lib.hid (at_any p _ _ w5 hb5)
          clear h5 hb5 hk5
          go_wp2_with fail
          refine HAT.out.mono ?_
          rintro e w6 ⟨rfl, hk6⟩
          have HK6 := Lib.hid (HK5.out.trans hk6 (fun _ _ h => h))
          clear hk6
          go_wp2_with fail
          go_ret
          exact ⟨by simp, HK6.out⟩
  · have h0' : s.size = 0 := by omega
    clear h4 h0
    go_enter Tryd.func3, Tryd.ntmps3
    go_wp2_with fail
    refine (awake_any _).mono ?_
    rintro e w2 ⟨rfl, hk2⟩
    have HK2 := Lib.hid hk2
    clear hk2
    go_upto_region 3 with fail
    clear m1 m2 m3
    go_wp2_with fail
    go_loopw [7, 44] (fun x i wr => ∃ (k : Nat) (X : ByteArray), k ≤ m ∧ i = .int .u8 (k : Int) ∧ x = .string X ∧ Hid (X.data.toList = List.replicate k 48 ∧ Keep Nb w wr)) (fun _ i _ => m - (intOf i).toNat)
    case atStart => exact ⟨0, ⟨#[]⟩, Nat.zero_le _, rfl, rfl, Lib.hid ⟨rfl, HK2.out⟩⟩
    case round =>
      clear HK2
      obtain ⟨k, X, hk, rfl, rfl, HR⟩ := hrel
      have hXz : X.size = k := by
        rw [← ByteArray.size_data, ← Array.length_toList, HR.out.1, List.length_replicate]
      rcases Nat.lt_or_ge k m with hlt | hge
      · have n1 : ¬ 9223372036854775807 < X.size + 1 := by omega
        have n2 : ¬ 9223372036854775807 < k + 1 := by omega
        go_wp2_with fail
        go_roundw
        case rel => exact ⟨k + 1, _, by omega, by go_num, rfl, Lib.hid ⟨by rw [add_sz3, HR.out.1, List.replicate_succ'], HR.out.2⟩⟩
        case measure => simp [intOf]; omega
      · obtain rfl : k = m := by omega
        have n1 : ¬ 9223372036854775807 < X.size + Ds.size := by omega
        have n2 : ¬ 9223372036854775807 < (X ++ Ds).size + s.size := by rw [ByteArray.size_append]; omega
        have n3 : ¬ 9223372036854775807 < X.size + Ds.size + s.size := by omega
        have hSz : (X ++ Ds ++ s).size ≤ 1000000 := by rw [ByteArray.size_append, ByteArray.size_append]; omega
        have hAl : (X ++ Ds ++ s).toList.drop 0 = (List.replicate k 48 ++ Ds.data.toList) ++ s.data.toList := by
          rw [List.drop_zero, ByteArray.toList_eq, add_sz3, add_sz3, HR.out.1]
        have hdg : dgP ((X ++ Ds ++ s).toList.drop 0) = List.replicate k 48 ++ Ds.data.toList := by
          rw [hAl]
          refine dgP_all _ _ (fun c hc => ?_) HB0.out
          rcases List.mem_append.1 hc with hc | hc
          · rw [(List.mem_replicate.1 hc).2]; rfl
          · exact HDA.out c hc
        have hln : (List.replicate k (48 : UInt8) ++ Ds.data.toList).length = X.size + Ds.size := by
          rw [List.length_append, List.length_replicate, hXz, ← ByteArray.size_data, ← Array.length_toList]
        have hDp : 0 < Ds.size := HPOS.out
        have HNU := Lib.hid (fun p wx hb => number_any p (X ++ Ds ++ s) 0 wx hb (Nat.zero_le _) hSz)
        rw [hdg] at HNU
        have hva : valD (List.replicate k 48 ++ Ds.data.toList) = n := by rw [valD_zeros]; exact HDV.out
        rw [hva, hln] at HNU
        have hd1 : decide (0 < X.size + Ds.size) = true := decide_eq_true (by omega)
        rw [hd1, Nat.zero_add] at HNU
        clear hd1 hva hln hdg hAl hSz
        have HKR := Lib.hid HR.out.2
        clear HR
        go_wp2_with fail
        refine (HDI.out wr).mono ?_
        rintro e w3 ⟨rfl, hk3⟩
        have HK3 := Lib.hid (HKR.out.trans hk3 (fun _ _ h => h))
        clear hk3
        go_wp2_with fail
        refine (new_any (X ++ Ds ++ s) _).mono ?_
        rintro e w4 ⟨p, rfl, hp, hb4, hk4⟩
        have HK4 := Lib.hid (HK3.out.trans hk4 (fun _ _ h => h))
        have HP : Hid (w.heap.size ≤ p) := Lib.hid (by have := HK3.out.size; omega)
        have HNU2 := Lib.hid (HNU.out p w4 hb4)
        clear hp hb4 hk4
        go_wp2_with fail
        refine HNU2.out.mono ?_
        rintro e w5 ⟨hk5, _, h5⟩
        obtain ⟨rfl, hb5⟩ := h5 h1
        have HK5 := Lib.hid (HK4.out.trans hk5 (fun b hb h => by simp only [Ob] at h; have := HP.out; omega))
        have HAT := Lib.hid (at_any p _ _ w5 hb5)
        clear h5 hb5 hk5
        go_wp2_with fail
        refine HAT.out.mono ?_
        rintro e w6 ⟨rfl, hk6⟩
        have HK6 := Lib.hid (HK5.out.trans hk6 (fun _ _ h => h))
        clear hk6
        go_wp2_with fail
        go_ret
        exact ⟨by simp, HK6.out⟩

theorem num_any (n : Int) (b : UInt8) (s : ByteArray) (w : World) :
    Calls Tryd.prog 3 #[.int .i64 n, .int .u8 b.toNat, .string s] w fun e w' => e = .returned (.bool true) ∧ Keep Nb w w' := by
  by_cases h : n < 0 ∨ 1000000000 < n ∨ 100 < s.size ∨ (∃ h0 : 0 < s.size, 48 ≤ (s[0]).toNat ∧ (s[0]).toNat ≤ 57)
  · exact num_awake n b s w h
  · obtain ⟨k, rfl⟩ : ∃ k : Nat, n = k := ⟨n.toNat, by omega⟩
    exact num_main k b s w (by omega) (by omega) (fun h0 hx => h (.inr (.inr (.inr ⟨h0, hx⟩))))

end Go.Proofs.YtilnccjdbdcklaaDoor
