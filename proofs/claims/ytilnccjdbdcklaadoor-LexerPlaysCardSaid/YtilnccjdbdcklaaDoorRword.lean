/- Word of the reference. Printed by gen_rword.py. -/
import Derived.Test.YtilnccjdbdcklaaDoorWord
namespace Go.Proofs.YtilnccjdbdcklaaDoor
set_option linter.unusedVariables false
set_option linter.unusedSimpArgs false
open Go.RowKit

theorem wds_iff (c : UInt8) : wds.contains c = true ↔ (c.toNat : Int) = 10 ∨ (c.toNat : Int) = 59 ∨ (c.toNat : Int) = 125 := by
  have h : ∀ n : Nat, n < 256 → (wds.contains (UInt8.ofNat n) = true ↔ n = 10 ∨ n = 59 ∨ n = 125) := by decide +kernel
  have := h c.toNat (UInt8.toNat_lt c)
  rw [UInt8.ofNat_toNat] at this
  rw [this]; omega
theorem wd_in {s : ByteArray} {a k : Nat} (h : k < wdN s a) : ∃ h2 : a + k < s.size, (s[a + k].toNat : Int) ≠ 10 ∧ (s[a + k].toNat : Int) ≠ 59 ∧ (s[a + k].toNat : Int) ≠ 125 := by
  obtain ⟨h1, h2⟩ := tw_at _ _ _ h
  obtain ⟨h3, h4⟩ := drop_at s a k h1
  refine ⟨h3, ?_⟩
  rw [h4] at h2
  have h5 : wds.contains s[a + k] = false := by simpa using h2
  have h6 := wds_iff s[a + k]
  rw [h5] at h6
  have h7 : ¬ ((s[a + k].toNat : Int) = 10 ∨ (s[a + k].toNat : Int) = 59 ∨ (s[a + k].toNat : Int) = 125) := fun x => by cases h6.2 x
  omega
theorem wd_out {s : ByteArray} {a : Nat} (h : a + wdN s a < s.size) : (s[a + wdN s a].toNat : Int) = 10 ∨ (s[a + wdN s a].toNat : Int) = 59 ∨ (s[a + wdN s a].toNat : Int) = 125 := by
  have h1 : wdN s a < (s.toList.drop a).length := by rw [List.length_drop, toList_len]; omega
  have h2 := tw_end (fun c => !wds.contains c) (s.toList.drop a) h1
  obtain ⟨h3, h4⟩ := drop_at s a (wdN s a) h1
  have h2' : (!wds.contains (s.toList.drop a)[wdN s a]) = false := h2
  rw [h4] at h2'
  have h5 : wds.contains s[a + wdN s a] = true := by simpa using h2'
  exact (wds_iff _).1 h5
theorem trimR_snoc (l : List UInt8) (c : UInt8) : Lib.trimRightS (l ++ [c]) bls = if bls.contains c then Lib.trimRightS l bls else l ++ [c] := by
  unfold Lib.trimRightS
  rw [List.reverse_append, List.reverse_singleton, List.singleton_append, List.dropWhile_cons]
  split
  · rfl
  · rw [List.reverse_cons, List.reverse_reverse]
theorem snoc_of (T : ByteArray) (m : Nat) (h : T.size = m + 1) : T.data.toList = (T.extract 0 m).data.toList ++ [T[m]] := by
  rw [Lib.extract_from_zero]
  have hl : m < T.data.toList.length := by rw [Array.length_toList]; show m < T.size; omega
  have e := (List.take_succ_eq_append_getElem hl).symm
  have e2 : T.data.toList.take (m + 1) = T.data.toList := by rw [← h]; exact List.take_of_length_le (by rw [Array.length_toList]; exact Nat.le_refl _)
  rw [e2] at e
  exact e.symm

set_option maxHeartbeats 8000000 in
set_option maxRecDepth 100000 in
theorem rword_any (q : Nat) (s : ByteArray) (a : Nat) (m : Int) (w : World) (hb : RAt w q s a) (ha : a ≤ s.size) (hz : s.size ≤ 1000000) :
    Calls Tryd.prog 28 #[.pointer (some ⟨q, 0, none⟩), .int .i64 m] w fun e w' => Keep (Ob q) w w' ∧
      ((wdT s a = [] ∨ m < (wdT s a).length) → e = .returned (.tuple #[.string ⟨#[]⟩, .bool false]) ∧ RAt w' q s a) ∧
      (¬ (wdT s a = [] ∨ m < (wdT s a).length) → e = .returned (.tuple #[.string ⟨(wdT s a).toArray⟩, .bool true]) ∧ RAt w' q s (a + wdN s a)) := by
  have HIN := Lib.hid (fun k h => wd_in (s := s) (a := a) (k := k) h)
  have HOUT := Lib.hid (fun h => wd_out (s := s) (a := a) h)
  have hle := wd_le s a ha
  have HW0 : Hid (Lib.trimRightS (s.extract a (a + wdN s a)).data.toList bls = wdT s a) := Lib.hid (by
    have e1 : (s.extract a (a + wdN s a)).data.toList = (s.toList.drop a).take (wdN s a) := by
      rw [ByteArray.data_extract, ByteArray.toList_eq]
      simp only [Array.toList_extract, List.extract_eq_take_drop]
      congr 1
      omega
    rw [e1]; rfl)
  have hTl : (wdT s a).length ≤ 1000000 := by
    have := trimR_le ((s.toList.drop a).take (wdN s a)) bls
    have h2 : ((s.toList.drop a).take (wdN s a)).length ≤ s.size := by rw [List.length_take, List.length_drop, toList_len]; omega
    unfold wdT; omega
  generalize wdT s a = t at HW0 hTl ⊢
  generalize wdN s a = n at HIN HOUT hle HW0 ⊢
  have c0 := hb.cell 0 (u := .string s) rfl
  have c1 := hb.cell 1 (u := .int .i64 (a : Int)) rfl
  have f1 := hb.frozen 1
  have lq := hb.lt
  have HB := Lib.hid hb
  clear hb
  go_enter Tryd.func28, Tryd.ntmps28
  go_wp2_with fail
  go_loopw [6] (fun i wr => ∃ k : Nat, k ≤ n ∧ i = .int .i64 ((a + k : Nat) : Int) ∧ wr = w) (fun i _ => a + n - (intOf i).toNat)
  case atStart => exact ⟨0, Nat.zero_le _, rfl, rfl⟩
  case round =>
    obtain ⟨k, hk, rfl, rfl⟩ := hrel
    rcases Nat.lt_or_ge k n with hlt | hge
    · obtain ⟨hj, n1, n2, n3⟩ := HIN.out k hlt
      generalize ej : a + k = j at *
      have HEJ := Lib.hid ej
      clear ej
      have q1 : ((s[j].toNat : Int) != 10) = true := bne_iff_ne.2 n1
      have q2 : ((s[j].toNat : Int) != 59) = true := bne_iff_ne.2 n2
      have q3 : ((s[j].toNat : Int) != 125) = true := bne_iff_ne.2 n3
      have hkz : (j : Int) < (s.size : Int) := by omega
      have hk0 : (0 : Int) ≤ (j : Int) := by omega
      have hj1 : j ≤ 1000000 := by omega
      clear n1 n2 n3
      go_wp2_with fail
      go_roundw
      case rel => exact ⟨k + 1, by omega, by rw [show ((a + (k + 1) : Nat) : Int) = (j : Int) + 1 by have := HEJ.out; omega], by simp⟩
      case measure => (have := HEJ.out; simp [intOf]; omega)
    · obtain rfl : k = n := by omega
      obtain ⟨j, ej⟩ : ∃ j, j = a + k := ⟨_, rfl⟩
      rw [← ej] at HW0 HOUT ⊢
      have HEJ := Lib.hid ej
      have hjs : j ≤ s.size := by omega
      have haj : (a : Int) ≤ (j : Int) := by omega
      have ha0 : (0 : Int) ≤ (a : Int) := by omega
      have hjz : (j : Int) ≤ (s.size : Int) := by omega
      have HTS : Hid ((s.extract a j).size ≤ 1000000) := Lib.hid (by rw [ByteArray.size_extract]; omega)
      clear ej hle HIN
      have HTN : Hid (∀ T : ByteArray, T.data.toList = t → ((t = [] ∨ m < t.length) ↔ (T.size = 0 ∨ m < T.size)) ∧ T = ⟨t.toArray⟩) := Lib.hid (fun T h => by
        have h1 : T.size = t.length := by rw [← h, Array.length_toList]; rfl
        refine ⟨by rw [h1, List.length_eq_zero_iff], ba_eq3 (by rw [h])⟩)
      by_cases hlt2 : j < s.size
      · have hw := HOUT.out hlt2
        have hkz : (j : Int) < (s.size : Int) := by omega
        have hk0 : (0 : Int) ≤ (j : Int) := by omega
        by_cases w1 : (s[j].toNat : Int) = 10
        · have q1 : ((s[j].toNat : Int) != 10) = false := by rw [w1]; rfl
          clear hw w1
          go_wp2_with fail
          refine wp_region_x (by kernel_rfl) (by kernel_rfl) ?_; (repeat (go_big_quiet_step ((fail)))); refine wpQuiet_nil ?_; rintro w3 ⟨⟨_, hk3⟩, rfl⟩
          have HB3 := Lib.hid (HB.out.keep hk3 id)
          have HK3 := Lib.hid hk3
          have d0 := HB3.out.cell 0 (u := .string s) rfl
          have d1 := HB3.out.cell 1 (u := .int .i64 (a : Int)) rfl
          have g1 := HB3.out.frozen 1
          have lr := HB3.out.lt
          clear hk3 c0 c1 f1 lq
          generalize s.extract a j = T0 at HW0 HTS ⊢
          go_wp2_with fail
          go_loopw [7] (fun x wr2 => ∃ T : ByteArray, x = .string T ∧ Hid (Lib.trimRightS T.data.toList bls = t ∧ T.size ≤ 1000000) ∧ wr2 = w3) (fun x _ => match x with | .string T => T.size | _ => 0)
          case atStart => exact ⟨T0, rfl, Lib.hid ⟨HW0.out, HTS.out⟩, rfl⟩
          case round =>
            clear HW0 HTS
            obtain ⟨T, rfl, HT, rfl⟩ := hrel
            have hT1 := HT.out.2
            by_cases h0 : T.size = 0
            · have HE : Hid (T.data.toList = t) := Lib.hid (by
                have e : T.data.toList = [] := List.length_eq_zero_iff.1 (by rw [Array.length_toList]; exact h0)
                rw [← HT.out.1, e]; rfl)
              have HNO : Hid (t = [] ∨ m < t.length) := Lib.hid ((HTN.out T HE.out).1.2 (.inl h0))
              clear HTN
              go_wp2_with fail
              go_ret2
              exact ⟨HK3.out.ob, fun _ => ⟨rfl, HB3.out⟩, fun h => absurd HNO.out h⟩
            · obtain ⟨u, hu⟩ : ∃ u, T.size = u + 1 := ⟨T.size - 1, by omega⟩
              have hi : (T.size : Int) - 1 = (u : Int) := by omega
              have hj2 : u < T.size := by omega
              have hjz2 : (u : Int) < (T.size : Int) := by omega
              have hu0 : (0 : Int) ≤ (u : Int) := by omega
              have huz : (u : Int) ≤ (T.size : Int) := by omega
              have hsn := snoc_of T u hu
              have hbl := bls_iff T[u]
              by_cases hblank : bls.contains T[u] = true
              · have HT2 : Hid (Lib.trimRightS (T.extract 0 u).data.toList bls = t ∧ (T.extract 0 u).size ≤ 1000000) := Lib.hid ⟨by rw [← HT.out.1, hsn, trimR_snoc, if_pos hblank], by rw [ByteArray.size_extract]; omega⟩
                have hsz2 : (T.extract 0 u).size = u := by rw [ByteArray.size_extract]; omega
                have HS2 := Lib.hid hsz2
                have h329 := hbl.1 hblank
                clear hsn hbl hblank h0 hsz2
                by_cases h32 : (T[u].toNat : Int) = 32
                · have p1 : ((T[u].toNat : Int) == 32) = true := beq_iff_eq.2 h32
                  clear h32 h329
                  go_wp2_with fail
                  go_roundw
                  case rel => exact ⟨_, rfl, HT2, by simp⟩
                  case measure => (show (T.extract 0 u).size < T.size; rw [HS2.out]; omega)
                · have p1 : ((T[u].toNat : Int) == 32) = false := beq_eq_false_iff_ne.2 h32
                  have p2 : ((T[u].toNat : Int) == 9) = true := beq_iff_eq.2 (h329.resolve_left h32)
                  clear h32 h329
                  go_wp2_with fail
                  go_roundw
                  case rel => exact ⟨_, rfl, HT2, by simp⟩
                  case measure => (show (T.extract 0 u).size < T.size; rw [HS2.out]; omega)
              · have HE : Hid (T.data.toList = t) := Lib.hid (by rw [← HT.out.1]; conv => rhs; rw [hsn, trimR_snoc, if_neg hblank]
                                                                 exact hsn)
                have hnb : ¬ ((T[u].toNat : Int) = 32 ∨ (T[u].toNat : Int) = 9) := fun h => hblank (hbl.2 h)
                have p1 : ((T[u].toNat : Int) == 32) = false := beq_eq_false_iff_ne.2 (fun h => hnb (.inl h))
                have p2 : ((T[u].toNat : Int) == 9) = false := beq_eq_false_iff_ne.2 (fun h => hnb (.inr h))
                have HTE := Lib.hid (HTN.out T HE.out)
                clear hsn hbl hblank hnb
                by_cases hm : m < (T.size : Int)
                · have HNO : Hid (t = [] ∨ m < t.length) := Lib.hid (HTE.out.1.2 (.inr hm))
                  have m2 : decide (m < (T.size : Int)) = true := decide_eq_true hm
                  have m3 : decide (m < (u : Int) + 1) = true := decide_eq_true (by omega)
                  clear hm HTN
                  go_wp2_with fail
                  go_ret2
                  exact ⟨HK3.out.ob, fun _ => ⟨rfl, HB3.out⟩, fun h => absurd HNO.out h⟩
                · have HNO : Hid (¬ (t = [] ∨ m < t.length)) := Lib.hid (fun h => by rcases HTE.out.1.1 h with h | h; exact h0 h; exact hm h)
                  have m2 : decide (m < (T.size : Int)) = false := decide_eq_false hm
                  have m3 : decide (m < (u : Int) + 1) = false := decide_eq_false (by omega)
                  have HSET := Lib.hid (Blk.set HB3.out 1 (.int .i64 (j : Int)))
                  have HSK := Lib.hid (Keep.setOb wr q 1 (.int .i64 (j : Int)))
                  clear hm HTN
                  go_wp2_with fail
                  go_ret2
                  exact ⟨HK3.out.ob.trans HSK.out (fun _ _ h => h), fun h => absurd h HNO.out, fun _ => ⟨by rw [← HTE.out.2]; rfl, by rw [← HEJ.out]; exact HSET.out⟩⟩
        · have q1 : ((s[j].toNat : Int) != 10) = true := bne_iff_ne.2 w1
          by_cases w2 : (s[j].toNat : Int) = 59
          · have q2 : ((s[j].toNat : Int) != 59) = false := by rw [w2]; rfl
            clear hw w1 w2
            go_wp2_with fail
            refine wp_region_x (by kernel_rfl) (by kernel_rfl) ?_; (repeat (go_big_quiet_step ((fail)))); refine wpQuiet_nil ?_; rintro w3 ⟨⟨_, hk3⟩, rfl⟩
            have HB3 := Lib.hid (HB.out.keep hk3 id)
            have HK3 := Lib.hid hk3
            have d0 := HB3.out.cell 0 (u := .string s) rfl
            have d1 := HB3.out.cell 1 (u := .int .i64 (a : Int)) rfl
            have g1 := HB3.out.frozen 1
            have lr := HB3.out.lt
            clear hk3 c0 c1 f1 lq
            generalize s.extract a j = T0 at HW0 HTS ⊢
            go_wp2_with fail
            go_loopw [7] (fun x wr2 => ∃ T : ByteArray, x = .string T ∧ Hid (Lib.trimRightS T.data.toList bls = t ∧ T.size ≤ 1000000) ∧ wr2 = w3) (fun x _ => match x with | .string T => T.size | _ => 0)
            case atStart => exact ⟨T0, rfl, Lib.hid ⟨HW0.out, HTS.out⟩, rfl⟩
            case round =>
              clear HW0 HTS
              obtain ⟨T, rfl, HT, rfl⟩ := hrel
              have hT1 := HT.out.2
              by_cases h0 : T.size = 0
              · have HE : Hid (T.data.toList = t) := Lib.hid (by
                  have e : T.data.toList = [] := List.length_eq_zero_iff.1 (by rw [Array.length_toList]; exact h0)
                  rw [← HT.out.1, e]; rfl)
                have HNO : Hid (t = [] ∨ m < t.length) := Lib.hid ((HTN.out T HE.out).1.2 (.inl h0))
                clear HTN
                go_wp2_with fail
                go_ret2
                exact ⟨HK3.out.ob, fun _ => ⟨rfl, HB3.out⟩, fun h => absurd HNO.out h⟩
              · obtain ⟨u, hu⟩ : ∃ u, T.size = u + 1 := ⟨T.size - 1, by omega⟩
                have hi : (T.size : Int) - 1 = (u : Int) := by omega
                have hj2 : u < T.size := by omega
                have hjz2 : (u : Int) < (T.size : Int) := by omega
                have hu0 : (0 : Int) ≤ (u : Int) := by omega
                have huz : (u : Int) ≤ (T.size : Int) := by omega
                have hsn := snoc_of T u hu
                have hbl := bls_iff T[u]
                by_cases hblank : bls.contains T[u] = true
                · have HT2 : Hid (Lib.trimRightS (T.extract 0 u).data.toList bls = t ∧ (T.extract 0 u).size ≤ 1000000) := Lib.hid ⟨by rw [← HT.out.1, hsn, trimR_snoc, if_pos hblank], by rw [ByteArray.size_extract]; omega⟩
                  have hsz2 : (T.extract 0 u).size = u := by rw [ByteArray.size_extract]; omega
                  have HS2 := Lib.hid hsz2
                  have h329 := hbl.1 hblank
                  clear hsn hbl hblank h0 hsz2
                  by_cases h32 : (T[u].toNat : Int) = 32
                  · have p1 : ((T[u].toNat : Int) == 32) = true := beq_iff_eq.2 h32
                    clear h32 h329
                    go_wp2_with fail
                    go_roundw
                    case rel => exact ⟨_, rfl, HT2, by simp⟩
                    case measure => (show (T.extract 0 u).size < T.size; rw [HS2.out]; omega)
                  · have p1 : ((T[u].toNat : Int) == 32) = false := beq_eq_false_iff_ne.2 h32
                    have p2 : ((T[u].toNat : Int) == 9) = true := beq_iff_eq.2 (h329.resolve_left h32)
                    clear h32 h329
                    go_wp2_with fail
                    go_roundw
                    case rel => exact ⟨_, rfl, HT2, by simp⟩
                    case measure => (show (T.extract 0 u).size < T.size; rw [HS2.out]; omega)
                · have HE : Hid (T.data.toList = t) := Lib.hid (by rw [← HT.out.1]; conv => rhs; rw [hsn, trimR_snoc, if_neg hblank]
                                                                   exact hsn)
                  have hnb : ¬ ((T[u].toNat : Int) = 32 ∨ (T[u].toNat : Int) = 9) := fun h => hblank (hbl.2 h)
                  have p1 : ((T[u].toNat : Int) == 32) = false := beq_eq_false_iff_ne.2 (fun h => hnb (.inl h))
                  have p2 : ((T[u].toNat : Int) == 9) = false := beq_eq_false_iff_ne.2 (fun h => hnb (.inr h))
                  have HTE := Lib.hid (HTN.out T HE.out)
                  clear hsn hbl hblank hnb
                  by_cases hm : m < (T.size : Int)
                  · have HNO : Hid (t = [] ∨ m < t.length) := Lib.hid (HTE.out.1.2 (.inr hm))
                    have m2 : decide (m < (T.size : Int)) = true := decide_eq_true hm
                    have m3 : decide (m < (u : Int) + 1) = true := decide_eq_true (by omega)
                    clear hm HTN
                    go_wp2_with fail
                    go_ret2
                    exact ⟨HK3.out.ob, fun _ => ⟨rfl, HB3.out⟩, fun h => absurd HNO.out h⟩
                  · have HNO : Hid (¬ (t = [] ∨ m < t.length)) := Lib.hid (fun h => by rcases HTE.out.1.1 h with h | h; exact h0 h; exact hm h)
                    have m2 : decide (m < (T.size : Int)) = false := decide_eq_false hm
                    have m3 : decide (m < (u : Int) + 1) = false := decide_eq_false (by omega)
                    have HSET := Lib.hid (Blk.set HB3.out 1 (.int .i64 (j : Int)))
                    have HSK := Lib.hid (Keep.setOb wr q 1 (.int .i64 (j : Int)))
                    clear hm HTN
                    go_wp2_with fail
                    go_ret2
                    exact ⟨HK3.out.ob.trans HSK.out (fun _ _ h => h), fun h => absurd h HNO.out, fun _ => ⟨by rw [← HTE.out.2]; rfl, by rw [← HEJ.out]; exact HSET.out⟩⟩
          · have q2 : ((s[j].toNat : Int) != 59) = true := bne_iff_ne.2 w2
            have q3 : ((s[j].toNat : Int) != 125) = false := by rw [(hw.resolve_left w1).resolve_left w2]; rfl
            clear hw w1 w2
            go_wp2_with fail
            refine wp_region_x (by kernel_rfl) (by kernel_rfl) ?_; (repeat (go_big_quiet_step ((fail)))); refine wpQuiet_nil ?_; rintro w3 ⟨⟨_, hk3⟩, rfl⟩
            have HB3 := Lib.hid (HB.out.keep hk3 id)
            have HK3 := Lib.hid hk3
            have d0 := HB3.out.cell 0 (u := .string s) rfl
            have d1 := HB3.out.cell 1 (u := .int .i64 (a : Int)) rfl
            have g1 := HB3.out.frozen 1
            have lr := HB3.out.lt
            clear hk3 c0 c1 f1 lq
            generalize s.extract a j = T0 at HW0 HTS ⊢
            go_wp2_with fail
            go_loopw [7] (fun x wr2 => ∃ T : ByteArray, x = .string T ∧ Hid (Lib.trimRightS T.data.toList bls = t ∧ T.size ≤ 1000000) ∧ wr2 = w3) (fun x _ => match x with | .string T => T.size | _ => 0)
            case atStart => exact ⟨T0, rfl, Lib.hid ⟨HW0.out, HTS.out⟩, rfl⟩
            case round =>
              clear HW0 HTS
              obtain ⟨T, rfl, HT, rfl⟩ := hrel
              have hT1 := HT.out.2
              by_cases h0 : T.size = 0
              · have HE : Hid (T.data.toList = t) := Lib.hid (by
                  have e : T.data.toList = [] := List.length_eq_zero_iff.1 (by rw [Array.length_toList]; exact h0)
                  rw [← HT.out.1, e]; rfl)
                have HNO : Hid (t = [] ∨ m < t.length) := Lib.hid ((HTN.out T HE.out).1.2 (.inl h0))
                clear HTN
                go_wp2_with fail
                go_ret2
                exact ⟨HK3.out.ob, fun _ => ⟨rfl, HB3.out⟩, fun h => absurd HNO.out h⟩
              · obtain ⟨u, hu⟩ : ∃ u, T.size = u + 1 := ⟨T.size - 1, by omega⟩
                have hi : (T.size : Int) - 1 = (u : Int) := by omega
                have hj2 : u < T.size := by omega
                have hjz2 : (u : Int) < (T.size : Int) := by omega
                have hu0 : (0 : Int) ≤ (u : Int) := by omega
                have huz : (u : Int) ≤ (T.size : Int) := by omega
                have hsn := snoc_of T u hu
                have hbl := bls_iff T[u]
                by_cases hblank : bls.contains T[u] = true
                · have HT2 : Hid (Lib.trimRightS (T.extract 0 u).data.toList bls = t ∧ (T.extract 0 u).size ≤ 1000000) := Lib.hid ⟨by rw [← HT.out.1, hsn, trimR_snoc, if_pos hblank], by rw [ByteArray.size_extract]; omega⟩
                  have hsz2 : (T.extract 0 u).size = u := by rw [ByteArray.size_extract]; omega
                  have HS2 := Lib.hid hsz2
                  have h329 := hbl.1 hblank
                  clear hsn hbl hblank h0 hsz2
                  by_cases h32 : (T[u].toNat : Int) = 32
                  · have p1 : ((T[u].toNat : Int) == 32) = true := beq_iff_eq.2 h32
                    clear h32 h329
                    go_wp2_with fail
                    go_roundw
                    case rel => exact ⟨_, rfl, HT2, by simp⟩
                    case measure => (show (T.extract 0 u).size < T.size; rw [HS2.out]; omega)
                  · have p1 : ((T[u].toNat : Int) == 32) = false := beq_eq_false_iff_ne.2 h32
                    have p2 : ((T[u].toNat : Int) == 9) = true := beq_iff_eq.2 (h329.resolve_left h32)
                    clear h32 h329
                    go_wp2_with fail
                    go_roundw
                    case rel => exact ⟨_, rfl, HT2, by simp⟩
                    case measure => (show (T.extract 0 u).size < T.size; rw [HS2.out]; omega)
                · have HE : Hid (T.data.toList = t) := Lib.hid (by rw [← HT.out.1]; conv => rhs; rw [hsn, trimR_snoc, if_neg hblank]
                                                                   exact hsn)
                  have hnb : ¬ ((T[u].toNat : Int) = 32 ∨ (T[u].toNat : Int) = 9) := fun h => hblank (hbl.2 h)
                  have p1 : ((T[u].toNat : Int) == 32) = false := beq_eq_false_iff_ne.2 (fun h => hnb (.inl h))
                  have p2 : ((T[u].toNat : Int) == 9) = false := beq_eq_false_iff_ne.2 (fun h => hnb (.inr h))
                  have HTE := Lib.hid (HTN.out T HE.out)
                  clear hsn hbl hblank hnb
                  by_cases hm : m < (T.size : Int)
                  · have HNO : Hid (t = [] ∨ m < t.length) := Lib.hid (HTE.out.1.2 (.inr hm))
                    have m2 : decide (m < (T.size : Int)) = true := decide_eq_true hm
                    have m3 : decide (m < (u : Int) + 1) = true := decide_eq_true (by omega)
                    clear hm HTN
                    go_wp2_with fail
                    go_ret2
                    exact ⟨HK3.out.ob, fun _ => ⟨rfl, HB3.out⟩, fun h => absurd HNO.out h⟩
                  · have HNO : Hid (¬ (t = [] ∨ m < t.length)) := Lib.hid (fun h => by rcases HTE.out.1.1 h with h | h; exact h0 h; exact hm h)
                    have m2 : decide (m < (T.size : Int)) = false := decide_eq_false hm
                    have m3 : decide (m < (u : Int) + 1) = false := decide_eq_false (by omega)
                    have HSET := Lib.hid (Blk.set HB3.out 1 (.int .i64 (j : Int)))
                    have HSK := Lib.hid (Keep.setOb wr q 1 (.int .i64 (j : Int)))
                    clear hm HTN
                    go_wp2_with fail
                    go_ret2
                    exact ⟨HK3.out.ob.trans HSK.out (fun _ _ h => h), fun h => absurd h HNO.out, fun _ => ⟨by rw [← HTE.out.2]; rfl, by rw [← HEJ.out]; exact HSET.out⟩⟩
      · have hkz : ¬ (j : Int) < (s.size : Int) := by omega
        go_wp2_with fail
        refine wp_region_x (by kernel_rfl) (by kernel_rfl) ?_; (repeat (go_big_quiet_step ((fail)))); refine wpQuiet_nil ?_; rintro w3 ⟨⟨_, hk3⟩, rfl⟩
        have HB3 := Lib.hid (HB.out.keep hk3 id)
        have HK3 := Lib.hid hk3
        have d0 := HB3.out.cell 0 (u := .string s) rfl
        have d1 := HB3.out.cell 1 (u := .int .i64 (a : Int)) rfl
        have g1 := HB3.out.frozen 1
        have lr := HB3.out.lt
        clear hk3 c0 c1 f1 lq
        generalize s.extract a j = T0 at HW0 HTS ⊢
        go_wp2_with fail
        go_loopw [7] (fun x wr2 => ∃ T : ByteArray, x = .string T ∧ Hid (Lib.trimRightS T.data.toList bls = t ∧ T.size ≤ 1000000) ∧ wr2 = w3) (fun x _ => match x with | .string T => T.size | _ => 0)
        case atStart => exact ⟨T0, rfl, Lib.hid ⟨HW0.out, HTS.out⟩, rfl⟩
        case round =>
          clear HW0 HTS
          obtain ⟨T, rfl, HT, rfl⟩ := hrel
          have hT1 := HT.out.2
          by_cases h0 : T.size = 0
          · have HE : Hid (T.data.toList = t) := Lib.hid (by
              have e : T.data.toList = [] := List.length_eq_zero_iff.1 (by rw [Array.length_toList]; exact h0)
              rw [← HT.out.1, e]; rfl)
            have HNO : Hid (t = [] ∨ m < t.length) := Lib.hid ((HTN.out T HE.out).1.2 (.inl h0))
            clear HTN
            go_wp2_with fail
            go_ret2
            exact ⟨HK3.out.ob, fun _ => ⟨rfl, HB3.out⟩, fun h => absurd HNO.out h⟩
          · obtain ⟨u, hu⟩ : ∃ u, T.size = u + 1 := ⟨T.size - 1, by omega⟩
            have hi : (T.size : Int) - 1 = (u : Int) := by omega
            have hj2 : u < T.size := by omega
            have hjz2 : (u : Int) < (T.size : Int) := by omega
            have hu0 : (0 : Int) ≤ (u : Int) := by omega
            have huz : (u : Int) ≤ (T.size : Int) := by omega
            have hsn := snoc_of T u hu
            have hbl := bls_iff T[u]
            by_cases hblank : bls.contains T[u] = true
            · have HT2 : Hid (Lib.trimRightS (T.extract 0 u).data.toList bls = t ∧ (T.extract 0 u).size ≤ 1000000) := Lib.hid ⟨by rw [← HT.out.1, hsn, trimR_snoc, if_pos hblank], by rw [ByteArray.size_extract]; omega⟩
              have hsz2 : (T.extract 0 u).size = u := by rw [ByteArray.size_extract]; omega
              have HS2 := Lib.hid hsz2
              have h329 := hbl.1 hblank
              clear hsn hbl hblank h0 hsz2
              by_cases h32 : (T[u].toNat : Int) = 32
              · have p1 : ((T[u].toNat : Int) == 32) = true := beq_iff_eq.2 h32
                clear h32 h329
                go_wp2_with fail
                go_roundw
                case rel => exact ⟨_, rfl, HT2, by simp⟩
                case measure => (show (T.extract 0 u).size < T.size; rw [HS2.out]; omega)
              · have p1 : ((T[u].toNat : Int) == 32) = false := beq_eq_false_iff_ne.2 h32
                have p2 : ((T[u].toNat : Int) == 9) = true := beq_iff_eq.2 (h329.resolve_left h32)
                clear h32 h329
                go_wp2_with fail
                go_roundw
                case rel => exact ⟨_, rfl, HT2, by simp⟩
                case measure => (show (T.extract 0 u).size < T.size; rw [HS2.out]; omega)
            · have HE : Hid (T.data.toList = t) := Lib.hid (by rw [← HT.out.1]; conv => rhs; rw [hsn, trimR_snoc, if_neg hblank]
                                                               exact hsn)
              have hnb : ¬ ((T[u].toNat : Int) = 32 ∨ (T[u].toNat : Int) = 9) := fun h => hblank (hbl.2 h)
              have p1 : ((T[u].toNat : Int) == 32) = false := beq_eq_false_iff_ne.2 (fun h => hnb (.inl h))
              have p2 : ((T[u].toNat : Int) == 9) = false := beq_eq_false_iff_ne.2 (fun h => hnb (.inr h))
              have HTE := Lib.hid (HTN.out T HE.out)
              clear hsn hbl hblank hnb
              by_cases hm : m < (T.size : Int)
              · have HNO : Hid (t = [] ∨ m < t.length) := Lib.hid (HTE.out.1.2 (.inr hm))
                have m2 : decide (m < (T.size : Int)) = true := decide_eq_true hm
                have m3 : decide (m < (u : Int) + 1) = true := decide_eq_true (by omega)
                clear hm HTN
                go_wp2_with fail
                go_ret2
                exact ⟨HK3.out.ob, fun _ => ⟨rfl, HB3.out⟩, fun h => absurd HNO.out h⟩
              · have HNO : Hid (¬ (t = [] ∨ m < t.length)) := Lib.hid (fun h => by rcases HTE.out.1.1 h with h | h; exact h0 h; exact hm h)
                have m2 : decide (m < (T.size : Int)) = false := decide_eq_false hm
                have m3 : decide (m < (u : Int) + 1) = false := decide_eq_false (by omega)
                have HSET := Lib.hid (Blk.set HB3.out 1 (.int .i64 (j : Int)))
                have HSK := Lib.hid (Keep.setOb wr q 1 (.int .i64 (j : Int)))
                clear hm HTN
                go_wp2_with fail
                go_ret2
                exact ⟨HK3.out.ob.trans HSK.out (fun _ _ h => h), fun h => absurd h HNO.out, fun _ => ⟨by rw [← HTE.out.2]; rfl, by rw [← HEJ.out]; exact HSET.out⟩⟩

end Go.Proofs.YtilnccjdbdcklaaDoor
