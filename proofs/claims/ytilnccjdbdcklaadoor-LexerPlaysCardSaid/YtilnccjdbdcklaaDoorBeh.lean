/- behind of the reference. Printed by gen_beh.py. -/
import Derived.Test.YtilnccjdbdcklaaDoorBrp
namespace Go.Proofs.YtilnccjdbdcklaaDoor
set_option linter.unusedVariables false
set_option linter.unusedSimpArgs false
open Go.RowKit

/-- A line from a on. -/
def lnA (s : ByteArray) (a : Nat) : List UInt8 := lnP (s.toList.drop a)
theorem ln_in {s : ByteArray} {a k : Nat} (h : k < (lnA s a).length) : ∃ h2 : a + k < s.size, s[a + k] = (lnA s a).getD k 0 ∧ s[a + k] ≠ 10 := by
  obtain ⟨h1, h2⟩ := tw_at _ _ _ h
  obtain ⟨h3, h4⟩ := drop_at s a k h1
  refine ⟨h3, ?_, by rw [← h4]; simpa using h2⟩
  rw [List.getD_eq_getElem?_getD, List.getElem?_eq_getElem h, ← h4]
  exact ((List.takeWhile_prefix _).getElem h).symm
theorem ln_end {s : ByteArray} {a : Nat} (h : a + (lnA s a).length < s.size) : s[a + (lnA s a).length] = 10 := by
  have h1 : (lnA s a).length < (s.toList.drop a).length := by rw [List.length_drop, toList_len]; omega
  have h2 := tw_end (· != (10 : UInt8)) (s.toList.drop a) h1
  obtain ⟨h3, h4⟩ := drop_at s a (lnA s a).length h1
  have h2' : ((s.toList.drop a)[(lnA s a).length] != 10) = false := h2
  rw [h4] at h2'
  simpa using h2'
theorem ln_le (s : ByteArray) (a : Nat) (ha : a ≤ s.size) : a + (lnA s a).length ≤ s.size := by
  have := tw_le (· != (10 : UInt8)) (s.toList.drop a)
  rw [List.length_drop, toList_len] at this
  unfold lnA lnP; omega
theorem occ_iff (L : List UInt8) (x : UInt8) (j : Nat) (h : j < L.length) : Lib.occAt L [x, 93] j = true ↔ (L.getD j 0 = x ∧ j + 1 < L.length ∧ L.getD (j + 1) 0 = 93) := by
  unfold Lib.occAt
  rw [List.drop_eq_getElem_cons h, List.getD_eq_getElem?_getD, List.getElem?_eq_getElem h]
  rw [List.isPrefixOf_cons_cons]
  by_cases h2 : j + 1 < L.length
  · rw [List.drop_eq_getElem_cons h2, List.isPrefixOf_cons_cons, List.getD_eq_getElem?_getD, List.getElem?_eq_getElem h2]
    simp only [List.isPrefixOf_nil_left, Bool.and_true, Bool.and_eq_true, beq_iff_eq, Option.getD_some]
    constructor
    · rintro ⟨h3, h4⟩; exact ⟨h3.symm, h2, h4.symm⟩
    · rintro ⟨h3, _, h4⟩; exact ⟨h3.symm, h4.symm⟩
  · rw [List.drop_eq_nil_iff.2 (by omega)]
    simp [List.isPrefixOf]; omega
theorem occ_drop (L : List UInt8) (x : UInt8) (k t : Nat) : Lib.occAt (L.drop k) [x, 93] t = Lib.occAt L [x, 93] (k + t) := by
  unfold Lib.occAt; rw [List.drop_drop]
theorem pre94 (L : List UInt8) : Lib.hasPrefix (L.drop 1) [94] = true ↔ (1 < L.length ∧ L.getD 1 0 = 94) := by
  match L with
  | [] => simp [Lib.hasPrefix]
  | [_] => simp [Lib.hasPrefix]
  | _ :: y :: r => simp [Lib.hasPrefix, List.isPrefixOf]; exact eq_comm
theorem u8i (c d : UInt8) (n : Nat) (hd : d.toNat = n) : c = d ↔ (c.toNat : Int) = (n : Int) := by
  constructor
  · intro h; rw [h, hd]
  · intro h; exact UInt8.toNat_inj.1 (by rw [hd]; omega)
theorem dts_iff (c : UInt8) : dts.contains c = true ↔ (c.toNat : Int) = 46 ∨ (c.toNat : Int) = 61 ∨ (c.toNat : Int) = 58 := by
  have h : ∀ n : Nat, n < 256 → (dts.contains (UInt8.ofNat n) = true ↔ n = 46 ∨ n = 61 ∨ n = 58) := by decide +kernel
  have := h c.toNat (UInt8.toNat_lt c)
  rw [UInt8.ofNat_toNat] at this
  rw [this]; omega

set_option maxHeartbeats 16000000 in
set_option maxRecDepth 100000 in
theorem behind_t (s : ByteArray) (a : Nat) (w : World) (hz : s.size ≤ 1000000) (ha : a < s.size) (h91a : s[a] = 91) :
    Calls Tryd.prog 49 #[.string s, .int .i64 (a : Int)] w fun e w' => e = .returned (.int .i64 (a + brk (lnA s a) : Nat)) ∧ Keep Nb w w' := by
  have HIN := Lib.hid (fun k h => ln_in (s := s) (a := a) (k := k) h)
  have HEND := Lib.hid (fun h => ln_end (s := s) (a := a) h)
  have hle := ln_le s a (Nat.le_of_lt ha)
  have hL1 : 1 ≤ (lnA s a).length := by
    rcases Nat.eq_zero_or_pos (lnA s a).length with h | h
    · exfalso
      have h6 := HEND.out (by omega)
      have h7 : s[a] = 10 := by rw [← h6]; congr 1; omega
      rw [h7] at h91a; exact absurd h91a (by decide)
    · exact h
  have hpre := pre94 (lnA s a)
  unfold brk
  generalize lnA s a = L at HIN HEND hle hL1 hpre ⊢
  obtain ⟨B, hB⟩ : ∃ B, brkF L L.length (if Lib.hasPrefix (L.drop 1) [94] = true then 2 else 1) true = B := ⟨_, rfl⟩
  rw [hB]
  have ha9 : a + 1 ≤ 9223372036854775807 := by omega
  clear h91a
  obtain ⟨px, hpx⟩ : ∃ px, Lib.hasPrefix (L.drop 1) [94] = px := ⟨_, rfl⟩
  rw [hpx] at hB
  obtain ⟨k0, hk0⟩ : ∃ k0 : Nat, k0 = if px = true then 2 else 1 := ⟨_, rfl⟩
  rw [← hk0] at hB
  have HBB := Lib.hid hB
  have HK0 : Hid (k0 ≤ L.length) := Lib.hid (by
    rw [hk0]; split
    · rename_i hp; have := (hpre.1 (hpx.trans hp)).1; omega
    · omega)
  go_enter Tryd.func49, Tryd.ntmps49
  go_upto_region 2 with fail
  go_cut [18] (fun x wx => x = .bool px ∧ wx = w)
  case first =>
    cases px with
    | true =>
      obtain ⟨hl, hg94⟩ := hpre.1 hpx
      obtain ⟨z1, z2, _⟩ := HIN.out 1 hl
      have hz94 : (s[a + 1].toNat : Int) = 94 := by rw [z2, hg94]; rfl
      have hkz : (a : Int) + 1 < (s.size : Int) := by omega
      have hk0' : (0 : Int) ≤ (a : Int) + 1 := by omega
      have hto0 : ((a : Int) + 1).toNat = a + 1 := by omega
      have q94 : ((s[a + 1].toNat : Int) == 94) = true := beq_iff_eq.2 hz94
      clear hpx hpre hl hg94 z2 hz94
      go_wp2_with fail
      go_meet
      exact ⟨rfl, by simp⟩
    | false =>
      by_cases z1 : a + 1 < s.size
      · have hz94 : (s[a + 1].toNat : Int) ≠ 94 := fun h => by
          have e94 : s[a + 1] = 94 := (u8i _ 94 94 rfl).2 h
          have h1L : 1 < L.length := by
            refine Nat.lt_of_le_of_ne (by omega) (fun e => ?_)
            have h6 := HEND.out (by omega)
            have h7 : s[a + 1] = 10 := by rw [← h6]; congr 1 <;> omega
            rw [h7] at e94; exact absurd e94 (by decide)
          obtain ⟨_, z2, _⟩ := HIN.out 1 h1L
          have := hpre.2 ⟨h1L, by rw [← z2]; exact e94⟩
          rw [hpx] at this; cases this
        have hkz : (a : Int) + 1 < (s.size : Int) := by omega
        have hk0' : (0 : Int) ≤ (a : Int) + 1 := by omega
        have hto0 : ((a : Int) + 1).toNat = a + 1 := by omega
        have q94 : ((s[a + 1].toNat : Int) == 94) = false := beq_eq_false_iff_ne.2 hz94
        clear hpx hpre hz94
        go_wp2_with fail
        go_meet
        exact ⟨rfl, by simp⟩
      · have hkz : ¬ (a : Int) + 1 < (s.size : Int) := by omega
        clear hpx hpre
        go_wp2_with fail
        go_meet
        exact ⟨rfl, by simp⟩
  case rest =>
  obtain ⟨rfl, rfl⟩ := hcut
  clear hpre hpx
  have ha8 : a + 2 ≤ 9223372036854775807 := by omega
  go_upto_if 18 with fail
  go_cut [1] (fun x wx => x = .int .i64 ((a + k0 : Nat) : Int) ∧ wx = wc)
  case first =>
    cases px with
    | true =>
      obtain rfl : k0 = 2 := hk0
      go_wp2_with fail
      go_meet
      exact ⟨by rw [show ((a + 2 : Nat) : Int) = (a : Int) + 1 + 1 by omega], by simp⟩
    | false =>
      obtain rfl : k0 = 1 := hk0
      go_wp2_with fail
      go_meet
      exact ⟨by rw [show ((a + 1 : Nat) : Int) = (a : Int) + 1 by omega], by simp⟩
  case rest =>
  obtain ⟨rfl, rfl⟩ := hcut
  clear hB
  go_wp2_with fail
  go_loopw [1, 5] (fun i fs wr => ∃ (k : Nat) (f : Bool) (n : Nat), k ≤ L.length ∧ L.length < n + k + 1 ∧ i = .int .i64 ((a + k : Nat) : Int) ∧ fs = .bool f ∧ Hid (brkF L n k f = B) ∧ wr = wc) (fun i _ _ => a + L.length - (intOf i).toNat)
  case atStart => exact ⟨k0, true, L.length, by have := HK0.out; omega, by omega, by first | rfl | go_num, rfl, Lib.hid HBB.out, rfl⟩
  case round =>
    clear HBB HK0
    obtain ⟨k, f, n1, hk, hn, rfl, rfl, HR, rfl⟩ := hrel
    obtain ⟨j, ej⟩ : ∃ j, j = a + k := ⟨_, rfl⟩
    rw [← ej]
    have HEJ := Lib.hid ej
    clear ej
    have hj8 : j + 2 ≤ 9223372036854775807 := by have := HEJ.out; omega
    rcases Nat.lt_or_ge k L.length with hltL | hge
    · obtain ⟨n, rfl⟩ : ∃ n, n1 = n + 1 := ⟨n1 - 1, by omega⟩
      obtain ⟨z1, z2, z3⟩ := HIN.out k hltL
      have hjs : j < s.size := by have := HEJ.out; omega
      have hg : s[j] = L.getD k 0 := by rw [← z2]; congr 1 <;> exact HEJ.out
      have hn10 : (s[j].toNat : Int) ≠ 10 := by
        rw [hg, ← z2]
        exact fun h => z3 ((u8i _ 10 10 rfl).2 h)
      clear z1 z2 z3
      have q10 : ((s[j].toNat : Int) != 10) = true := bne_iff_ne.2 hn10
      have hkz : (j : Int) < (s.size : Int) := by omega
      have hk0' : (0 : Int) ≤ (j : Int) := by omega
      have h93 := u8i s[j] 93 93 rfl
      have h91 := u8i s[j] 91 91 rfl
      clear hn10
      by_cases c93 : s[j] = 93
      · have q1 : ((s[j].toNat : Int) == 93) = true := beq_iff_eq.2 (h93.1 c93)
        have q2 : ((s[j].toNat : Int) == 91) = false := by rw [h93.1 c93]; rfl
        cases f with
        | false =>
          have HST := Lib.hid (brk_shut L n k hltL (by rw [← hg]; exact c93))
          have HRES : Hid ((j : Int) + 1 = (a : Int) + (B : Int)) := Lib.hid (by rw [← HR.out, HST.out, HEJ.out]; omega)
          clear c93 h93 h91 hg
          go_wp2_with fail
          go_ret
          exact ⟨by have h := HRES.out; first | (rw [← h]; rfl) | (rw [show ((a + B : Nat) : Int) = (j : Int) + 1 by omega]; rfl), Keep.refl _ _⟩
        | true =>
          have HST := Lib.hid (brk_next L n k true hltL (fun h => by cases h.2) (fun h => by rw [← hg, c93] at h; exact absurd h.1 (by decide)))
          clear c93 h93 h91 hg
          go_wp2_with fail
          go_roundw
          case rel => exact ⟨k + 1, false, n, by omega, by omega, by rw [show ((a + (k + 1) : Nat) : Int) = (j : Int) + 1 by have := HEJ.out; omega], rfl, Lib.hid (by rw [← HST.out]; exact HR.out), by simp⟩
          case measure => (have := HEJ.out; simp [intOf]; omega)
      · have q1 : ((s[j].toNat : Int) == 93) = false := beq_eq_false_iff_ne.2 (fun h => c93 (h93.2 h))
        have hn93 : ¬ (L.getD k 0 = 93 ∧ f = false) := fun h => c93 (by rw [hg]; exact h.1)
        by_cases c91 : s[j] = 91
        · have q2 : ((s[j].toNat : Int) == 91) = true := beq_iff_eq.2 (h91.1 c91)
          by_cases hk1z : j + 1 < s.size
          · have hkz1 : (j : Int) + 1 < (s.size : Int) := by omega
            have hk01' : (0 : Int) ≤ (j : Int) + 1 := by omega
            have hto : ((j : Int) + 1).toNat = j + 1 := by omega
            by_cases hin : dts.contains s[j + 1] = true
            · skip
              -- the inner loop
              have hx10 : ∀ h : j + 1 < s.size, s[j + 1] ≠ 10 := fun h e => by
                have h5 := hin
                rw [e] at h5; simp [dts] at h5
              have hk1L : k + 1 < L.length := by
                refine Nat.lt_of_le_of_ne (by omega) (fun e => ?_)
                have h6 := HEND.out (by rw [← e]; have := HEJ.out; omega)
                exact hx10 (by omega) (by rw [← h6]; congr 1; have := HEJ.out; omega)
              have hgx : L.getD (k + 1) 0 = s[j + 1] := by
                obtain ⟨z1, z2, _⟩ := HIN.out (k + 1) hk1L
                rw [← z2]; congr 1; have := HEJ.out; omega
              have hcond : L.getD k 0 = 91 ∧ k + 1 < L.length ∧ dts.contains (L.getD (k + 1) 0) = true := ⟨by rw [← hg]; exact c91, hk1L, by rw [hgx]; exact hin⟩
              have HL := Lib.hid (fun h3 => brk_lost L n k f hltL hn93 hcond h3)
              have HI := Lib.hid (fun h3 => brk_in L n k f hltL hn93 hcond h3)
              rw [hgx] at HL HI
              have hdd := (dts_iff _).1 hin
              have HX3 := Lib.hid (fun t (ht : k + 2 + t < L.length) => (occ_iff L s[j + 1] (k + 2 + t) ht))
              clear hx10 hgx hcond hin hn93 c93 h93 h91 hg c91
              rcases hdd with d1 | d1 | d1
              · have p46 : ((s[j + 1].toNat : Int) == 46) = true := beq_iff_eq.2 d1
                have HXI : Hid ((s[j + 1].toNat : Int) = (s[j + 1].toNat : Int)) := Lib.hid rfl
                obtain ⟨x, hx⟩ : ∃ x, x = s[j + 1] := ⟨_, rfl⟩
                have HXE := Lib.hid hx
                rw [← hx] at HL HI HX3
                clear hx
                clear d1
                go_wp2_with fail
                go_loopw [1] (fun i wr2 => ∃ t : Nat, k + 2 + t ≤ L.length ∧ i = .int .i64 ((a + (k + 2 + t) : Nat) : Int) ∧ Hid (Lib.NoOcc (L.drop (k + 2)) [x, 93] t) ∧ wr2 = wr) (fun i _ => a + L.length - (intOf i).toNat)
                case atStart => exact ⟨0, by omega, by rw [show ((a + (k + 2 + 0) : Nat) : Int) = (j : Int) + 2 by have := HEJ.out; omega], Lib.hid (Lib.NoOcc.zero _ _), rfl⟩
                case round =>
                  obtain ⟨t, ht, rfl, HN, rfl⟩ := hrel
                  obtain ⟨jj, ejj⟩ : ∃ jj, jj = a + (k + 2 + t) := ⟨_, rfl⟩
                  rw [← ejj]
                  have HJJ := Lib.hid ejj
                  clear ejj
                  have hj9 : jj + 2 ≤ 9223372036854775807 := by have := HJJ.out; omega
                  rcases Nat.lt_or_ge (k + 2 + t) L.length with hlt2 | hge2
                  · obtain ⟨y1, y2, y3⟩ := HIN.out (k + 2 + t) hlt2
                    have y1' : jj < s.size := by have := HJJ.out; omega
                    have y2' : s[jj] = L.getD (k + 2 + t) 0 := by rw [← y2]; congr 1 <;> exact HJJ.out
                    have y3' : (s[jj].toNat : Int) ≠ 10 := by
                      rw [y2', ← y2]
                      exact fun h => y3 ((u8i _ 10 10 rfl).2 h)
                    clear y1 y2 y3
                    have hjz : (jj : Int) < (s.size : Int) := by omega
                    have hj0 : (0 : Int) ≤ (jj : Int) := by omega
                    have r10 : ((s[jj].toNat : Int) != 10) = true := bne_iff_ne.2 y3'
                    have r10' : ((s[jj].toNat : Int) == 10) = false := beq_eq_false_iff_ne.2 y3'
                    have hoc := occ_drop L x (k + 2) t
                    have hoi := HX3.out t hlt2
                    by_cases hyx : s[jj] = x
                    · have ryx : ((s[jj].toNat : Int) == (s[j + 1].toNat : Int)) = true := by rw [hyx, HXE.out]; simp
                      by_cases hnx : jj + 1 < s.size
                      · have hnz : (jj : Int) + 1 < (s.size : Int) := by omega
                        have hn0' : (0 : Int) ≤ (jj : Int) + 1 := by omega
                        have hto2 : ((jj : Int) + 1).toNat = jj + 1 := by omega
                        by_cases h93' : s[jj + 1] = 93
                        · have r93 : ((s[jj + 1].toNat : Int) == 93) = true := by rw [h93']; rfl
                          have hj1L : k + 2 + t + 1 < L.length := by
                            refine Nat.lt_of_le_of_ne (by omega) (fun e => ?_)
                            have h6 := HEND.out (by rw [← e]; have := HJJ.out; omega)
                            have h7 : s[jj + 1] = 10 := by rw [← h6]; congr 1; have := HJJ.out; omega
                            rw [h7] at h93'; exact absurd h93' (by decide)
                          have hocc : Lib.occAt (L.drop (k + 2)) [x, 93] t = true := by
                            rw [hoc]
                            refine hoi.2 ⟨by rw [← y2']; exact hyx, hj1L, ?_⟩
                            obtain ⟨z1, z2, _⟩ := HIN.out (k + 2 + t + 1) hj1L
                            rw [← z2, ← h93']; congr 1; have := HJJ.out; omega
                          have hix := Lib.index_hit HN.out (by rw [List.length_drop]; omega) hocc
                          have HB := Lib.hid (HI.out (by rw [hix]; omega))
                          rw [hix] at HB
                          simp only [Int.toNat_natCast] at HB
                          have HJL := Lib.hid hj1L
                          clear hocc hix hoc hoi hyx h93' y2' y3' hj1L
                          go_wp2_with fail
                          go_roundw
                          case rel => exact ⟨k + t + 4, false, n, by have := HJL.out; omega, by omega, by rw [show ((a + (k + t + 4) : Nat) : Int) = (jj : Int) + 2 by have := HJJ.out; omega], rfl, Lib.hid (by rw [← HB.out]; exact HR.out), by simp⟩
                          case measure => (have := HJJ.out; have := HEJ.out; simp [intOf]; omega)
                        · have r93 : ((s[jj + 1].toNat : Int) == 93) = false := beq_eq_false_iff_ne.2 (fun h => h93' ((u8i _ 93 93 rfl).2 h))
                          have HN2 : Hid (Lib.NoOcc (L.drop (k + 2)) [x, 93] (t + 1)) := Lib.hid (HN.out.succ (by
                            rw [hoc]
                            refine Bool.eq_false_iff.2 (fun h => ?_)
                            obtain ⟨_, z1, z2⟩ := hoi.1 h
                            obtain ⟨z3, z4, _⟩ := HIN.out (k + 2 + t + 1) z1
                            refine h93' ?_
                            rw [← z2, ← z4]; congr 1; have := HJJ.out; omega))
                          clear hoc hoi hyx h93' y2' y3'
                          go_wp2_with fail
                          go_roundw
                          case rel => exact ⟨t + 1, by omega, by rw [show ((a + (k + 2 + (t + 1)) : Nat) : Int) = (jj : Int) + 1 by have := HJJ.out; omega], HN2, by simp⟩
                          case measure => (have := HJJ.out; simp [intOf]; omega)
                      · have hnz : ¬ (jj : Int) + 1 < (s.size : Int) := by omega
                        have HN2 : Hid (Lib.NoOcc (L.drop (k + 2)) [x, 93] (t + 1)) := Lib.hid (HN.out.succ (by
                          rw [hoc]
                          refine Bool.eq_false_iff.2 (fun h => ?_)
                          obtain ⟨_, z1, _⟩ := hoi.1 h
                          obtain ⟨z3, _, _⟩ := HIN.out (k + 2 + t + 1) z1
                          have := HJJ.out; omega))
                        clear hoc hoi hyx y2' y3'
                        go_wp2_with fail
                        go_roundw
                        case rel => exact ⟨t + 1, by omega, by rw [show ((a + (k + 2 + (t + 1)) : Nat) : Int) = (jj : Int) + 1 by have := HJJ.out; omega], HN2, by simp⟩
                        case measure => (have := HJJ.out; simp [intOf]; omega)
                    · have ryx : ((s[jj].toNat : Int) == (s[j + 1].toNat : Int)) = false := beq_eq_false_iff_ne.2 (fun h => hyx (by rw [HXE.out]; exact UInt8.toNat_inj.1 (by omega)))
                      have HN2 : Hid (Lib.NoOcc (L.drop (k + 2)) [x, 93] (t + 1)) := Lib.hid (HN.out.succ (by
                        rw [hoc]
                        refine Bool.eq_false_iff.2 (fun h => ?_)
                        exact hyx (by rw [y2']; exact (hoi.1 h).1)))
                      clear hoc hoi hyx y2' y3'
                      go_wp2_with fail
                      go_roundw
                      case rel => exact ⟨t + 1, by omega, by rw [show ((a + (k + 2 + (t + 1)) : Nat) : Int) = (jj : Int) + 1 by have := HJJ.out; omega], HN2, by simp⟩
                      case measure => (have := HJJ.out; simp [intOf]; omega)
                  · have hix := Lib.index_past (by simp) HN.out (by rw [List.length_drop]; simp only [List.length_cons, List.length_nil]; omega)
                    have HB := Lib.hid (HL.out (by rw [hix]; omega))
                    have HRES : Hid ((jj : Int) = (a : Int) + (B : Int)) := Lib.hid (by rw [← HR.out, HB.out, HJJ.out]; omega)
                    clear hix
                    by_cases hes : jj < s.size
                    · have h10 : s[jj] = 10 := by
                        have h6 := HEND.out (by have := HJJ.out; omega)
                        rw [← h6]; congr 1; have := HJJ.out; omega
                      have hjz : (jj : Int) < (s.size : Int) := by omega
                      have hj0 : (0 : Int) ≤ (jj : Int) := by omega
                      have r10 : ((s[jj].toNat : Int) != 10) = false := by rw [h10]; rfl
                      have r10' : ((s[jj].toNat : Int) == 10) = true := by rw [h10]; rfl
                      clear h10
                      go_wp2_with fail
                      go_ret
                      exact ⟨by have h := HRES.out; first | (rw [← h]; rfl) | (rw [show ((a + B : Nat) : Int) = (jj : Int) by omega]; rfl), Keep.refl _ _⟩
                    · have hjz : ¬ (jj : Int) < (s.size : Int) := by omega
                      have hjz2 : (s.size : Int) ≤ (jj : Int) := by omega
                      go_wp2_with fail
                      go_ret
                      exact ⟨by have h := HRES.out; first | (rw [← h]; rfl) | (rw [show ((a + B : Nat) : Int) = (jj : Int) by omega]; rfl), Keep.refl _ _⟩
              · have p46 : ((s[j + 1].toNat : Int) == 46) = false := by rw [d1]; rfl
                have p61 : ((s[j + 1].toNat : Int) == 61) = true := beq_iff_eq.2 d1
                have HXI : Hid ((s[j + 1].toNat : Int) = (s[j + 1].toNat : Int)) := Lib.hid rfl
                obtain ⟨x, hx⟩ : ∃ x, x = s[j + 1] := ⟨_, rfl⟩
                have HXE := Lib.hid hx
                rw [← hx] at HL HI HX3
                clear hx
                clear d1
                go_wp2_with fail
                go_loopw [1] (fun i wr2 => ∃ t : Nat, k + 2 + t ≤ L.length ∧ i = .int .i64 ((a + (k + 2 + t) : Nat) : Int) ∧ Hid (Lib.NoOcc (L.drop (k + 2)) [x, 93] t) ∧ wr2 = wr) (fun i _ => a + L.length - (intOf i).toNat)
                case atStart => exact ⟨0, by omega, by rw [show ((a + (k + 2 + 0) : Nat) : Int) = (j : Int) + 2 by have := HEJ.out; omega], Lib.hid (Lib.NoOcc.zero _ _), rfl⟩
                case round =>
                  obtain ⟨t, ht, rfl, HN, rfl⟩ := hrel
                  obtain ⟨jj, ejj⟩ : ∃ jj, jj = a + (k + 2 + t) := ⟨_, rfl⟩
                  rw [← ejj]
                  have HJJ := Lib.hid ejj
                  clear ejj
                  have hj9 : jj + 2 ≤ 9223372036854775807 := by have := HJJ.out; omega
                  rcases Nat.lt_or_ge (k + 2 + t) L.length with hlt2 | hge2
                  · obtain ⟨y1, y2, y3⟩ := HIN.out (k + 2 + t) hlt2
                    have y1' : jj < s.size := by have := HJJ.out; omega
                    have y2' : s[jj] = L.getD (k + 2 + t) 0 := by rw [← y2]; congr 1 <;> exact HJJ.out
                    have y3' : (s[jj].toNat : Int) ≠ 10 := by
                      rw [y2', ← y2]
                      exact fun h => y3 ((u8i _ 10 10 rfl).2 h)
                    clear y1 y2 y3
                    have hjz : (jj : Int) < (s.size : Int) := by omega
                    have hj0 : (0 : Int) ≤ (jj : Int) := by omega
                    have r10 : ((s[jj].toNat : Int) != 10) = true := bne_iff_ne.2 y3'
                    have r10' : ((s[jj].toNat : Int) == 10) = false := beq_eq_false_iff_ne.2 y3'
                    have hoc := occ_drop L x (k + 2) t
                    have hoi := HX3.out t hlt2
                    by_cases hyx : s[jj] = x
                    · have ryx : ((s[jj].toNat : Int) == (s[j + 1].toNat : Int)) = true := by rw [hyx, HXE.out]; simp
                      by_cases hnx : jj + 1 < s.size
                      · have hnz : (jj : Int) + 1 < (s.size : Int) := by omega
                        have hn0' : (0 : Int) ≤ (jj : Int) + 1 := by omega
                        have hto2 : ((jj : Int) + 1).toNat = jj + 1 := by omega
                        by_cases h93' : s[jj + 1] = 93
                        · have r93 : ((s[jj + 1].toNat : Int) == 93) = true := by rw [h93']; rfl
                          have hj1L : k + 2 + t + 1 < L.length := by
                            refine Nat.lt_of_le_of_ne (by omega) (fun e => ?_)
                            have h6 := HEND.out (by rw [← e]; have := HJJ.out; omega)
                            have h7 : s[jj + 1] = 10 := by rw [← h6]; congr 1; have := HJJ.out; omega
                            rw [h7] at h93'; exact absurd h93' (by decide)
                          have hocc : Lib.occAt (L.drop (k + 2)) [x, 93] t = true := by
                            rw [hoc]
                            refine hoi.2 ⟨by rw [← y2']; exact hyx, hj1L, ?_⟩
                            obtain ⟨z1, z2, _⟩ := HIN.out (k + 2 + t + 1) hj1L
                            rw [← z2, ← h93']; congr 1; have := HJJ.out; omega
                          have hix := Lib.index_hit HN.out (by rw [List.length_drop]; omega) hocc
                          have HB := Lib.hid (HI.out (by rw [hix]; omega))
                          rw [hix] at HB
                          simp only [Int.toNat_natCast] at HB
                          have HJL := Lib.hid hj1L
                          clear hocc hix hoc hoi hyx h93' y2' y3' hj1L
                          go_wp2_with fail
                          go_roundw
                          case rel => exact ⟨k + t + 4, false, n, by have := HJL.out; omega, by omega, by rw [show ((a + (k + t + 4) : Nat) : Int) = (jj : Int) + 2 by have := HJJ.out; omega], rfl, Lib.hid (by rw [← HB.out]; exact HR.out), by simp⟩
                          case measure => (have := HJJ.out; have := HEJ.out; simp [intOf]; omega)
                        · have r93 : ((s[jj + 1].toNat : Int) == 93) = false := beq_eq_false_iff_ne.2 (fun h => h93' ((u8i _ 93 93 rfl).2 h))
                          have HN2 : Hid (Lib.NoOcc (L.drop (k + 2)) [x, 93] (t + 1)) := Lib.hid (HN.out.succ (by
                            rw [hoc]
                            refine Bool.eq_false_iff.2 (fun h => ?_)
                            obtain ⟨_, z1, z2⟩ := hoi.1 h
                            obtain ⟨z3, z4, _⟩ := HIN.out (k + 2 + t + 1) z1
                            refine h93' ?_
                            rw [← z2, ← z4]; congr 1; have := HJJ.out; omega))
                          clear hoc hoi hyx h93' y2' y3'
                          go_wp2_with fail
                          go_roundw
                          case rel => exact ⟨t + 1, by omega, by rw [show ((a + (k + 2 + (t + 1)) : Nat) : Int) = (jj : Int) + 1 by have := HJJ.out; omega], HN2, by simp⟩
                          case measure => (have := HJJ.out; simp [intOf]; omega)
                      · have hnz : ¬ (jj : Int) + 1 < (s.size : Int) := by omega
                        have HN2 : Hid (Lib.NoOcc (L.drop (k + 2)) [x, 93] (t + 1)) := Lib.hid (HN.out.succ (by
                          rw [hoc]
                          refine Bool.eq_false_iff.2 (fun h => ?_)
                          obtain ⟨_, z1, _⟩ := hoi.1 h
                          obtain ⟨z3, _, _⟩ := HIN.out (k + 2 + t + 1) z1
                          have := HJJ.out; omega))
                        clear hoc hoi hyx y2' y3'
                        go_wp2_with fail
                        go_roundw
                        case rel => exact ⟨t + 1, by omega, by rw [show ((a + (k + 2 + (t + 1)) : Nat) : Int) = (jj : Int) + 1 by have := HJJ.out; omega], HN2, by simp⟩
                        case measure => (have := HJJ.out; simp [intOf]; omega)
                    · have ryx : ((s[jj].toNat : Int) == (s[j + 1].toNat : Int)) = false := beq_eq_false_iff_ne.2 (fun h => hyx (by rw [HXE.out]; exact UInt8.toNat_inj.1 (by omega)))
                      have HN2 : Hid (Lib.NoOcc (L.drop (k + 2)) [x, 93] (t + 1)) := Lib.hid (HN.out.succ (by
                        rw [hoc]
                        refine Bool.eq_false_iff.2 (fun h => ?_)
                        exact hyx (by rw [y2']; exact (hoi.1 h).1)))
                      clear hoc hoi hyx y2' y3'
                      go_wp2_with fail
                      go_roundw
                      case rel => exact ⟨t + 1, by omega, by rw [show ((a + (k + 2 + (t + 1)) : Nat) : Int) = (jj : Int) + 1 by have := HJJ.out; omega], HN2, by simp⟩
                      case measure => (have := HJJ.out; simp [intOf]; omega)
                  · have hix := Lib.index_past (by simp) HN.out (by rw [List.length_drop]; simp only [List.length_cons, List.length_nil]; omega)
                    have HB := Lib.hid (HL.out (by rw [hix]; omega))
                    have HRES : Hid ((jj : Int) = (a : Int) + (B : Int)) := Lib.hid (by rw [← HR.out, HB.out, HJJ.out]; omega)
                    clear hix
                    by_cases hes : jj < s.size
                    · have h10 : s[jj] = 10 := by
                        have h6 := HEND.out (by have := HJJ.out; omega)
                        rw [← h6]; congr 1; have := HJJ.out; omega
                      have hjz : (jj : Int) < (s.size : Int) := by omega
                      have hj0 : (0 : Int) ≤ (jj : Int) := by omega
                      have r10 : ((s[jj].toNat : Int) != 10) = false := by rw [h10]; rfl
                      have r10' : ((s[jj].toNat : Int) == 10) = true := by rw [h10]; rfl
                      clear h10
                      go_wp2_with fail
                      go_ret
                      exact ⟨by have h := HRES.out; first | (rw [← h]; rfl) | (rw [show ((a + B : Nat) : Int) = (jj : Int) by omega]; rfl), Keep.refl _ _⟩
                    · have hjz : ¬ (jj : Int) < (s.size : Int) := by omega
                      have hjz2 : (s.size : Int) ≤ (jj : Int) := by omega
                      go_wp2_with fail
                      go_ret
                      exact ⟨by have h := HRES.out; first | (rw [← h]; rfl) | (rw [show ((a + B : Nat) : Int) = (jj : Int) by omega]; rfl), Keep.refl _ _⟩
              · have p46 : ((s[j + 1].toNat : Int) == 46) = false := by rw [d1]; rfl
                have p61 : ((s[j + 1].toNat : Int) == 61) = false := by rw [d1]; rfl
                have p58 : ((s[j + 1].toNat : Int) == 58) = true := beq_iff_eq.2 d1
                have HXI : Hid ((s[j + 1].toNat : Int) = (s[j + 1].toNat : Int)) := Lib.hid rfl
                obtain ⟨x, hx⟩ : ∃ x, x = s[j + 1] := ⟨_, rfl⟩
                have HXE := Lib.hid hx
                rw [← hx] at HL HI HX3
                clear hx
                clear d1
                go_wp2_with fail
                go_loopw [1] (fun i wr2 => ∃ t : Nat, k + 2 + t ≤ L.length ∧ i = .int .i64 ((a + (k + 2 + t) : Nat) : Int) ∧ Hid (Lib.NoOcc (L.drop (k + 2)) [x, 93] t) ∧ wr2 = wr) (fun i _ => a + L.length - (intOf i).toNat)
                case atStart => exact ⟨0, by omega, by rw [show ((a + (k + 2 + 0) : Nat) : Int) = (j : Int) + 2 by have := HEJ.out; omega], Lib.hid (Lib.NoOcc.zero _ _), rfl⟩
                case round =>
                  obtain ⟨t, ht, rfl, HN, rfl⟩ := hrel
                  obtain ⟨jj, ejj⟩ : ∃ jj, jj = a + (k + 2 + t) := ⟨_, rfl⟩
                  rw [← ejj]
                  have HJJ := Lib.hid ejj
                  clear ejj
                  have hj9 : jj + 2 ≤ 9223372036854775807 := by have := HJJ.out; omega
                  rcases Nat.lt_or_ge (k + 2 + t) L.length with hlt2 | hge2
                  · obtain ⟨y1, y2, y3⟩ := HIN.out (k + 2 + t) hlt2
                    have y1' : jj < s.size := by have := HJJ.out; omega
                    have y2' : s[jj] = L.getD (k + 2 + t) 0 := by rw [← y2]; congr 1 <;> exact HJJ.out
                    have y3' : (s[jj].toNat : Int) ≠ 10 := by
                      rw [y2', ← y2]
                      exact fun h => y3 ((u8i _ 10 10 rfl).2 h)
                    clear y1 y2 y3
                    have hjz : (jj : Int) < (s.size : Int) := by omega
                    have hj0 : (0 : Int) ≤ (jj : Int) := by omega
                    have r10 : ((s[jj].toNat : Int) != 10) = true := bne_iff_ne.2 y3'
                    have r10' : ((s[jj].toNat : Int) == 10) = false := beq_eq_false_iff_ne.2 y3'
                    have hoc := occ_drop L x (k + 2) t
                    have hoi := HX3.out t hlt2
                    by_cases hyx : s[jj] = x
                    · have ryx : ((s[jj].toNat : Int) == (s[j + 1].toNat : Int)) = true := by rw [hyx, HXE.out]; simp
                      by_cases hnx : jj + 1 < s.size
                      · have hnz : (jj : Int) + 1 < (s.size : Int) := by omega
                        have hn0' : (0 : Int) ≤ (jj : Int) + 1 := by omega
                        have hto2 : ((jj : Int) + 1).toNat = jj + 1 := by omega
                        by_cases h93' : s[jj + 1] = 93
                        · have r93 : ((s[jj + 1].toNat : Int) == 93) = true := by rw [h93']; rfl
                          have hj1L : k + 2 + t + 1 < L.length := by
                            refine Nat.lt_of_le_of_ne (by omega) (fun e => ?_)
                            have h6 := HEND.out (by rw [← e]; have := HJJ.out; omega)
                            have h7 : s[jj + 1] = 10 := by rw [← h6]; congr 1; have := HJJ.out; omega
                            rw [h7] at h93'; exact absurd h93' (by decide)
                          have hocc : Lib.occAt (L.drop (k + 2)) [x, 93] t = true := by
                            rw [hoc]
                            refine hoi.2 ⟨by rw [← y2']; exact hyx, hj1L, ?_⟩
                            obtain ⟨z1, z2, _⟩ := HIN.out (k + 2 + t + 1) hj1L
                            rw [← z2, ← h93']; congr 1; have := HJJ.out; omega
                          have hix := Lib.index_hit HN.out (by rw [List.length_drop]; omega) hocc
                          have HB := Lib.hid (HI.out (by rw [hix]; omega))
                          rw [hix] at HB
                          simp only [Int.toNat_natCast] at HB
                          have HJL := Lib.hid hj1L
                          clear hocc hix hoc hoi hyx h93' y2' y3' hj1L
                          go_wp2_with fail
                          go_roundw
                          case rel => exact ⟨k + t + 4, false, n, by have := HJL.out; omega, by omega, by rw [show ((a + (k + t + 4) : Nat) : Int) = (jj : Int) + 2 by have := HJJ.out; omega], rfl, Lib.hid (by rw [← HB.out]; exact HR.out), by simp⟩
                          case measure => (have := HJJ.out; have := HEJ.out; simp [intOf]; omega)
                        · have r93 : ((s[jj + 1].toNat : Int) == 93) = false := beq_eq_false_iff_ne.2 (fun h => h93' ((u8i _ 93 93 rfl).2 h))
                          have HN2 : Hid (Lib.NoOcc (L.drop (k + 2)) [x, 93] (t + 1)) := Lib.hid (HN.out.succ (by
                            rw [hoc]
                            refine Bool.eq_false_iff.2 (fun h => ?_)
                            obtain ⟨_, z1, z2⟩ := hoi.1 h
                            obtain ⟨z3, z4, _⟩ := HIN.out (k + 2 + t + 1) z1
                            refine h93' ?_
                            rw [← z2, ← z4]; congr 1; have := HJJ.out; omega))
                          clear hoc hoi hyx h93' y2' y3'
                          go_wp2_with fail
                          go_roundw
                          case rel => exact ⟨t + 1, by omega, by rw [show ((a + (k + 2 + (t + 1)) : Nat) : Int) = (jj : Int) + 1 by have := HJJ.out; omega], HN2, by simp⟩
                          case measure => (have := HJJ.out; simp [intOf]; omega)
                      · have hnz : ¬ (jj : Int) + 1 < (s.size : Int) := by omega
                        have HN2 : Hid (Lib.NoOcc (L.drop (k + 2)) [x, 93] (t + 1)) := Lib.hid (HN.out.succ (by
                          rw [hoc]
                          refine Bool.eq_false_iff.2 (fun h => ?_)
                          obtain ⟨_, z1, _⟩ := hoi.1 h
                          obtain ⟨z3, _, _⟩ := HIN.out (k + 2 + t + 1) z1
                          have := HJJ.out; omega))
                        clear hoc hoi hyx y2' y3'
                        go_wp2_with fail
                        go_roundw
                        case rel => exact ⟨t + 1, by omega, by rw [show ((a + (k + 2 + (t + 1)) : Nat) : Int) = (jj : Int) + 1 by have := HJJ.out; omega], HN2, by simp⟩
                        case measure => (have := HJJ.out; simp [intOf]; omega)
                    · have ryx : ((s[jj].toNat : Int) == (s[j + 1].toNat : Int)) = false := beq_eq_false_iff_ne.2 (fun h => hyx (by rw [HXE.out]; exact UInt8.toNat_inj.1 (by omega)))
                      have HN2 : Hid (Lib.NoOcc (L.drop (k + 2)) [x, 93] (t + 1)) := Lib.hid (HN.out.succ (by
                        rw [hoc]
                        refine Bool.eq_false_iff.2 (fun h => ?_)
                        exact hyx (by rw [y2']; exact (hoi.1 h).1)))
                      clear hoc hoi hyx y2' y3'
                      go_wp2_with fail
                      go_roundw
                      case rel => exact ⟨t + 1, by omega, by rw [show ((a + (k + 2 + (t + 1)) : Nat) : Int) = (jj : Int) + 1 by have := HJJ.out; omega], HN2, by simp⟩
                      case measure => (have := HJJ.out; simp [intOf]; omega)
                  · have hix := Lib.index_past (by simp) HN.out (by rw [List.length_drop]; simp only [List.length_cons, List.length_nil]; omega)
                    have HB := Lib.hid (HL.out (by rw [hix]; omega))
                    have HRES : Hid ((jj : Int) = (a : Int) + (B : Int)) := Lib.hid (by rw [← HR.out, HB.out, HJJ.out]; omega)
                    clear hix
                    by_cases hes : jj < s.size
                    · have h10 : s[jj] = 10 := by
                        have h6 := HEND.out (by have := HJJ.out; omega)
                        rw [← h6]; congr 1; have := HJJ.out; omega
                      have hjz : (jj : Int) < (s.size : Int) := by omega
                      have hj0 : (0 : Int) ≤ (jj : Int) := by omega
                      have r10 : ((s[jj].toNat : Int) != 10) = false := by rw [h10]; rfl
                      have r10' : ((s[jj].toNat : Int) == 10) = true := by rw [h10]; rfl
                      clear h10
                      go_wp2_with fail
                      go_ret
                      exact ⟨by have h := HRES.out; first | (rw [← h]; rfl) | (rw [show ((a + B : Nat) : Int) = (jj : Int) by omega]; rfl), Keep.refl _ _⟩
                    · have hjz : ¬ (jj : Int) < (s.size : Int) := by omega
                      have hjz2 : (s.size : Int) ≤ (jj : Int) := by omega
                      go_wp2_with fail
                      go_ret
                      exact ⟨by have h := HRES.out; first | (rw [← h]; rfl) | (rw [show ((a + B : Nat) : Int) = (jj : Int) by omega]; rfl), Keep.refl _ _⟩
            · have HST := Lib.hid (brk_next L n k f hltL hn93 (fun h => hin (by
                obtain ⟨z1, z2, _⟩ := HIN.out (k + 1) h.2.1
                have e : L.getD (k + 1) 0 = s[j + 1] := by rw [← z2]; congr 1; have := HEJ.out; omega
                rw [← e]; exact h.2.2)))
              have hdi := dts_iff s[j + 1]
              have p46 : ((s[j + 1].toNat : Int) == 46) = false := beq_eq_false_iff_ne.2 (fun h => hin (hdi.2 (.inl h)))
              have p61 : ((s[j + 1].toNat : Int) == 61) = false := beq_eq_false_iff_ne.2 (fun h => hin (hdi.2 (.inr (.inl h))))
              have p58 : ((s[j + 1].toNat : Int) == 58) = false := beq_eq_false_iff_ne.2 (fun h => hin (hdi.2 (.inr (.inr h))))
              clear c93 h93 h91 hg hn93 c91 hin hdi
              go_wp2_with fail
              go_roundw
              case rel => exact ⟨k + 1, false, n, by omega, by omega, by rw [show ((a + (k + 1) : Nat) : Int) = (j : Int) + 1 by have := HEJ.out; omega], rfl, Lib.hid (by rw [← HST.out]; exact HR.out), by simp⟩
              case measure => (have := HEJ.out; simp [intOf]; omega)
          · have hkz1 : ¬ (j : Int) + 1 < (s.size : Int) := by omega
            have HST := Lib.hid (brk_next L n k f hltL hn93 (fun h => hk1z (by
              obtain ⟨z1, _, _⟩ := HIN.out (k + 1) h.2.1
              have := HEJ.out; omega)))
            clear c93 h93 h91 hg hn93 c91
            go_wp2_with fail
            go_roundw
            case rel => exact ⟨k + 1, false, n, by omega, by omega, by rw [show ((a + (k + 1) : Nat) : Int) = (j : Int) + 1 by have := HEJ.out; omega], rfl, Lib.hid (by rw [← HST.out]; exact HR.out), by simp⟩
            case measure => (have := HEJ.out; simp [intOf]; omega)
        · have q2 : ((s[j].toNat : Int) == 91) = false := beq_eq_false_iff_ne.2 (fun h => c91 (h91.2 h))
          have HST := Lib.hid (brk_next L n k f hltL hn93 (fun h => c91 (by rw [hg]; exact h.1)))
          clear c93 h93 h91 hg hn93 c91
          go_wp2_with fail
          go_roundw
          case rel => exact ⟨k + 1, false, n, by omega, by omega, by rw [show ((a + (k + 1) : Nat) : Int) = (j : Int) + 1 by have := HEJ.out; omega], rfl, Lib.hid (by rw [← HST.out]; exact HR.out), by simp⟩
          case measure => (have := HEJ.out; simp [intOf]; omega)
    · have HST : Hid (brkF L n1 k f = L.length) := Lib.hid (by
        cases n1 with
        | zero => rfl
        | succ n => exact brk_end _ n _ f (by omega))
      have HRES : Hid ((j : Int) = (a : Int) + (B : Int)) := Lib.hid (by rw [← HR.out, HST.out, HEJ.out]; omega)
      by_cases hes : j < s.size
      · have h10 : s[j] = 10 := by
          have h6 := HEND.out (by have := HEJ.out; omega)
          rw [← h6]; congr 1; have := HEJ.out; omega
        have hjz : (j : Int) < (s.size : Int) := by omega
        have hj0 : (0 : Int) ≤ (j : Int) := by omega
        have r10 : ((s[j].toNat : Int) != 10) = false := by rw [h10]; rfl
        clear h10
        go_wp2_with fail
        go_ret
        exact ⟨by have h := HRES.out; first | (rw [← h]; rfl) | (rw [show ((a + B : Nat) : Int) = (j : Int) by omega]; rfl), Keep.refl _ _⟩
      · have hjz : ¬ (j : Int) < (s.size : Int) := by omega
        go_wp2_with fail
        go_ret
        exact ⟨by have h := HRES.out; first | (rw [← h]; rfl) | (rw [show ((a + B : Nat) : Int) = (j : Int) by omega]; rfl), Keep.refl _ _⟩

end Go.Proofs.YtilnccjdbdcklaaDoor
