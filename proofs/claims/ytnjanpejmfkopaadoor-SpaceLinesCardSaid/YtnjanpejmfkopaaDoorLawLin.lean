/- SpaceLines: all lines are read, in order. -/
import Derived.Test.YtnjanpejmfkopaaDoorLnP
namespace Go.Proofs.YtnjanpejmfkopaaDoor
set_option linter.unusedVariables false
set_option linter.unusedSimpArgs false
open Go.RowKit P8

theorem app_toList (a b : ByteArray) : (a ++ b).data.toList = a.data.toList ++ b.data.toList := by
  rw [ByteArray.data_append, Array.toList_append]
theorem ba_eq {a b : ByteArray} (h : a.data.toList = b.data.toList) : a = b := by
  cases a; cases b; congr 1; exact Array.toList_inj.1 h
theorem sz (a : ByteArray) : a.size = a.data.toList.length := by rw [Array.length_toList]; rfl

set_option maxHeartbeats 2000000 in
set_option maxRecDepth 100000 in
theorem lin_any (s : ByteArray) (w : World) (hm : Laid0 w) :
    Calls Tryd.prog 3 #[.string s] w fun e w' => e = .returned (.bool true) ∧ Keep Nb w w' := by
  have HM := Lib.hid hm
  have HFL := Lib.hid (lines_flat s)
  clear hm
  go_enter Tryd.func3, Tryd.ntmps3
  go_wp2_with fail
  refine (awake_any w HM.out).mono ?_
  rintro e w1 ⟨rfl, hk1⟩
  have HK1 := Lib.hid hk1
  have HM1 := Lib.hid (HM.out.keep hk1 id)
  clear hk1
  by_cases hbig : 5000 < s.size
  · have m1 : decide ((5000 : Int) < (s.size : Int)) = true := by simp; omega
    clear hbig
    go_wp2_with fail
    refine (awake_any w1 HM1.out).mono ?_
    rintro e w2 ⟨rfl, hk2⟩
    have HK2 := Lib.hid (HK1.out.trans hk2 (fun _ _ h => h))
    clear hk2
    go_wp2_with fail
    go_ret
    exact ⟨rfl, HK2.out⟩
  · have m1 : decide ((5000 : Int) < (s.size : Int)) = false := by simp; omega
    have HSZ : Hid (s.size ≤ 5000) := Lib.hid (by omega)
    clear hbig
    have HN := Lib.hid (new_any s (by have := HSZ.out; omega) w1 HM1.out)
    go_wp2_with fail
    refine HN.out.mono ?_
    rintro e w2 ⟨hk2, hb1, hb2⟩
    have HK2 := Lib.hid (HK1.out.trans hk2 (fun _ _ h => h))
    have HG : Hid (w.heap.size ≤ w1.heap.size) := Lib.hid HK1.out.size
    cases hbad : newBad s with
    | true =>
      obtain rfl := hb1 hbad
      clear hk2 hb1 hb2 HN hbad
      go_wp2_with fail
      go_ret
      exact ⟨rfl, HK2.out⟩
    | false =>
      obtain ⟨p, v, rfl, hp, hsp, hln⟩ := hb2 hbad
      have HSP := Lib.hid hsp
      have HLN := Lib.hid hln
      have HP := Lib.hid hp
      have HFZ : Hid ((flatL (linesP s)).length ≤ 5001) := Lib.hid (by
        have h2 : s.data.toList.length ≤ 5000 := by rw [← sz]; exact HSZ.out
        rw [HFL.out]; unfold endedL; split
        · exact Nat.zero_le _
        · split
          · omega
          · rw [List.length_append]; show _ + 1 ≤ _; omega)
      have hnn : (linesP s).length ≤ 9223372036854775807 := by obtain ⟨_, _, h2, _⟩ := HLN.out; omega
      clear hk2 hb1 hb2 HN hbad hsp hln hp
      generalize linesP s = ls at HFL HLN HFZ hnn
      have HLI := Lib.hid (lines_any p v 0 p ls w2 HSP.out HLN.out)
      go_wp2_with fail
      refine HLI.out.mono ?_
      rintro e w3 ⟨rfl, hw3⟩
      subst hw3
      clear HLI
      go_wp2_with fail
      go_loopw [5, 29] (fun a i wr => ∃ (k : Nat) (x : ByteArray), k ≤ ls.length ∧ i = .int .i64 (k : Int) ∧ a = .string x ∧ Hid (x.data.toList = flatL (ls.take k) ∧ SpAt wr p v (k : Int) ∧ LnAt p wr v ls ∧ Keep Nb w wr)) (fun _ i _ => ls.length - (intOf i).toNat)
      case atStart => exact ⟨0, ⟨#[]⟩, Nat.zero_le _, rfl, rfl, Lib.hid ⟨rfl, HSP.out, HLN.out, HK2.out⟩⟩
      case round =>
        clear HSP HLN HK2
        obtain ⟨k, x, hk, rfl, rfl, HR⟩ := hrel
        rcases Nat.lt_or_ge k ls.length with hlt | hge
        · have HNX := Lib.hid (next_some p v k p ls wr HR.out.2.1 HR.out.2.2.1 (Nat.le_refl _) hlt)
          have HFT := Lib.hid (flatL_take hlt)
          have hle1 := flatL_take_le ls (k + 1)
          have hxz : x.size ≤ 5001 ∧ (ls[k]).size + 1 ≤ 5001 ∧ x.size + (ls[k]).size + 1 ≤ 5001 := by
            have h1 := HFZ.out
            rw [flatL_take hlt, ← HR.out.1] at hle1
            simp only [List.length_append, List.length_cons, List.length_nil] at hle1
            rw [sz x, sz ls[k]]; omega
          clear hle1
          generalize ls[k] = y at HNX HFT hxz
          have n1 : ¬ 9223372036854775807 < x.size + y.size := by omega
          have n2 : ¬ 9223372036854775807 < (x ++ y).size + 1 := by rw [ByteArray.size_append]; omega
          have n3 : ¬ 9223372036854775807 < x.size + y.size + 1 := by omega
          clear hxz
          go_wp2_with fail
          refine HNX.out.mono ?_
          rintro e w4 ⟨rfl, hsp4, hk4⟩
          have HSP4 := Lib.hid hsp4
          have HLN4 := Lib.hid (HR.out.2.2.1.keep hk4 (fun b hb h => by simp only [Ob] at h; omega))
          have HKA : Hid (Keep Nb w w4) := Lib.hid (HR.out.2.2.2.trans hk4 (fun b hb h => by simp only [Ob] at h; have := HP.out; have := HG.out; omega))
          clear hsp4 hk4
          go_wp2_with fail
          go_roundw
          case rel => exact ⟨k + 1, _, by omega, by go_num, rfl, Lib.hid ⟨by rw [app_toList, app_toList, HFT.out, HR.out.1]; simp, HSP4.out, HLN4.out, HKA.out⟩⟩
          case measure => simp [intOf]; omega
        · obtain rfl : k = ls.length := by omega
          have HX : Hid (x.data.toList = endedL s.data.toList) := Lib.hid (by rw [HR.out.1, List.take_length, HFL.out])
          have HNE := Lib.hid (fun wx (hx : SpAt wx p v ((ls.length : Nat) : Int)) (hy : LnAt p wx v ls) => next_end p v ls.length p ls wx hx hy rfl)
          have HLA := Lib.hid (fun wx (hx : SpAt wx p v ((ls.length : Nat) : Int)) (hy : LnAt p wx v ls) => last_any p v ls.length p ls wx hx hy)
          have HSP5 := Lib.hid HR.out.2.1
          have HLN5 := Lib.hid HR.out.2.2.1
          have HK5 := Lib.hid HR.out.2.2.2
          clear HR HFL HFZ
          by_cases h0 : s.size = 0
          · have e1 : x = s := ba_eq (by
              rw [HX.out]; rw [sz] at h0; rw [List.length_eq_zero_iff.1 h0]; rfl)
            clear HX
            subst e1
            go_wp2_with fail
            refine (HNE.out wr HSP5.out HLN5.out).mono ?_
            rintro e w5 ⟨rfl, hk5⟩
            have HSP6 := Lib.hid (HSP5.out.keep hk5 id)
            have HLN6 := Lib.hid (HLN5.out.keep hk5 (fun _ _ h => h))
            have HK6 := Lib.hid (HK5.out.trans hk5 (fun _ _ h => h))
            clear hk5
            go_wp2_with fail
            refine (HLA.out w5 HSP6.out HLN6.out).mono ?_
            rintro e w6 ⟨rfl, hk6⟩
            have HK7 := Lib.hid (HK6.out.trans hk6 (fun _ _ h => h))
            clear hk6
            go_wp2_with fail
            go_ret
            exact ⟨by simp, HK7.out⟩
          · obtain ⟨m, hmm⟩ : ∃ m, s.size = m + 1 := ⟨s.size - 1, by omega⟩
            have m2 : decide ((0 : Int) < (s.size : Int)) = true := by simp; omega
            have hi : (s.size : Int) - 1 = (m : Int) := by omega
            have hj : m < s.size := by omega
            have hjz : (m : Int) < (s.size : Int) := by omega
            have hlast : s.data.toList.getLast? = some s[m] := by
              rw [List.getLast?_eq_getElem?, ← sz, hmm, Nat.add_sub_cancel]
              rw [Array.getElem?_toList, Array.getElem?_eq_getElem (by exact hj)]
              rfl
            have hne : s.data.toList ≠ [] := by intro e; rw [sz, e] at hmm; simp at hmm
            have HE : Hid (endedL s.data.toList = if s[m] = 10 then s.data.toList else s.data.toList ++ [10]) := Lib.hid (by
              unfold endedL
              rw [if_neg hne, hlast]
              simp)
            clear hlast hne h0
            have h0i : (0 : Int) ≤ (m : Int) := by omega
            have n4 : ¬ 9223372036854775807 < m + 1 + 1 := by have := HSZ.out; omega
            have hc8 : s[m] = 10 ↔ (s[m].toNat : Int) = 10 := by
              constructor
              · intro h; rw [h]; rfl
              · intro h; exact UInt8.toNat_inj.1 (by rw [show (10 : UInt8).toNat = 10 from rfl]; omega)
            by_cases hc : s[m] = 10
            · have hq : ((s[m].toNat : Int) != 10) = false := by rw [hc8.1 hc]; rfl
              have e1 : x = s := ba_eq (by rw [HX.out, HE.out, if_pos hc])
              clear hc8 hc HE HX
              subst e1
              go_wp2_with fail
              refine (HNE.out wr HSP5.out HLN5.out).mono ?_
              rintro e w5 ⟨rfl, hk5⟩
              have HSP6 := Lib.hid (HSP5.out.keep hk5 id)
              have HLN6 := Lib.hid (HLN5.out.keep hk5 (fun _ _ h => h))
              have HK6 := Lib.hid (HK5.out.trans hk5 (fun _ _ h => h))
              clear hk5
              go_wp2_with fail
              refine (HLA.out w5 HSP6.out HLN6.out).mono ?_
              rintro e w6 ⟨rfl, hk6⟩
              have HK7 := Lib.hid (HK6.out.trans hk6 (fun _ _ h => h))
              clear hk6
              go_wp2_with fail
              go_ret
              exact ⟨by simp, HK7.out⟩
            · have hq : ((s[m].toNat : Int) != 10) = true := by
                rw [bne_iff_ne]; exact fun h => hc (hc8.2 h)
              have e1 : x = s ++ ⟨#[10]⟩ := ba_eq (by rw [HX.out, HE.out, if_neg hc, app_toList])
              clear hc8 hc HE HX
              subst e1
              go_wp2_with fail
              refine (HNE.out wr HSP5.out HLN5.out).mono ?_
              rintro e w5 ⟨rfl, hk5⟩
              have HSP6 := Lib.hid (HSP5.out.keep hk5 id)
              have HLN6 := Lib.hid (HLN5.out.keep hk5 (fun _ _ h => h))
              have HK6 := Lib.hid (HK5.out.trans hk5 (fun _ _ h => h))
              clear hk5
              go_wp2_with fail
              refine (HLA.out w5 HSP6.out HLN6.out).mono ?_
              rintro e w6 ⟨rfl, hk6⟩
              have HK7 := Lib.hid (HK6.out.trans hk6 (fun _ _ h => h))
              clear hk6
              go_wp2_with fail
              go_ret
              exact ⟨by simp, HK7.out⟩

end Go.Proofs.YtnjanpejmfkopaaDoor
