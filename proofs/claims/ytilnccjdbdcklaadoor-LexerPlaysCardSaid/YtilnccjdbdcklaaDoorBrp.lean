/- bracket of the program. Printed by gen_brp.py. -/
import Derived.Test.YtilnccjdbdcklaaDoorBrk
namespace Go.Proofs.YtilnccjdbdcklaaDoor
set_option linter.unusedVariables false
set_option linter.unusedSimpArgs false
open Go.RowKit

theorem dts_byte (c : UInt8) : decide ((0 : Int) ≤ Lib.indexByte dts c) = dts.contains c := (Lib.contains_iff_indexByte dts c).symm
theorem getD_at (Ln : ByteArray) (k : Nat) (h : k < Ln.size) : Ln.data.toList.getD k 0 = Ln[k] := by
  have e : Ln.data.toList[k]? = some Ln[k] := Lib.data_getElem? Ln k h
  rw [List.getD_eq_getElem?_getD, e]; rfl

section
variable (L : List UInt8) (n k : Nat)
theorem brk_end (f : Bool) (h : ¬ k < L.length) : brkF L (n + 1) k f = L.length := by rw [brkF, if_neg h]
theorem brk_shut (h : k < L.length) (h1 : L.getD k 0 = 93) : brkF L (n + 1) k false = k + 1 := by rw [brkF, if_pos h, if_pos ⟨h1, rfl⟩]
theorem brk_next (f : Bool) (h : k < L.length) (h1 : ¬ (L.getD k 0 = 93 ∧ f = false)) (h2 : ¬ (L.getD k 0 = 91 ∧ k + 1 < L.length ∧ dts.contains (L.getD (k + 1) 0) = true)) : brkF L (n + 1) k f = brkF L n (k + 1) false := by
  rw [brkF, if_pos h, if_neg h1, if_neg h2]
theorem brk_lost (f : Bool) (h : k < L.length) (h1 : ¬ (L.getD k 0 = 93 ∧ f = false)) (h2 : L.getD k 0 = 91 ∧ k + 1 < L.length ∧ dts.contains (L.getD (k + 1) 0) = true) (h3 : Lib.index (L.drop (k + 2)) [L.getD (k + 1) 0, 93] < 0) : brkF L (n + 1) k f = L.length := by
  rw [brkF, if_pos h, if_neg h1, if_pos h2, if_pos h3]
theorem brk_in (f : Bool) (h : k < L.length) (h1 : ¬ (L.getD k 0 = 93 ∧ f = false)) (h2 : L.getD k 0 = 91 ∧ k + 1 < L.length ∧ dts.contains (L.getD (k + 1) 0) = true) (h3 : ¬ Lib.index (L.drop (k + 2)) [L.getD (k + 1) 0, 93] < 0) :
    brkF L (n + 1) k f = brkF L n (k + (Lib.index (L.drop (k + 2)) [L.getD (k + 1) 0, 93]).toNat + 4) false := by
  rw [brkF, if_pos h, if_neg h1, if_pos h2, if_neg h3]
theorem idx_room (d : UInt8) (h3 : ¬ Lib.index (L.drop (k + 2)) [d, 93] < 0) : k + (Lib.index (L.drop (k + 2)) [d, 93]).toNat + 4 ≤ L.length := by
  have := Lib.index_room (L.drop (k + 2)) [d, 93] (by omega)
  rw [List.length_drop] at this
  simp only [List.length_cons, List.length_nil] at this
  omega
end

set_option maxHeartbeats 8000000 in
set_option maxRecDepth 100000 in
theorem bracket_t (R : ByteArray) (w : World) (hm : Laid0 w) (hz : R.size ≤ 1000000) (h1 : 1 ≤ R.size) (h91 : R[0] = 91) :
    Calls Tryd.prog 43 #[.string R] w fun e w' => e = .returned (.int .i64 (brk (lnP R.data.toList) : Nat)) ∧ Keep Nb w w' := by
  have h4 := cut_t R ⟨#[10]⟩ w (by omega) hm
  have e2 : (Lib.cut R.data.toList (⟨#[10]⟩ : ByteArray).data.toList).1 = lnP R.data.toList := cut_line _
  rw [e2] at h4
  obtain ⟨Ln, hLn⟩ : ∃ Ln : ByteArray, Ln = ⟨(lnP R.data.toList).toArray⟩ := ⟨_, rfl⟩
  have hLl : lnP R.data.toList = Ln.data.toList := by rw [hLn]
  rw [← hLn] at h4
  have hls : Ln.size = (lnP R.data.toList).length := by rw [hLn]; rfl
  have hL1 : 1 ≤ Ln.size := by
    rw [hls]
    have hl : 0 < R.data.toList.length := by rw [Array.length_toList]; exact h1
    have e5 : R.data.toList = R[0] :: R.data.toList.drop 1 := by
      conv => lhs; rw [← List.drop_zero (l := R.data.toList), List.drop_eq_getElem_cons hl]
      rfl
    unfold lnP
    rw [e5, h91, List.takeWhile_cons, if_pos (by decide)]
    simp
  have hL9 : Ln.size ≤ 1000000 := by
    rw [hls]
    have := tw_le (· != (10 : UInt8)) R.data.toList
    rw [Array.length_toList] at this
    exact Nat.le_trans this hz
  have HNO : Hid (∀ x ∈ Ln.data.toList, x ≠ 10) := Lib.hid (by rw [← hLl]; exact lnP_no _)
  rw [hLl]
  have HC := Lib.hid h4
  have HM := Lib.hid hm
  have hlen : Ln.data.toList.length = Ln.size := by rw [Array.length_toList]; rfl
  clear hLn hLl hls e2 h4 h1 h91 hm
  have HP := Lib.hid (fun wx => prefix_t (Ln.extract 1 Ln.size) ⟨#[94]⟩ wx)
  have e3 : Lib.hasPrefix (Ln.extract 1 Ln.size).data.toList (⟨#[94]⟩ : ByteArray).data.toList = Lib.hasPrefix (Ln.data.toList.drop 1) [94] := by
    rw [Lib.extract_to_end]
  rw [e3] at HP
  clear e3
  unfold brk
  obtain ⟨k0, hk0⟩ : ∃ k0 : Nat, k0 = if Lib.hasPrefix (Ln.data.toList.drop 1) [94] then 2 else 1 := ⟨_, rfl⟩
  rw [← hk0]
  have HK0 : Hid (k0 ≤ Ln.size ∧ 1 ≤ k0) := Lib.hid (by
    rw [hk0]
    split
    · rename_i hp
      refine ⟨?_, by omega⟩
      have : 0 < (Ln.data.toList.drop 1).length := by
        cases hd : Ln.data.toList.drop 1 with
        | nil => rw [hd] at hp; simp [Lib.hasPrefix] at hp
        | cons x r => simp
      rw [List.length_drop, hlen] at this
      omega
    · omega)
  have HBK := Lib.hid (fun k h => getD_at Ln k h)
  have hb1 : (1 : Int) ≤ (Ln.size : Int) := by omega
  generalize hBB : brkF Ln.data.toList Ln.data.toList.length k0 true = B
  have HBB := Lib.hid hBB
  clear hBB
  have HCL := Lib.hid (fun k (hk : k + 1 < Ln.size) wx (hx : Laid0 wx) => closing_t (Ln.extract k Ln.size) Ln[k + 1] wx hx (by rw [ByteArray.size_extract]; omega) (by rw [ByteArray.size_extract]; omega)
    (by simp [ByteArray.getElem_extract])
    (fun x hx2 => HNO.out x (by rw [Lib.extract_to_end] at hx2; exact List.mem_of_mem_drop hx2)))
  go_enter Tryd.func43, Tryd.ntmps43
  go_wp2_with fail
  refine HC.out.mono ?_
  rintro e w2 ⟨rfl, hk2⟩
  have HK2 := Lib.hid hk2
  have HM2 := Lib.hid (HM.out.keep hk2 id)
  clear hk2
  generalize (Lib.cut R.data.toList (⟨#[10]⟩ : ByteArray).data.toList).2.1 = y1
  generalize (Lib.cut R.data.toList (⟨#[10]⟩ : ByteArray).data.toList).2.2 = y2
  have hk01 : ∀ b : Bool, Lib.hasPrefix (Ln.data.toList.drop 1) [94] = b → k0 = if b then 2 else 1 := fun b hb => by rw [hk0, hb]
  have HKB := Lib.hid hk01
  clear hk0 hk01
  generalize hpx : Lib.hasPrefix (Ln.data.toList.drop 1) [94] = px at HP
  have hk1 := HKB.out px hpx
  clear hpx HKB
  cases px with
  | true =>
    subst hk1
    have hk1' := HK0.out
    go_wp2_with fail
    refine (HP.out w2).mono ?_
    rintro e w3 ⟨rfl, rfl⟩
    go_wp2_with fail
    go_loopw [6, 7] (fun i fs wr => ∃ (k : Nat) (f : Bool) (n : Nat), k ≤ Ln.size ∧ Ln.size < n + k + 1 ∧ i = .int .i64 (k : Int) ∧ fs = .bool f ∧ Hid (brkF Ln.data.toList n k f = B ∧ Keep Nb w wr)) (fun i _ _ => Ln.size - (intOf i).toNat)
    case atStart => exact ⟨_, true, Ln.data.toList.length, HK0.out.1, by rw [hlen]; omega, rfl, rfl, Lib.hid ⟨HBB.out, HK2.out⟩⟩
    case round =>
      clear HK0 HBB HP
      obtain ⟨k, f, n1, hk, hn, rfl, rfl, HR⟩ := hrel
      have hn9 : Ln.size ≤ 9223372036854775807 := by omega
      rcases Nat.lt_or_ge k Ln.size with hlt | hge
      · obtain ⟨n, rfl⟩ : ∃ n, n1 = n + 1 := ⟨n1 - 1, by omega⟩
        have hg := HBK.out k hlt
        have hlt' : k < Ln.data.toList.length := by omega
        have hkz : (k : Int) < (Ln.size : Int) := by omega
        have hk0' : (0 : Int) ≤ (k : Int) := by omega
        have h93 : Ln[k] = 93 ↔ (Ln[k].toNat : Int) = 93 := by
          constructor
          · intro h; rw [h]; rfl
          · intro h; exact UInt8.toNat_inj.1 (by rw [show (93 : UInt8).toNat = 93 from rfl]; omega)
        have h91 : Ln[k] = 91 ↔ (Ln[k].toNat : Int) = 91 := by
          constructor
          · intro h; rw [h]; rfl
          · intro h; exact UInt8.toNat_inj.1 (by rw [show (91 : UInt8).toNat = 91 from rfl]; omega)
        by_cases c93 : Ln[k] = 93
        · have q1 : ((Ln[k].toNat : Int) == 93) = true := beq_iff_eq.2 (h93.1 c93)
          have q2 : ((Ln[k].toNat : Int) == 91) = false := by rw [h93.1 c93]; rfl
          cases f with
          | false =>
            have HST := Lib.hid (brk_shut Ln.data.toList n k hlt' (by rw [hg]; exact c93))
            clear c93 h93 h91 hg
            go_wp2_with fail
            go_ret
            exact ⟨by rw [← HR.out.1, HST.out]; rfl, HR.out.2⟩
          | true =>
            have HST := Lib.hid (brk_next Ln.data.toList n k true hlt' (fun h => by cases h.2) (fun h => by rw [hg, c93] at h; exact absurd h.1 (by decide)))
            clear c93 h93 h91 hg
            go_wp2_with fail
            go_roundw
            case rel => exact ⟨k + 1, false, n, by omega, by omega, by go_num, rfl, Lib.hid ⟨by rw [← HST.out]; exact HR.out.1, HR.out.2⟩⟩
            case measure => simp [intOf]; omega
        · have q1 : ((Ln[k].toNat : Int) == 93) = false := beq_eq_false_iff_ne.2 (fun h => c93 (h93.2 h))
          have hn93 : ¬ (Ln.data.toList.getD k 0 = 93 ∧ f = false) := fun h => c93 (by rw [← hg]; exact h.1)
          by_cases c91 : Ln[k] = 91
          · have q2 : ((Ln[k].toNat : Int) == 91) = true := beq_iff_eq.2 (h91.1 c91)
            by_cases hk1z : k + 1 < Ln.size
            · have hg1 := HBK.out (k + 1) hk1z
              have hkz1 : (k : Int) + 1 < (Ln.size : Int) := by omega
              have hk01' : (0 : Int) ≤ (k : Int) + 1 := by omega
              have hto : ((k : Int) + 1).toNat = k + 1 := by omega
              have HD := Lib.hid (fun wx => ibyte_t ⟨#[46, 61, 58]⟩ (Ln[k + 1].toNat : Int) wx)
              have hback : ((Ln[k + 1].toNat : Int)).toNat.toUInt8 = Ln[k + 1] := by simp
              have hdc := dts_byte Ln[k + 1]
              have HD2 : Hid (∀ wx : World, Calls Tryd.prog 58 #[.string ⟨#[46, 61, 58]⟩, .int .u8 (Ln[k + 1].toNat : Int)] wx fun e w' => e = .returned (.int .i64 (Lib.indexByte dts Ln[k + 1])) ∧ w' = wx) := Lib.hid (fun wx => by
                have h := HD.out wx
                rw [hback] at h
                exact h)
              clear HD hback
              by_cases hin : dts.contains Ln[k + 1] = true
              · have hv0 : (0 : Int) ≤ Lib.indexByte dts Ln[k + 1] := of_decide_eq_true (hdc.trans hin)
                have hcond : Ln.data.toList.getD k 0 = 91 ∧ k + 1 < Ln.data.toList.length ∧ dts.contains (Ln.data.toList.getD (k + 1) 0) = true := ⟨by rw [hg]; exact c91, by omega, by rw [hg1]; exact hin⟩
                have HL := Lib.hid (fun h3 => brk_lost Ln.data.toList n k f hlt' hn93 hcond h3)
                have HI := Lib.hid (fun h3 => brk_in Ln.data.toList n k f hlt' hn93 hcond h3)
                have HRM := Lib.hid (fun h3 => idx_room Ln.data.toList k (Ln.data.toList.getD (k + 1) 0) h3)
                have HCK := Lib.hid (fun wx hx => HCL.out k hk1z wx hx)
                have ed : (Ln.extract k Ln.size).data.toList.drop 2 = Ln.data.toList.drop (k + 2) := by rw [Lib.extract_to_end, List.drop_drop]
                rw [ed] at HCK
                rw [hg1] at HL HI HRM
                generalize Lib.indexByte dts Ln[k + 1] = v at HD2 hv0
                generalize Lib.index (Ln.data.toList.drop (k + 2)) [Ln[k + 1], 93] = ix at HL HI HRM HCK
                clear c93 h93 h91 hg hg1 hdc hin hcond hn93 ed c91
                go_wp2_with fail
                refine (HD2.out wr).mono ?_
                rintro e w4 ⟨rfl, rfl⟩
                have HCW := Lib.hid (HCK.out w4 (HM.out.keep HR.out.2 id))
                clear HCK HCL
                go_wp2_with fail
                refine HCW.out.mono ?_
                rintro e w5 ⟨hk5, g1, g2⟩
                have HK5 := Lib.hid (HR.out.2.trans hk5 (fun _ _ h => h))
                clear hk5
                by_cases hix : ix < 0
                · obtain rfl := g1 hix
                  have HB := Lib.hid (HL.out hix)
                  clear g1 g2 HL HI HRM hix
                  go_wp2_with fail
                  go_ret
                  exact ⟨by rw [← HR.out.1, HB.out, hlen]; rfl, HK5.out⟩
                · obtain rfl := g2 (by omega)
                  have HB := Lib.hid (HI.out (by omega))
                  have hrm := HRM.out (by omega)
                  obtain ⟨t, rfl⟩ : ∃ t : Nat, ix = t := ⟨ix.toNat, by omega⟩
                  have ht0 : ¬ (t : Int) + 4 < 0 := by omega
                  have m4 : decide ((t : Int) + 4 < 0) = false := decide_eq_false ht0
                  rw [hlen] at hrm
                  simp only [Int.toNat_natCast] at HB hrm
                  clear g1 g2 HL HI HRM hix
                  go_wp2_with fail
                  go_roundw
                  case rel => exact ⟨k + t + 4, false, n, by omega, by omega, by go_num, rfl, Lib.hid ⟨by rw [← HB.out]; exact HR.out.1, HK5.out⟩⟩
                  case measure => simp [intOf]; omega
              · have hvn : ¬ (0 : Int) ≤ Lib.indexByte dts Ln[k + 1] := fun h => hin (hdc ▸ decide_eq_true h)
                have HST := Lib.hid (brk_next Ln.data.toList n k f hlt' hn93 (fun h => hin (by rw [← hg1]; exact h.2.2)))
                generalize Lib.indexByte dts Ln[k + 1] = v at HD2 hvn
                clear c93 h93 h91 hg hg1 hdc hin hn93 c91
                go_wp2_with fail
                refine (HD2.out wr).mono ?_
                rintro e w4 ⟨rfl, rfl⟩
                go_wp2_with fail
                go_roundw
                case rel => exact ⟨k + 1, false, n, by omega, by omega, by go_num, rfl, Lib.hid ⟨by rw [← HST.out]; exact HR.out.1, HR.out.2⟩⟩
                case measure => simp [intOf]; omega
            · have hkz1 : ¬ (k : Int) + 1 < (Ln.size : Int) := by omega
              have HST := Lib.hid (brk_next Ln.data.toList n k f hlt' hn93 (fun h => hk1z (by have := h.2.1; omega)))
              clear c93 h93 h91 hg hn93 c91
              go_wp2_with fail
              go_roundw
              case rel => exact ⟨k + 1, false, n, by omega, by omega, by go_num, rfl, Lib.hid ⟨by rw [← HST.out]; exact HR.out.1, HR.out.2⟩⟩
              case measure => simp [intOf]; omega
          · have q2 : ((Ln[k].toNat : Int) == 91) = false := beq_eq_false_iff_ne.2 (fun h => c91 (h91.2 h))
            have HST := Lib.hid (brk_next Ln.data.toList n k f hlt' hn93 (fun h => c91 (by rw [← hg]; exact h.1)))
            clear c93 h93 h91 hg hn93 c91
            go_wp2_with fail
            go_roundw
            case rel => exact ⟨k + 1, false, n, by omega, by omega, by go_num, rfl, Lib.hid ⟨by rw [← HST.out]; exact HR.out.1, HR.out.2⟩⟩
            case measure => simp [intOf]; omega
      · have hge' : ¬ k < Ln.data.toList.length := by omega
        obtain rfl : k = Ln.size := by omega
        have HST : Hid (brkF Ln.data.toList n1 Ln.size f = Ln.data.toList.length) := Lib.hid (by
          cases n1 with
          | zero => rfl
          | succ n => exact brk_end _ n _ f hge')
        clear hge'
        go_wp2_with fail
        go_ret
        exact ⟨by rw [← HR.out.1, HST.out, hlen]; rfl, HR.out.2⟩
  | false =>
    subst hk1
    have hk1' := HK0.out
    go_wp2_with fail
    refine (HP.out w2).mono ?_
    rintro e w3 ⟨rfl, rfl⟩
    go_wp2_with fail
    go_loopw [6, 7] (fun i fs wr => ∃ (k : Nat) (f : Bool) (n : Nat), k ≤ Ln.size ∧ Ln.size < n + k + 1 ∧ i = .int .i64 (k : Int) ∧ fs = .bool f ∧ Hid (brkF Ln.data.toList n k f = B ∧ Keep Nb w wr)) (fun i _ _ => Ln.size - (intOf i).toNat)
    case atStart => exact ⟨_, true, Ln.data.toList.length, HK0.out.1, by rw [hlen]; omega, rfl, rfl, Lib.hid ⟨HBB.out, HK2.out⟩⟩
    case round =>
      clear HK0 HBB HP
      obtain ⟨k, f, n1, hk, hn, rfl, rfl, HR⟩ := hrel
      have hn9 : Ln.size ≤ 9223372036854775807 := by omega
      rcases Nat.lt_or_ge k Ln.size with hlt | hge
      · obtain ⟨n, rfl⟩ : ∃ n, n1 = n + 1 := ⟨n1 - 1, by omega⟩
        have hg := HBK.out k hlt
        have hlt' : k < Ln.data.toList.length := by omega
        have hkz : (k : Int) < (Ln.size : Int) := by omega
        have hk0' : (0 : Int) ≤ (k : Int) := by omega
        have h93 : Ln[k] = 93 ↔ (Ln[k].toNat : Int) = 93 := by
          constructor
          · intro h; rw [h]; rfl
          · intro h; exact UInt8.toNat_inj.1 (by rw [show (93 : UInt8).toNat = 93 from rfl]; omega)
        have h91 : Ln[k] = 91 ↔ (Ln[k].toNat : Int) = 91 := by
          constructor
          · intro h; rw [h]; rfl
          · intro h; exact UInt8.toNat_inj.1 (by rw [show (91 : UInt8).toNat = 91 from rfl]; omega)
        by_cases c93 : Ln[k] = 93
        · have q1 : ((Ln[k].toNat : Int) == 93) = true := beq_iff_eq.2 (h93.1 c93)
          have q2 : ((Ln[k].toNat : Int) == 91) = false := by rw [h93.1 c93]; rfl
          cases f with
          | false =>
            have HST := Lib.hid (brk_shut Ln.data.toList n k hlt' (by rw [hg]; exact c93))
            clear c93 h93 h91 hg
            go_wp2_with fail
            go_ret
            exact ⟨by rw [← HR.out.1, HST.out]; rfl, HR.out.2⟩
          | true =>
            have HST := Lib.hid (brk_next Ln.data.toList n k true hlt' (fun h => by cases h.2) (fun h => by rw [hg, c93] at h; exact absurd h.1 (by decide)))
            clear c93 h93 h91 hg
            go_wp2_with fail
            go_roundw
            case rel => exact ⟨k + 1, false, n, by omega, by omega, by go_num, rfl, Lib.hid ⟨by rw [← HST.out]; exact HR.out.1, HR.out.2⟩⟩
            case measure => simp [intOf]; omega
        · have q1 : ((Ln[k].toNat : Int) == 93) = false := beq_eq_false_iff_ne.2 (fun h => c93 (h93.2 h))
          have hn93 : ¬ (Ln.data.toList.getD k 0 = 93 ∧ f = false) := fun h => c93 (by rw [← hg]; exact h.1)
          by_cases c91 : Ln[k] = 91
          · have q2 : ((Ln[k].toNat : Int) == 91) = true := beq_iff_eq.2 (h91.1 c91)
            by_cases hk1z : k + 1 < Ln.size
            · have hg1 := HBK.out (k + 1) hk1z
              have hkz1 : (k : Int) + 1 < (Ln.size : Int) := by omega
              have hk01' : (0 : Int) ≤ (k : Int) + 1 := by omega
              have hto : ((k : Int) + 1).toNat = k + 1 := by omega
              have HD := Lib.hid (fun wx => ibyte_t ⟨#[46, 61, 58]⟩ (Ln[k + 1].toNat : Int) wx)
              have hback : ((Ln[k + 1].toNat : Int)).toNat.toUInt8 = Ln[k + 1] := by simp
              have hdc := dts_byte Ln[k + 1]
              have HD2 : Hid (∀ wx : World, Calls Tryd.prog 58 #[.string ⟨#[46, 61, 58]⟩, .int .u8 (Ln[k + 1].toNat : Int)] wx fun e w' => e = .returned (.int .i64 (Lib.indexByte dts Ln[k + 1])) ∧ w' = wx) := Lib.hid (fun wx => by
                have h := HD.out wx
                rw [hback] at h
                exact h)
              clear HD hback
              by_cases hin : dts.contains Ln[k + 1] = true
              · have hv0 : (0 : Int) ≤ Lib.indexByte dts Ln[k + 1] := of_decide_eq_true (hdc.trans hin)
                have hcond : Ln.data.toList.getD k 0 = 91 ∧ k + 1 < Ln.data.toList.length ∧ dts.contains (Ln.data.toList.getD (k + 1) 0) = true := ⟨by rw [hg]; exact c91, by omega, by rw [hg1]; exact hin⟩
                have HL := Lib.hid (fun h3 => brk_lost Ln.data.toList n k f hlt' hn93 hcond h3)
                have HI := Lib.hid (fun h3 => brk_in Ln.data.toList n k f hlt' hn93 hcond h3)
                have HRM := Lib.hid (fun h3 => idx_room Ln.data.toList k (Ln.data.toList.getD (k + 1) 0) h3)
                have HCK := Lib.hid (fun wx hx => HCL.out k hk1z wx hx)
                have ed : (Ln.extract k Ln.size).data.toList.drop 2 = Ln.data.toList.drop (k + 2) := by rw [Lib.extract_to_end, List.drop_drop]
                rw [ed] at HCK
                rw [hg1] at HL HI HRM
                generalize Lib.indexByte dts Ln[k + 1] = v at HD2 hv0
                generalize Lib.index (Ln.data.toList.drop (k + 2)) [Ln[k + 1], 93] = ix at HL HI HRM HCK
                clear c93 h93 h91 hg hg1 hdc hin hcond hn93 ed c91
                go_wp2_with fail
                refine (HD2.out wr).mono ?_
                rintro e w4 ⟨rfl, rfl⟩
                have HCW := Lib.hid (HCK.out w4 (HM.out.keep HR.out.2 id))
                clear HCK HCL
                go_wp2_with fail
                refine HCW.out.mono ?_
                rintro e w5 ⟨hk5, g1, g2⟩
                have HK5 := Lib.hid (HR.out.2.trans hk5 (fun _ _ h => h))
                clear hk5
                by_cases hix : ix < 0
                · obtain rfl := g1 hix
                  have HB := Lib.hid (HL.out hix)
                  clear g1 g2 HL HI HRM hix
                  go_wp2_with fail
                  go_ret
                  exact ⟨by rw [← HR.out.1, HB.out, hlen]; rfl, HK5.out⟩
                · obtain rfl := g2 (by omega)
                  have HB := Lib.hid (HI.out (by omega))
                  have hrm := HRM.out (by omega)
                  obtain ⟨t, rfl⟩ : ∃ t : Nat, ix = t := ⟨ix.toNat, by omega⟩
                  have ht0 : ¬ (t : Int) + 4 < 0 := by omega
                  have m4 : decide ((t : Int) + 4 < 0) = false := decide_eq_false ht0
                  rw [hlen] at hrm
                  simp only [Int.toNat_natCast] at HB hrm
                  clear g1 g2 HL HI HRM hix
                  go_wp2_with fail
                  go_roundw
                  case rel => exact ⟨k + t + 4, false, n, by omega, by omega, by go_num, rfl, Lib.hid ⟨by rw [← HB.out]; exact HR.out.1, HK5.out⟩⟩
                  case measure => simp [intOf]; omega
              · have hvn : ¬ (0 : Int) ≤ Lib.indexByte dts Ln[k + 1] := fun h => hin (hdc ▸ decide_eq_true h)
                have HST := Lib.hid (brk_next Ln.data.toList n k f hlt' hn93 (fun h => hin (by rw [← hg1]; exact h.2.2)))
                generalize Lib.indexByte dts Ln[k + 1] = v at HD2 hvn
                clear c93 h93 h91 hg hg1 hdc hin hn93 c91
                go_wp2_with fail
                refine (HD2.out wr).mono ?_
                rintro e w4 ⟨rfl, rfl⟩
                go_wp2_with fail
                go_roundw
                case rel => exact ⟨k + 1, false, n, by omega, by omega, by go_num, rfl, Lib.hid ⟨by rw [← HST.out]; exact HR.out.1, HR.out.2⟩⟩
                case measure => simp [intOf]; omega
            · have hkz1 : ¬ (k : Int) + 1 < (Ln.size : Int) := by omega
              have HST := Lib.hid (brk_next Ln.data.toList n k f hlt' hn93 (fun h => hk1z (by have := h.2.1; omega)))
              clear c93 h93 h91 hg hn93 c91
              go_wp2_with fail
              go_roundw
              case rel => exact ⟨k + 1, false, n, by omega, by omega, by go_num, rfl, Lib.hid ⟨by rw [← HST.out]; exact HR.out.1, HR.out.2⟩⟩
              case measure => simp [intOf]; omega
          · have q2 : ((Ln[k].toNat : Int) == 91) = false := beq_eq_false_iff_ne.2 (fun h => c91 (h91.2 h))
            have HST := Lib.hid (brk_next Ln.data.toList n k f hlt' hn93 (fun h => c91 (by rw [← hg]; exact h.1)))
            clear c93 h93 h91 hg hn93 c91
            go_wp2_with fail
            go_roundw
            case rel => exact ⟨k + 1, false, n, by omega, by omega, by go_num, rfl, Lib.hid ⟨by rw [← HST.out]; exact HR.out.1, HR.out.2⟩⟩
            case measure => simp [intOf]; omega
      · have hge' : ¬ k < Ln.data.toList.length := by omega
        obtain rfl : k = Ln.size := by omega
        have HST : Hid (brkF Ln.data.toList n1 Ln.size f = Ln.data.toList.length) := Lib.hid (by
          cases n1 with
          | zero => rfl
          | succ n => exact brk_end _ n _ f hge')
        clear hge'
        go_wp2_with fail
        go_ret
        exact ⟨by rw [← HR.out.1, HST.out, hlen]; rfl, HR.out.2⟩

end Go.Proofs.YtilnccjdbdcklaaDoor
