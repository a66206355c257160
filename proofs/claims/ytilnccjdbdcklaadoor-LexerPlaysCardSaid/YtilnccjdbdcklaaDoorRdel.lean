/- delimited of the reference. Printed by gen_rdel.py. -/
import Derived.Test.YtilnccjdbdcklaaDoorPdel
namespace Go.Proofs.YtilnccjdbdcklaaDoor
set_option linter.unusedVariables false
set_option linter.unusedSimpArgs false
open Go.RowKit

theorem ext_n (s : ByteArray) (b m : Nat) : (s.extract b (b + m)).data.toList = (s.toList.drop b).take m := by
  rw [ByteArray.data_extract, ByteArray.toList_eq]
  simp only [Array.toList_extract, List.extract_eq_take_drop]
  congr 1
  omega
theorem ext_1 (s : ByteArray) (b : Nat) (h : b < s.size) : (s.extract b (b + 1)).data.toList = [s[b]] := by
  rw [ext_n, drop_cons s b h]; rfl
theorem ext_2 (s : ByteArray) (b : Nat) (h : b < s.size) (h2 : b + 1 < s.size) : (s.extract b (b + 2)).data.toList = [s[b], s[b + 1]] := by
  rw [ext_n, drop_cons s b h, drop_cons s (b + 1) h2]; rfl

set_option maxHeartbeats 16000000 in
set_option maxRecDepth 100000 in
theorem rdelim_any (q : Nat) (s : ByteArray) (a : Nat) (d : UInt8) (pt : Bool) (w : World) (hb : RAt w q s a) (ha : a ≤ s.size) (hz : s.size ≤ 1000000) :
    Calls Tryd.prog 38 #[.pointer (some ⟨q, 0, none⟩), .int .u8 d.toNat, .bool pt] w fun e w' => e = .returned (.tuple #[.string ⟨(delS s d pt a).1.toArray⟩, .int .i64 (delS s d pt a).2.1]) ∧ RAt w' q s (delS s d pt a).2.2 ∧ Keep (Ob q) w w' := by
  have e92 := u8i d 92 92 rfl
  have e10 := u8i d 10 10 rfl
  by_cases hd : d = 92 ∨ d = 10
  · rw [delS_not hd]
    by_cases h1 : d = 92
    · have m1 : ((d.toNat : Int) == 92) = true := beq_iff_eq.2 (e92.1 h1)
      clear e92 e10 hd h1
      go_enter Tryd.func38, Tryd.ntmps38
      go_wp2_with fail
      go_ret2
      exact ⟨rfl, hb, Keep.refl _ _⟩
    · have m1 : ((d.toNat : Int) == 92) = false := beq_eq_false_iff_ne.2 (fun h => h1 (e92.2 h))
      have m2 : ((d.toNat : Int) == 10) = true := beq_iff_eq.2 (e10.1 (hd.resolve_left h1))
      clear e92 e10 hd h1
      go_enter Tryd.func38, Tryd.ntmps38
      go_wp2_with fail
      go_ret2
      exact ⟨rfl, hb, Keep.refl _ _⟩
  have m1 : ((d.toNat : Int) == 92) = false := beq_eq_false_iff_ne.2 (fun h => hd (.inl (e92.2 h)))
  have m2 : ((d.toNat : Int) == 10) = false := beq_eq_false_iff_ne.2 (fun h => hd (.inr (e10.2 h)))
  obtain ⟨RES, hRES⟩ : ∃ x, x = delF s d pt (s.size + 1) a [] := ⟨_, rfl⟩
  have HSO := Lib.hid (fun o b (h : RES = (some o, b)) => delS_some (a := a) hd (hRES ▸ h))
  have HNO := Lib.hid (fun b (h : RES = (none, b)) => delS_none (a := a) hd (hRES ▸ h))
  have HRE := Lib.hid hRES
  have HB := Lib.hid hb
  have c0 := hb.cell 0 (u := .string s) rfl
  have c1 := hb.cell 1 (u := .int .i64 (a : Int)) rfl
  have lq := hb.lt
  generalize delS s d pt a = DS at HSO HNO ⊢
  clear e92 e10 hd hb hRES
  go_enter Tryd.func38, Tryd.ntmps38
  go_wp2_with fail
  clear c0 c1 lq
  go_loopw [8, 9] (fun x i wr => ∃ (b : Nat) (O : ByteArray) (n1 : Nat), b ≤ s.size ∧ s.size < n1 + b ∧ O.size ≤ b ∧ x = .string O ∧ i = .int .i64 (b : Int) ∧ Hid (RAt wr q s a ∧ Keep Nb w wr ∧ delF s d pt n1 b O.data.toList = RES)) (fun _ i _ => s.size - (intOf i).toNat)
  case atStart => exact ⟨a, ⟨#[]⟩, s.size + 1, ha, by omega, Nat.zero_le _, rfl, rfl, Lib.hid ⟨HB.out, Keep.refl _ _, HRE.out.symm⟩⟩
  case round =>
    clear HB HRE
    obtain ⟨b, O, n1, hbs, hn, hou, rfl, rfl, HR⟩ := hrel
    obtain ⟨n, rfl⟩ : ∃ n, n1 = n + 1 := ⟨n1 - 1, by omega⟩
    have c0 := HR.out.1.cell 0 (u := .string s) rfl
    have c1 := HR.out.1.cell 1 (u := .int .i64 (a : Int)) rfl
    have f1 := HR.out.1.frozen 1
    have lq := HR.out.1.lt
    have hb9 : b + 2 ≤ 9223372036854775807 := by omega
    rcases Nat.lt_or_ge b s.size with hlt | hge
    · have hbz : (b : Int) < (s.size : Int) := by omega
      have hb0 : (0 : Int) ≤ (b : Int) := by omega
      have hbe : ¬ (s.size : Int) ≤ (b : Int) := by omega
      have i10 := u8i s[b] 10 10 rfl
      have i91 := u8i s[b] 91 91 rfl
      have i92 := u8i s[b] 92 92 rfl
      have idd : s[b] = d ↔ (s[b].toNat : Int) = (d.toNat : Int) := u8i s[b] d d.toNat rfl
      by_cases c10 : s[b] = 10
      · have q10 : ((s[b].toNat : Int) == 10) = true := beq_iff_eq.2 (i10.1 c10)
        have HF := Lib.hid (HNO.out b (by rw [← HR.out.2.2]; exact del_lf hlt c10))
        clear i10 i91 i92 idd c10
        have HSET := Lib.hid (Blk.set HR.out.1 1 (.int .i64 ((b : Nat) : Int)))
        have HSK := Lib.hid (Keep.setOb wr q 1 (.int .i64 ((b : Nat) : Int)))
        go_wp2_with fail
        go_ret2
        exact ⟨by rw [HF.out]; rfl, by rw [HF.out]; first | exact HSET.out | simpa using HSET.out, HR.out.2.1.ob.trans (by first | exact HSK.out | simpa using HSK.out) (fun _ _ h => h)⟩
      have q10 : ((s[b].toNat : Int) == 10) = false := beq_eq_false_iff_ne.2 (fun h => c10 (i10.2 h))
      by_cases cd : s[b] = d
      · have qd : ((s[b].toNat : Int) == (d.toNat : Int)) = true := beq_iff_eq.2 (idd.1 cd)
        have HF := Lib.hid (HSO.out O.data.toList (b + 1) (by rw [← HR.out.2.2]; exact del_d hlt c10 cd))
        clear i10 i91 i92 idd c10 cd
        have HSET := Lib.hid (Blk.set HR.out.1 1 (.int .i64 ((b + 1 : Nat) : Int)))
        have HSK := Lib.hid (Keep.setOb wr q 1 (.int .i64 ((b + 1 : Nat) : Int)))
        go_wp2_with fail
        go_ret2
        exact ⟨by rw [HF.out]; rfl, by rw [HF.out]; first | exact HSET.out | simpa using HSET.out, HR.out.2.1.ob.trans (by first | exact HSK.out | simpa using HSK.out) (fun _ _ h => h)⟩
      have qd : ((s[b].toNat : Int) == (d.toNat : Int)) = false := beq_eq_false_iff_ne.2 (fun h => cd (idd.2 h))
      by_cases c92 : s[b] = 92
      · have q92 : ((s[b].toNat : Int) != 92) = false := by rw [i92.1 c92]; rfl
        have q91 : ((s[b].toNat : Int) == 91) = false := by rw [i92.1 c92]; rfl
        by_cases hl2 : b + 1 < s.size
        · have hb2z : (b : Int) + 1 < (s.size : Int) := by omega
          have hb20 : (0 : Int) ≤ (b : Int) + 1 := by omega
          have hb2e : ¬ (s.size : Int) ≤ (b : Int) + 1 := by omega
          have hto : ((b : Int) + 1).toNat = b + 1 := by omega
          have hto2 : ((b : Int) + 2).toNat = b + 2 := by omega
          have hb3 : (b : Int) + 2 ≤ (s.size : Int) := by omega
          have hb4 : (b : Int) ≤ (b : Int) + 2 := by omega
          have hb5 : (b : Int) + 1 ≤ (b : Int) + 2 := by omega
          have j10 := u8i s[b + 1] 10 10 rfl
          have jdd : s[b + 1] = d ↔ (s[b + 1].toNat : Int) = (d.toNat : Int) := u8i s[b + 1] d d.toNat rfl
          have d110 := u8i d 110 110 rfl
          have hs1 : (s.extract (b + 1) (b + 2)).size = 1 := by rw [ByteArray.size_extract]; omega
          have hs2 : (s.extract b (b + 2)).size = 2 := by rw [ByteArray.size_extract]; omega
          have n1' : ¬ 9223372036854775807 < O.size + (s.extract (b + 1) (b + 2)).size := by omega
          have n2' : ¬ 9223372036854775807 < O.size + (s.extract b (b + 2)).size := by omega
          by_cases c6 : s[b + 1] = 10 ∧ pt = true
          · obtain ⟨c6, rfl⟩ := c6
            have r10 : ((s[b + 1].toNat : Int) == 10) = true := beq_iff_eq.2 (j10.1 c6)
            have HF := Lib.hid (HNO.out (b + 1) (by rw [← HR.out.2.2]; exact del_e1 hlt c10 cd c92 hl2 ⟨c6, rfl⟩))
            clear i10 i91 i92 idd c10 cd c92 j10 jdd d110 c6 hs1 hs2
            have HSET := Lib.hid (Blk.set HR.out.1 1 (.int .i64 ((b + 1 : Nat) : Int)))
            have HSK := Lib.hid (Keep.setOb wr q 1 (.int .i64 ((b + 1 : Nat) : Int)))
            go_wp2_with fail
            go_ret2
            exact ⟨by rw [HF.out]; rfl, by rw [HF.out]; first | exact HSET.out | simpa using HSET.out, HR.out.2.1.ob.trans (by first | exact HSK.out | simpa using HSK.out) (fun _ _ h => h)⟩
          have hpt : ((s[b + 1].toNat : Int) == 10) = true → pt = false := fun h => by
            cases hp : pt with
            | false => rfl
            | true => exact absurd ⟨j10.2 (beq_iff_eq.1 h), hp⟩ c6
          by_cases c7 : s[b + 1] = d ∧ ¬ (pt = true ∧ d = 110)
          · have HST := Lib.hid (del_e2 (n := n) (o := O.data.toList) hlt c10 cd c92 hl2 c6 c7)
            have hex : (s.extract (b + 1) (b + 2)).data.toList = [s[b + 1]] := ext_1 s (b + 1) hl2
            have rd : ((s[b + 1].toNat : Int) == (d.toNat : Int)) = true := beq_iff_eq.2 (jdd.1 c7.1)
            have hp1 : pt = true → ((d.toNat : Int) == 110) = false := fun h => beq_eq_false_iff_ne.2 (fun x => c7.2 ⟨h, d110.2 x⟩)
            have HEX := Lib.hid hex
            clear i10 i91 i92 idd c10 cd c92 j10 jdd d110 c6 c7 hex
            cases pt with
            | true =>
              have r110 := hp1 rfl
              cases r10 : ((s[b + 1].toNat : Int) == 10) with
              | true => exact absurd (hpt r10) (by simp)
              | false =>
                clear hpt hp1
                go_wp2_with fail
                go_roundw
                case rel => exact ⟨b + 2, _, n, by omega, by omega, by rw [ByteArray.size_append]; omega, rfl, by go_num, Lib.hid ⟨HR.out.1, HR.out.2.1, by rw [add_sz3, HEX.out, ← HST.out]; exact HR.out.2.2⟩⟩
                case measure => simp [intOf]; omega
            | false =>
              clear hp1
              cases r10 : ((s[b + 1].toNat : Int) == 10) with
              | true =>
                clear hpt
                go_wp2_with fail
                go_roundw
                case rel => exact ⟨b + 2, _, n, by omega, by omega, by rw [ByteArray.size_append]; omega, rfl, by go_num, Lib.hid ⟨HR.out.1, HR.out.2.1, by rw [add_sz3, HEX.out, ← HST.out]; exact HR.out.2.2⟩⟩
                case measure => simp [intOf]; omega
              | false =>
                clear hpt
                go_wp2_with fail
                go_roundw
                case rel => exact ⟨b + 2, _, n, by omega, by omega, by rw [ByteArray.size_append]; omega, rfl, by go_num, Lib.hid ⟨HR.out.1, HR.out.2.1, by rw [add_sz3, HEX.out, ← HST.out]; exact HR.out.2.2⟩⟩
                case measure => simp [intOf]; omega
          · have HST := Lib.hid (del_e3 (n := n) (o := O.data.toList) hlt c10 cd c92 hl2 c6 c7)
            have hex : (s.extract b (b + 2)).data.toList = [92, s[b + 1]] := by rw [ext_2 s b hlt hl2, c92]
            have HEX := Lib.hid hex
            have hp1 : ((s[b + 1].toNat : Int) == (d.toNat : Int)) = true → pt = true ∧ ((d.toNat : Int) == 110) = true := fun h => by
              have h7 : pt = true ∧ d = 110 := Classical.byContradiction (fun hn => c7 ⟨jdd.2 (beq_iff_eq.1 h), hn⟩)
              exact ⟨h7.1, beq_iff_eq.2 (d110.1 h7.2)⟩
            clear i10 i91 i92 idd c10 cd c92 j10 jdd d110 c6 c7 hex
            cases rd : ((s[b + 1].toNat : Int) == (d.toNat : Int)) with
            | true =>
              obtain ⟨rfl, r110⟩ := hp1 rd
              cases r10 : ((s[b + 1].toNat : Int) == 10) with
              | true => exact absurd (hpt r10) (by simp)
              | false =>
                clear hpt hp1
                go_wp2_with fail
                go_roundw
                case rel => exact ⟨b + 2, _, n, by omega, by omega, by rw [ByteArray.size_append]; omega, rfl, by go_num, Lib.hid ⟨HR.out.1, HR.out.2.1, by rw [add_sz3, HEX.out, ← HST.out]; exact HR.out.2.2⟩⟩
                case measure => simp [intOf]; omega
            | false =>
              clear hp1
              cases r10 : ((s[b + 1].toNat : Int) == 10) with
              | true =>
                obtain rfl := hpt r10
                clear hpt
                go_wp2_with fail
                go_roundw
                case rel => exact ⟨b + 2, _, n, by omega, by omega, by rw [ByteArray.size_append]; omega, rfl, by go_num, Lib.hid ⟨HR.out.1, HR.out.2.1, by rw [add_sz3, HEX.out, ← HST.out]; exact HR.out.2.2⟩⟩
                case measure => simp [intOf]; omega
              | false =>
                clear hpt
                cases pt with
                | true =>
                  skip
                  go_wp2_with fail
                  go_roundw
                  case rel => exact ⟨b + 2, _, n, by omega, by omega, by rw [ByteArray.size_append]; omega, rfl, by go_num, Lib.hid ⟨HR.out.1, HR.out.2.1, by rw [add_sz3, HEX.out, ← HST.out]; exact HR.out.2.2⟩⟩
                  case measure => simp [intOf]; omega
                | false =>
                  skip
                  go_wp2_with fail
                  go_roundw
                  case rel => exact ⟨b + 2, _, n, by omega, by omega, by rw [ByteArray.size_append]; omega, rfl, by go_num, Lib.hid ⟨HR.out.1, HR.out.2.1, by rw [add_sz3, HEX.out, ← HST.out]; exact HR.out.2.2⟩⟩
                  case measure => simp [intOf]; omega
        · have hb2e : (s.size : Int) ≤ (b : Int) + 1 := by omega
          have HF := Lib.hid (HNO.out (b + 1) (by rw [← HR.out.2.2]; exact del_e0 hlt c10 cd c92 hl2))
          clear i10 i91 i92 idd c10 cd c92
          cases pt with
          | true =>
            skip
            have HSET := Lib.hid (Blk.set HR.out.1 1 (.int .i64 ((b + 1 : Nat) : Int)))
            have HSK := Lib.hid (Keep.setOb wr q 1 (.int .i64 ((b + 1 : Nat) : Int)))
            go_wp2_with fail
            go_ret2
            exact ⟨by rw [HF.out]; rfl, by rw [HF.out]; first | exact HSET.out | simpa using HSET.out, HR.out.2.1.ob.trans (by first | exact HSK.out | simpa using HSK.out) (fun _ _ h => h)⟩
          | false =>
            skip
            have HSET := Lib.hid (Blk.set HR.out.1 1 (.int .i64 ((b + 1 : Nat) : Int)))
            have HSK := Lib.hid (Keep.setOb wr q 1 (.int .i64 ((b + 1 : Nat) : Int)))
            go_wp2_with fail
            go_ret2
            exact ⟨by rw [HF.out]; rfl, by rw [HF.out]; first | exact HSET.out | simpa using HSET.out, HR.out.2.1.ob.trans (by first | exact HSK.out | simpa using HSK.out) (fun _ _ h => h)⟩
      have q92 : ((s[b].toNat : Int) != 92) = true := bne_iff_ne.2 (fun h => c92 (i92.2 h))
      by_cases c91 : s[b] = 91 ∧ pt = true
      · obtain ⟨c91, rfl⟩ := c91
        have q91 : ((s[b].toNat : Int) == 91) = true := beq_iff_eq.2 (i91.1 c91)
        have HST := Lib.hid (del_br (n := n) (o := O.data.toList) hlt c10 cd ⟨c91, rfl⟩)
        have hbl := brk_le (lnA s b) (lnA_pos hlt c10)
        have hll := ln_le s b hbs
        have HBH := Lib.hid (fun wx => behind_t s b wx hz hlt c91)
        rw [← ext_n] at HST
        generalize brk (lnA s b) = m at HBH HST hbl
        have hmz : ((b + m : Nat) : Int) ≤ (s.size : Int) := by omega
        have hmb : (b : Int) ≤ ((b + m : Nat) : Int) := by omega
        have hes : (s.extract b (b + m)).size = m := by rw [ByteArray.size_extract]; omega
        have n3' : ¬ 9223372036854775807 < O.size + (s.extract b (b + m)).size := by omega
        generalize ejm : b + m = jm at *
        have HEJ := Lib.hid ejm
        have HES := Lib.hid hes
        clear i10 i91 i92 idd c10 cd c92 c91 hes ejm
        go_wp2_with fail
        refine (HBH.out wr).mono ?_
        rintro e w2 ⟨rfl, hk2⟩
        have HX2 := Lib.hid (HR.out.1.keep hk2 id)
        have HK2 := Lib.hid (HR.out.2.1.trans hk2 (fun _ _ h => h))
        have d0 := HX2.out.cell 0 (u := .string s) rfl
        have l2 := HX2.out.lt
        clear hk2 c0 c1 f1 lq
        go_wp2_with fail
        go_roundw
        case rel => exact ⟨jm, _, n, by omega, by have := HEJ.out; omega, by rw [ByteArray.size_append]; have := HES.out; have := HEJ.out; omega, rfl, rfl, Lib.hid ⟨HX2.out, HK2.out, by rw [add_sz3, ← HST.out]; exact HR.out.2.2⟩⟩
        case measure => (have := HEJ.out; simp [intOf]; omega)
      · have HST := Lib.hid (del_byte (n := n) (o := O.data.toList) hlt c10 cd c91 c92)
        have hex : (s.extract b (b + 1)).data.toList = [s[b]] := ext_1 s b hlt
        have hs1 : (s.extract b (b + 1)).size = 1 := by rw [ByteArray.size_extract]; omega
        have n1' : ¬ 9223372036854775807 < O.size + (s.extract b (b + 1)).size := by omega
        have hto : ((b : Int) + 1).toNat = b + 1 := by omega
        have hb3 : (b : Int) + 1 ≤ (s.size : Int) := by omega
        have hb4 : (b : Int) ≤ (b : Int) + 1 := by omega
        have HEX := Lib.hid hex
        have hpt : ((s[b].toNat : Int) == 91) = true → pt = false := fun h => by
          cases hp : pt with
          | false => rfl
          | true => exact absurd ⟨i91.2 (beq_iff_eq.1 h), hp⟩ c91
        clear i10 i91 i92 idd c10 cd c92 c91 hex
        cases q91 : ((s[b].toNat : Int) == 91) with
        | true =>
          obtain rfl := hpt q91
          clear hpt
          go_wp2_with fail
          go_roundw
          case rel => exact ⟨b + 1, _, n, by omega, by omega, by rw [ByteArray.size_append]; omega, rfl, by go_num, Lib.hid ⟨HR.out.1, HR.out.2.1, by rw [add_sz3, HEX.out, ← HST.out]; exact HR.out.2.2⟩⟩
          case measure => simp [intOf]; omega
        | false =>
          clear hpt
          cases pt with
          | true =>
            skip
            go_wp2_with fail
            go_roundw
            case rel => exact ⟨b + 1, _, n, by omega, by omega, by rw [ByteArray.size_append]; omega, rfl, by go_num, Lib.hid ⟨HR.out.1, HR.out.2.1, by rw [add_sz3, HEX.out, ← HST.out]; exact HR.out.2.2⟩⟩
            case measure => simp [intOf]; omega
          | false =>
            skip
            go_wp2_with fail
            go_roundw
            case rel => exact ⟨b + 1, _, n, by omega, by omega, by rw [ByteArray.size_append]; omega, rfl, by go_num, Lib.hid ⟨HR.out.1, HR.out.2.1, by rw [add_sz3, HEX.out, ← HST.out]; exact HR.out.2.2⟩⟩
            case measure => simp [intOf]; omega
    · obtain rfl : b = s.size := by omega
      have hbe : (s.size : Int) ≤ (s.size : Int) := by omega
      have HF := Lib.hid (HNO.out s.size (by rw [← HR.out.2.2]; exact del_end (by omega)))
      have HSET := Lib.hid (Blk.set HR.out.1 1 (.int .i64 ((s.size : Nat) : Int)))
      have HSK := Lib.hid (Keep.setOb wr q 1 (.int .i64 ((s.size : Nat) : Int)))
      go_wp2_with fail
      go_ret2
      exact ⟨by rw [HF.out]; rfl, by rw [HF.out]; first | exact HSET.out | simpa using HSET.out, HR.out.2.1.ob.trans (by first | exact HSK.out | simpa using HSK.out) (fun _ _ h => h)⟩

end Go.Proofs.YtilnccjdbdcklaaDoor
