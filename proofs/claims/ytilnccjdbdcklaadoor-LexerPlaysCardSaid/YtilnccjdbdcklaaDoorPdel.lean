/- delimited of the program, at any place of any text. Printed by gen_pdel.py. -/
import Derived.Test.YtilnccjdbdcklaaDoorDel
namespace Go.Proofs.YtilnccjdbdcklaaDoor
set_option linter.unusedVariables false
set_option linter.unusedSimpArgs false
open Go.RowKit

theorem ext_take (R : ByteArray) (n : Nat) : (R.extract 0 n).data.toList = R.data.toList.take n := Lib.extract_from_zero R n

set_option maxHeartbeats 16000000 in
set_option maxRecDepth 100000 in
theorem pdelim_any (p : Nat) (s : ByteArray) (a : Nat) (d : UInt8) (pt : Bool) (w : World) (hb : LexAt w p s a) (ha : a ≤ s.size) (hz : s.size ≤ 1000000) (hm : Laid0 w) (hp2 : p ≠ 2) :
    Calls Tryd.prog 32 #[.pointer (some ⟨p, 0, none⟩), .int .u8 d.toNat, .bool pt] w fun e w' => e = .returned (.tuple #[.string ⟨(delS s d pt a).1.toArray⟩, .int .i64 (delS s d pt a).2.1]) ∧ LexAt w' p s (delS s d pt a).2.2 ∧ Keep (Ob p) w w' := by
  have e92 := u8i d 92 92 rfl
  have e10 := u8i d 10 10 rfl
  by_cases hd : d = 92 ∨ d = 10
  · rw [delS_not hd]
    by_cases h1 : d = 92
    · have m1 : ((d.toNat : Int) == 92) = true := beq_iff_eq.2 (e92.1 h1)
      clear e92 e10 hd h1
      go_enter Tryd.func32, Tryd.ntmps32
      go_wp2_with fail
      go_ret2
      exact ⟨rfl, hb, Keep.refl _ _⟩
    · have m1 : ((d.toNat : Int) == 92) = false := beq_eq_false_iff_ne.2 (fun h => h1 (e92.2 h))
      have m2 : ((d.toNat : Int) == 10) = true := beq_iff_eq.2 (e10.1 (hd.resolve_left h1))
      clear e92 e10 hd h1
      go_enter Tryd.func32, Tryd.ntmps32
      go_wp2_with fail
      go_ret2
      exact ⟨rfl, hb, Keep.refl _ _⟩
  have m1 : ((d.toNat : Int) == 92) = false := beq_eq_false_iff_ne.2 (fun h => hd (.inl (e92.2 h)))
  have m2 : ((d.toNat : Int) == 10) = false := beq_eq_false_iff_ne.2 (fun h => hd (.inr (e10.2 h)))
  have HPK := Lib.hid (fun b wx hx (h : b < s.size) => peek_some p s b wx hx h)
  have HPE := Lib.hid (fun wx hx => peek_end p s wx hx)
  have HEN := Lib.hid (fun b wx hx (h : b ≤ s.size) => end_any p s b wx hx h)
  have HSK := Lib.hid (fun b n wx hx (h : b ≤ 1000000) (h2 : n ≤ 1000000) => skip_any p s b n wx hx h h2)
  have HNX := Lib.hid (fun b wx hx (h : b < s.size) => next_some p s b wx hx h hz)
  have HRS := Lib.hid (fun b wx hx (h : b ≤ s.size) => rest_any p s b wx hx h)
  have HPL : Hid (p < w.heap.size) := Lib.hid hb.lt
  obtain ⟨RES, hRES⟩ : ∃ x, x = delF s d pt (s.size + 1) a [] := ⟨_, rfl⟩
  have HSO := Lib.hid (fun o b (h : RES = (some o, b)) => delS_some (a := a) hd (hRES ▸ h))
  have HNO := Lib.hid (fun b (h : RES = (none, b)) => delS_none (a := a) hd (hRES ▸ h))
  have HRE := Lib.hid hRES
  have HND := Lib.hid hd
  have HM := Lib.hid hm
  have HX0 : Hid (LexAt (w.alloc (.cells #[.pointer none, .slice none 0 0] 63)) p s a) := Lib.hid (hb.alloc _)
  have HB0 : Hid (IsB w.heap.size w.heap.size (Lib.byteCells []) (w.alloc (.cells #[.pointer none, .slice none 0 0] 63))) := Lib.hid (new_builder w _ rfl)
  have HK0 : Hid (Keep (Ob p) w (w.alloc (.cells #[.pointer none, .slice none 0 0] 63))) := Lib.hid (Keep.alloc (Keep.refl _ _) _)
  generalize delS s d pt a = DS at HSO HNO ⊢
  clear e92 e10 hd hb hm hRES
  go_enter Tryd.func32, Tryd.ntmps32
  go_wp2_with fail
  go_loopw [9] (fun _ wr => ∃ (b : Nat) (ou : List UInt8) (n1 : Nat), b ≤ s.size ∧ s.size < n1 + b ∧ ou.length ≤ b ∧ Hid (LexAt wr p s b ∧ IsB w.heap.size w.heap.size (Lib.byteCells ou) wr ∧ Keep (Ob p) w wr ∧ delF s d pt n1 b ou = RES)) (fun _ wr => s.size - posOf wr p)
  case atStart => exact ⟨a, [], s.size + 1, ha, by omega, Nat.zero_le _, Lib.hid ⟨HX0.out, HB0.out, HK0.out, HRE.out.symm⟩⟩
  case round =>
    clear HX0 HB0 HK0 HRE
    obtain ⟨b, ou, n1, hbs, hn, hou, HR⟩ := hrel
    obtain ⟨n, rfl⟩ : ∃ n, n1 = n + 1 := ⟨n1 - 1, by omega⟩
    have HPR := Lib.hid (posOf_at HR.out.1)
    have HX1 := Lib.hid HR.out.1
    have HB1 := Lib.hid HR.out.2.1
    have HK1 := Lib.hid HR.out.2.2.1
    rcases Nat.lt_or_ge b s.size with hlt | hge
    · have HP1 := Lib.hid (fun wx hx => HPK.out b wx hx hlt)
      have HE1 := Lib.hid (fun wx hx => HEN.out b wx hx hbs)
      rw [decide_eq_false (by omega)] at HE1
      have HN1 := Lib.hid (fun wx hx => HNX.out b wx hx hlt)
      have HR1 := Lib.hid (fun wx hx => HRS.out b wx hx hbs)
      have i10 := u8i s[b] 10 10 rfl
      have i91 := u8i s[b] 91 91 rfl
      have i92 := u8i s[b] 92 92 rfl
      have idd : s[b] = d ↔ (s[b].toNat : Int) = (d.toNat : Int) := u8i s[b] d d.toNat rfl
      by_cases c10 : s[b] = 10
      · have q10 : ((s[b].toNat : Int) == 10) = true := beq_iff_eq.2 (i10.1 c10)
        have HF := Lib.hid (HNO.out b (by rw [← HR.out.2.2.2]; exact del_lf hlt c10))
        clear i10 i91 i92 idd c10
        go_wp2_with fail
        refine (HP1.out wr HX1.out).mono ?_
        rintro e w2 ⟨rfl, hk2⟩
        have HX2 := Lib.hid (HX1.out.keep hk2 id)
        have HB2 := Lib.hid (HB1.out.keep hk2 (fun k h => h.elim))
        have HK2 := Lib.hid (HK1.out.trans hk2 (fun _ _ h => h.elim))
        clear hk2
        go_wp2_with fail
        refine (HE1.out w2 HX2.out).mono ?_
        rintro e w3 ⟨rfl, hk3⟩
        have HX3 := Lib.hid (HX2.out.keep hk3 id)
        have HB3 := Lib.hid (HB2.out.keep hk3 (fun k h => h.elim))
        have HK3 := Lib.hid (HK2.out.trans hk3 (fun _ _ h => h.elim))
        clear hk3
        go_wp2_with fail
        go_ret2
        exact ⟨by rw [HF.out]; rfl, by rw [HF.out]; exact HX3.out, HK3.out⟩
      have q10 : ((s[b].toNat : Int) == 10) = false := beq_eq_false_iff_ne.2 (fun h => c10 (i10.2 h))
      by_cases cd : s[b] = d
      · have qd : ((s[b].toNat : Int) == (d.toNat : Int)) = true := beq_iff_eq.2 (idd.1 cd)
        have HF := Lib.hid (HSO.out ou (b + 1) (by rw [← HR.out.2.2.2]; exact del_d hlt c10 cd))
        have HS1 := Lib.hid (fun wx hx => HSK.out b 1 wx hx (by omega) (by omega))
        clear i10 i91 i92 idd c10 cd
        go_wp2_with fail
        refine (HP1.out wr HX1.out).mono ?_
        rintro e w2 ⟨rfl, hk2⟩
        have HX2 := Lib.hid (HX1.out.keep hk2 id)
        have HB2 := Lib.hid (HB1.out.keep hk2 (fun k h => h.elim))
        have HK2 := Lib.hid (HK1.out.trans hk2 (fun _ _ h => h.elim))
        clear hk2
        go_wp2_with fail
        refine (HE1.out w2 HX2.out).mono ?_
        rintro e w3 ⟨rfl, hk3⟩
        have HX3 := Lib.hid (HX2.out.keep hk3 id)
        have HB3 := Lib.hid (HB2.out.keep hk3 (fun k h => h.elim))
        have HK3 := Lib.hid (HK2.out.trans hk3 (fun _ _ h => h.elim))
        clear hk3
        go_wp2_with fail
        refine (HS1.out w3 HX3.out).mono ?_
        rintro e w4 ⟨rfl, hx4, hk4⟩
        have HX4 := Lib.hid hx4
        have HB4 := Lib.hid (HB3.out.keep hk4 (fun k hx => by simp only [Ob] at hx; have := HPL.out; omega))
        have HK4 := Lib.hid (HK3.out.trans hk4 (fun _ _ h => h))
        clear hx4 hk4
        have HSTR := Lib.hid (string_any w.heap.size w.heap.size ou w4 HB4.out HK4.out.size)
        go_wp2_with fail
        refine HSTR.out.mono ?_
        rintro e w9 ⟨rfl, hb9⟩
        have HX9 := Lib.hid (HX4.out.keep (Keep.of_below hb9) (by have := HPL.out; omega))
        have HK9 := Lib.hid (HK4.out.above hb9 (Nat.le_refl _))
        clear hb9
        go_wp2_with fail
        go_ret2
        exact ⟨by rw [HF.out]; rfl, by rw [HF.out]; exact HX9.out, HK9.out⟩
      have qd : ((s[b].toNat : Int) == (d.toNat : Int)) = false := beq_eq_false_iff_ne.2 (fun h => cd (idd.2 h))
      by_cases c92 : s[b] = 92
      · have q92 : ((s[b].toNat : Int) == 92) = true := beq_iff_eq.2 (i92.1 c92)
        have q91 : ((s[b].toNat : Int) == 91) = false := by rw [i92.1 c92]; rfl
        have HS1 := Lib.hid (fun wx hx => HSK.out b 1 wx hx (by omega) (by omega))
        have HE2 := Lib.hid (fun wx hx => HEN.out (b + 1) wx hx (by omega))
        by_cases hl2 : b + 1 < s.size
        · rw [decide_eq_false (by omega)] at HE2
          have HP2 := Lib.hid (fun wx hx => HPK.out (b + 1) wx hx hl2)
          have HN2 := Lib.hid (fun wx hx => HNX.out (b + 1) wx hx hl2)
          have j10 := u8i s[b + 1] 10 10 rfl
          have HES := Lib.hid (fun wx => escape_any s[b + 1] d pt wx)
          have HST : Hid (¬ (s[b + 1] = 10 ∧ pt = true) → delF s d pt (n + 1) b ou = delF s d pt n (b + 2) (ou ++ escP s[b + 1] d pt)) := Lib.hid (fun h6 => by
            unfold escP
            by_cases h7 : s[b + 1] = d ∧ ¬ (pt = true ∧ d = 110)
            · rw [if_pos h7]; exact del_e2 hlt c10 cd c92 hl2 h6 h7
            · rw [if_neg h7]; exact del_e3 hlt c10 cd c92 hl2 h6 h7)
          have HF1 : Hid (s[b + 1] = 10 ∧ pt = true → DS = ([], 9, b + 1)) := Lib.hid (fun h6 => HNO.out (b + 1) (by rw [← HR.out.2.2.2]; exact del_e1 hlt c10 cd c92 hl2 h6))
          have HEL : Hid ((escP s[b + 1] d pt).length ≤ 2) := Lib.hid (by unfold escP; split <;> simp)
          generalize escP s[b + 1] d pt = es at HES HST HEL
          obtain ⟨ES, hES⟩ : ∃ ES : ByteArray, ES = ⟨es.toArray⟩ := ⟨_, rfl⟩
          have hel : es = ES.data.toList := by rw [hES]
          rw [← hES] at HES
          rw [hel] at HST HEL
          have hes2 : ES.size ≤ 2 := by rw [← ByteArray.size_data, ← Array.length_toList]; exact HEL.out
          clear hES hel
          have HE2' := HE2
          clear i10 i91 i92 idd c10 cd c92
          cases pt with
          | true =>
            by_cases c2 : s[b + 1] = 10
            · have r10 : ((s[b + 1].toNat : Int) == 10) = true := beq_iff_eq.2 (j10.1 c2)
              have HF := Lib.hid (HF1.out ⟨c2, rfl⟩)
              clear c2 j10 HF1 HST
              go_wp2_with fail
              refine (HP1.out wr HX1.out).mono ?_
              rintro e w2 ⟨rfl, hk2⟩
              have HX2 := Lib.hid (HX1.out.keep hk2 id)
              have HB2 := Lib.hid (HB1.out.keep hk2 (fun k h => h.elim))
              have HK2 := Lib.hid (HK1.out.trans hk2 (fun _ _ h => h.elim))
              clear hk2
              go_wp2_with fail
              refine (HE1.out w2 HX2.out).mono ?_
              rintro e w3 ⟨rfl, hk3⟩
              have HX3 := Lib.hid (HX2.out.keep hk3 id)
              have HB3 := Lib.hid (HB2.out.keep hk3 (fun k h => h.elim))
              have HK3 := Lib.hid (HK2.out.trans hk3 (fun _ _ h => h.elim))
              clear hk3
              go_wp2_with fail
              refine (HS1.out w3 HX3.out).mono ?_
              rintro e w4 ⟨rfl, hx4, hk4⟩
              have HX4 := Lib.hid hx4
              have HB4 := Lib.hid (HB3.out.keep hk4 (fun k hx => by simp only [Ob] at hx; have := HPL.out; omega))
              have HK4 := Lib.hid (HK3.out.trans hk4 (fun _ _ h => h))
              clear hx4 hk4
              go_wp2_with fail
              refine (HE2.out w4 HX4.out).mono ?_
              rintro e w5 ⟨rfl, hk5⟩
              have HX5 := Lib.hid (HX4.out.keep hk5 id)
              have HB5 := Lib.hid (HB4.out.keep hk5 (fun k h => h.elim))
              have HK5 := Lib.hid (HK4.out.trans hk5 (fun _ _ h => h.elim))
              clear hk5
              go_wp2_with fail
              refine (HP2.out w5 HX5.out).mono ?_
              rintro e w6 ⟨rfl, hk6⟩
              have HX6 := Lib.hid (HX5.out.keep hk6 id)
              have HB6 := Lib.hid (HB5.out.keep hk6 (fun k h => h.elim))
              have HK6 := Lib.hid (HK5.out.trans hk6 (fun _ _ h => h.elim))
              clear hk6
              go_wp2_with fail
              go_ret2
              exact ⟨by rw [HF.out]; rfl, by rw [HF.out]; exact HX6.out, HK6.out⟩
            · have r10 : ((s[b + 1].toNat : Int) == 10) = false := beq_eq_false_iff_ne.2 (fun h => c2 (j10.2 h))
              replace HST := Lib.hid (HST.out (fun h => c2 h.1))
              clear c2 j10 HF1
              go_wp2_with fail
              refine (HP1.out wr HX1.out).mono ?_
              rintro e w2 ⟨rfl, hk2⟩
              have HX2 := Lib.hid (HX1.out.keep hk2 id)
              have HB2 := Lib.hid (HB1.out.keep hk2 (fun k h => h.elim))
              have HK2 := Lib.hid (HK1.out.trans hk2 (fun _ _ h => h.elim))
              clear hk2
              go_wp2_with fail
              refine (HE1.out w2 HX2.out).mono ?_
              rintro e w3 ⟨rfl, hk3⟩
              have HX3 := Lib.hid (HX2.out.keep hk3 id)
              have HB3 := Lib.hid (HB2.out.keep hk3 (fun k h => h.elim))
              have HK3 := Lib.hid (HK2.out.trans hk3 (fun _ _ h => h.elim))
              clear hk3
              go_wp2_with fail
              refine (HS1.out w3 HX3.out).mono ?_
              rintro e w4 ⟨rfl, hx4, hk4⟩
              have HX4 := Lib.hid hx4
              have HB4 := Lib.hid (HB3.out.keep hk4 (fun k hx => by simp only [Ob] at hx; have := HPL.out; omega))
              have HK4 := Lib.hid (HK3.out.trans hk4 (fun _ _ h => h))
              clear hx4 hk4
              go_wp2_with fail
              refine (HE2.out w4 HX4.out).mono ?_
              rintro e w5 ⟨rfl, hk5⟩
              have HX5 := Lib.hid (HX4.out.keep hk5 id)
              have HB5 := Lib.hid (HB4.out.keep hk5 (fun k h => h.elim))
              have HK5 := Lib.hid (HK4.out.trans hk5 (fun _ _ h => h.elim))
              clear hk5
              go_wp2_with fail
              refine (HP2.out w5 HX5.out).mono ?_
              rintro e w6 ⟨rfl, hk6⟩
              have HX6 := Lib.hid (HX5.out.keep hk6 id)
              have HB6 := Lib.hid (HB5.out.keep hk6 (fun k h => h.elim))
              have HK6 := Lib.hid (HK5.out.trans hk6 (fun _ _ h => h.elim))
              clear hk6
              go_wp2_with fail
              refine (HN2.out w6 HX6.out).mono ?_
              rintro e w7 ⟨rfl, hx7, hk7⟩
              have HX7 := Lib.hid hx7
              have HB7 := Lib.hid (HB6.out.keep hk7 (fun k hx => by simp only [Ob] at hx; have := HPL.out; omega))
              have HK7 := Lib.hid (HK6.out.trans hk7 (fun _ _ h => h))
              clear hx7 hk7
              go_wp2_with fail
              refine (HES.out w7).mono ?_
              rintro e w8 ⟨rfl, hk8⟩
              have HX8 := Lib.hid (HX7.out.keep hk8 id)
              have HB8 := Lib.hid (HB7.out.keep hk8 (fun k h => h.elim))
              have HK8 := Lib.hid (HK7.out.trans hk8 (fun _ _ h => h.elim))
              clear hk8
              have HW := Lib.hid (writeString_any w.heap.size w.heap.size _ ES _ HB8.out (by rw [Lib.byteCells_length]; omega) HK8.out.size)
              go_wp2_with fail
              refine HW.out.mono ?_
              rintro e w9 ⟨rfl, hB9, bel⟩
              rw [Lib.strCells_eq, ← show Lib.byteCells (ou ++ ES.data.toList) = Lib.byteCells ou ++ Lib.byteCells ES.data.toList from List.map_append] at hB9
              have HB9 := Lib.hid hB9
              have HX9 := Lib.hid (HX8.out.keep (Keep.of_below bel) (by have := HPL.out; omega))
              have HK9 := Lib.hid (HK8.out.above bel (Nat.le_refl _))
              clear hB9 bel
              have HPS := Lib.hid (posOf_at HX9.out)
              go_wp2_with fail
              go_roundw
              case rel => exact ⟨b + 2, _, n, by omega, by omega, by rw [List.length_append]; have := HEL.out; omega, Lib.hid ⟨HX9.out, HB9.out, HK9.out, by rw [← HST.out]; exact HR.out.2.2.2⟩⟩
              case measure => (have h1 := HPS.out; have h2 := HPR.out; simp only [h1, h2]; omega)
          | false =>
            replace HST := Lib.hid (HST.out (fun h => by cases h.2))
            clear j10 HF1
            go_wp2_with fail
            refine (HP1.out wr HX1.out).mono ?_
            rintro e w2 ⟨rfl, hk2⟩
            have HX2 := Lib.hid (HX1.out.keep hk2 id)
            have HB2 := Lib.hid (HB1.out.keep hk2 (fun k h => h.elim))
            have HK2 := Lib.hid (HK1.out.trans hk2 (fun _ _ h => h.elim))
            clear hk2
            go_wp2_with fail
            refine (HE1.out w2 HX2.out).mono ?_
            rintro e w3 ⟨rfl, hk3⟩
            have HX3 := Lib.hid (HX2.out.keep hk3 id)
            have HB3 := Lib.hid (HB2.out.keep hk3 (fun k h => h.elim))
            have HK3 := Lib.hid (HK2.out.trans hk3 (fun _ _ h => h.elim))
            clear hk3
            go_wp2_with fail
            refine (HS1.out w3 HX3.out).mono ?_
            rintro e w4 ⟨rfl, hx4, hk4⟩
            have HX4 := Lib.hid hx4
            have HB4 := Lib.hid (HB3.out.keep hk4 (fun k hx => by simp only [Ob] at hx; have := HPL.out; omega))
            have HK4 := Lib.hid (HK3.out.trans hk4 (fun _ _ h => h))
            clear hx4 hk4
            go_wp2_with fail
            refine (HE2.out w4 HX4.out).mono ?_
            rintro e w5 ⟨rfl, hk5⟩
            have HX5 := Lib.hid (HX4.out.keep hk5 id)
            have HB5 := Lib.hid (HB4.out.keep hk5 (fun k h => h.elim))
            have HK5 := Lib.hid (HK4.out.trans hk5 (fun _ _ h => h.elim))
            clear hk5
            go_wp2_with fail
            refine (HN2.out w5 HX5.out).mono ?_
            rintro e w7 ⟨rfl, hx7, hk7⟩
            have HX7 := Lib.hid hx7
            have HB7 := Lib.hid (HB5.out.keep hk7 (fun k hx => by simp only [Ob] at hx; have := HPL.out; omega))
            have HK7 := Lib.hid (HK5.out.trans hk7 (fun _ _ h => h))
            clear hx7 hk7
            go_wp2_with fail
            refine (HES.out w7).mono ?_
            rintro e w8 ⟨rfl, hk8⟩
            have HX8 := Lib.hid (HX7.out.keep hk8 id)
            have HB8 := Lib.hid (HB7.out.keep hk8 (fun k h => h.elim))
            have HK8 := Lib.hid (HK7.out.trans hk8 (fun _ _ h => h.elim))
            clear hk8
            have HW := Lib.hid (writeString_any w.heap.size w.heap.size _ ES _ HB8.out (by rw [Lib.byteCells_length]; omega) HK8.out.size)
            go_wp2_with fail
            refine HW.out.mono ?_
            rintro e w9 ⟨rfl, hB9, bel⟩
            rw [Lib.strCells_eq, ← show Lib.byteCells (ou ++ ES.data.toList) = Lib.byteCells ou ++ Lib.byteCells ES.data.toList from List.map_append] at hB9
            have HB9 := Lib.hid hB9
            have HX9 := Lib.hid (HX8.out.keep (Keep.of_below bel) (by have := HPL.out; omega))
            have HK9 := Lib.hid (HK8.out.above bel (Nat.le_refl _))
            clear hB9 bel
            have HPS := Lib.hid (posOf_at HX9.out)
            go_wp2_with fail
            go_roundw
            case rel => exact ⟨b + 2, _, n, by omega, by omega, by rw [List.length_append]; have := HEL.out; omega, Lib.hid ⟨HX9.out, HB9.out, HK9.out, by rw [← HST.out]; exact HR.out.2.2.2⟩⟩
            case measure => (have h1 := HPS.out; have h2 := HPR.out; simp only [h1, h2]; omega)
        · rw [decide_eq_true (by omega)] at HE2
          have HF := Lib.hid (HNO.out (b + 1) (by rw [← HR.out.2.2.2]; exact del_e0 hlt c10 cd c92 hl2))
          clear i10 i91 i92 idd c10 cd c92
          go_wp2_with fail
          refine (HP1.out wr HX1.out).mono ?_
          rintro e w2 ⟨rfl, hk2⟩
          have HX2 := Lib.hid (HX1.out.keep hk2 id)
          have HB2 := Lib.hid (HB1.out.keep hk2 (fun k h => h.elim))
          have HK2 := Lib.hid (HK1.out.trans hk2 (fun _ _ h => h.elim))
          clear hk2
          go_wp2_with fail
          refine (HE1.out w2 HX2.out).mono ?_
          rintro e w3 ⟨rfl, hk3⟩
          have HX3 := Lib.hid (HX2.out.keep hk3 id)
          have HB3 := Lib.hid (HB2.out.keep hk3 (fun k h => h.elim))
          have HK3 := Lib.hid (HK2.out.trans hk3 (fun _ _ h => h.elim))
          clear hk3
          go_wp2_with fail
          refine (HS1.out w3 HX3.out).mono ?_
          rintro e w4 ⟨rfl, hx4, hk4⟩
          have HX4 := Lib.hid hx4
          have HB4 := Lib.hid (HB3.out.keep hk4 (fun k hx => by simp only [Ob] at hx; have := HPL.out; omega))
          have HK4 := Lib.hid (HK3.out.trans hk4 (fun _ _ h => h))
          clear hx4 hk4
          go_wp2_with fail
          refine (HE2.out w4 HX4.out).mono ?_
          rintro e w5 ⟨rfl, hk5⟩
          have HX5 := Lib.hid (HX4.out.keep hk5 id)
          have HB5 := Lib.hid (HB4.out.keep hk5 (fun k h => h.elim))
          have HK5 := Lib.hid (HK4.out.trans hk5 (fun _ _ h => h.elim))
          clear hk5
          go_wp2_with fail
          go_ret2
          exact ⟨by rw [HF.out]; rfl, by rw [HF.out]; exact HX5.out, HK5.out⟩
      have q92 : ((s[b].toNat : Int) == 92) = false := beq_eq_false_iff_ne.2 (fun h => c92 (i92.2 h))
      by_cases c91 : s[b] = 91 ∧ pt = true
      · obtain ⟨c91, rfl⟩ := c91
        have q91 : ((s[b].toNat : Int) == 91) = true := beq_iff_eq.2 (i91.1 c91)
        have HST := Lib.hid (del_br (n := n) (o := ou) hlt c10 cd ⟨c91, rfl⟩)
        have hbl := brk_le (lnA s b) (lnA_pos hlt c10)
        have hll := ln_le s b hbs
        have hRl : (s.extract b s.size).data.toList = s.toList.drop b := by rw [← ByteArray.toList_eq]; exact extract_toList s b
        have hRs : (s.extract b s.size).size = s.size - b := by rw [← toList_len, extract_toList, List.length_drop, toList_len]
        have hR0 : (s.extract b s.size)[0]'(by omega) = 91 := by
          have e1 : (s.extract b s.size)[0]'(by omega) = s[b] := by simp [ByteArray.getElem_extract]
          rw [e1]; exact c91
        have HBR := Lib.hid (fun wx hx => bracket_t (s.extract b s.size) wx hx (by omega) (by omega) hR0)
        have hbe : brk (lnP (s.extract b s.size).data.toList) = brk (lnA s b) := by rw [hRl]; rfl
        rw [hbe] at HBR
        rw [← hRl] at HST
        have HS1 := Lib.hid (fun wx hx => HSK.out b (brk (lnA s b)) wx hx (by omega) (by omega))
        clear hR0 hbe
        obtain ⟨R, hR⟩ : ∃ R, s.extract b s.size = R := ⟨_, rfl⟩
        rw [hR] at HST hRs
        have HR1' : Hid (∀ wx : World, LexAt wx p s b → Calls Tryd.prog 15 #[.pointer (some ⟨p, 0, none⟩)] wx fun e w' => e = .returned (.string R) ∧ Keep Nb wx w') := Lib.hid (fun wx hx => by rw [← hR]; exact HR1.out wx hx)
        have HBR' : Hid (∀ wx : World, Laid0 wx → Calls Tryd.prog 43 #[.string R] wx fun e w' => e = .returned (.int .i64 (brk (lnA s b) : Nat)) ∧ Keep Nb wx w') := Lib.hid (fun wx hx => by rw [← hR]; exact HBR.out wx hx)
        clear HR1 HBR hRl hR
        have HR1 := HR1'
        have HBR := HBR'
        clear HR1' HBR'
        generalize brk (lnA s b) = m at HBR HS1 HST hbl
        have hmR : (m : Int) ≤ (R.size : Int) := by omega
        have hm0 : (0 : Int) ≤ (m : Int) := by omega
        rw [← ext_take] at HST
        have hes : (R.extract 0 m).size = m := by rw [ByteArray.size_extract]; omega
        have hel : (R.extract 0 m).data.toList.length = m := by rw [Array.length_toList]; exact hes
        generalize hES : R.extract 0 m = ES at HST hes hel
        have HEX := Lib.hid hES
        have HEL := Lib.hid hel
        clear i10 i91 i92 idd c10 cd c92 c91 hel hES
        go_wp2_with fail
        refine (HP1.out wr HX1.out).mono ?_
        rintro e w2 ⟨rfl, hk2⟩
        have HX2 := Lib.hid (HX1.out.keep hk2 id)
        have HB2 := Lib.hid (HB1.out.keep hk2 (fun k h => h.elim))
        have HK2 := Lib.hid (HK1.out.trans hk2 (fun _ _ h => h.elim))
        clear hk2
        go_wp2_with fail
        refine (HE1.out w2 HX2.out).mono ?_
        rintro e w3 ⟨rfl, hk3⟩
        have HX3 := Lib.hid (HX2.out.keep hk3 id)
        have HB3 := Lib.hid (HB2.out.keep hk3 (fun k h => h.elim))
        have HK3 := Lib.hid (HK2.out.trans hk3 (fun _ _ h => h.elim))
        clear hk3
        go_wp2_with fail
        refine (HR1.out w3 HX3.out).mono ?_
        rintro e w4 ⟨rfl, hk4⟩
        have HX4 := Lib.hid (HX3.out.keep hk4 id)
        have HB4 := Lib.hid (HB3.out.keep hk4 (fun k h => h.elim))
        have HK4 := Lib.hid (HK3.out.trans hk4 (fun _ _ h => h.elim))
        clear hk4
        have HLA : Hid (Laid0 w4) := Lib.hid (HM.out.keep HK4.out (fun h => hp2 (by simp only [Ob] at h; exact h.symm)))
        go_wp2_with fail
        refine (HBR.out w4 HLA.out).mono ?_
        rintro e w5 ⟨rfl, hk5⟩
        have HX5 := Lib.hid (HX4.out.keep hk5 id)
        have HB5 := Lib.hid (HB4.out.keep hk5 (fun k h => h.elim))
        have HK5 := Lib.hid (HK4.out.trans hk5 (fun _ _ h => h.elim))
        clear hk5
        go_wp2_with fail
        refine (HR1.out w5 HX5.out).mono ?_
        rintro e w6 ⟨rfl, hk6⟩
        have HX6 := Lib.hid (HX5.out.keep hk6 id)
        have HB6 := Lib.hid (HB5.out.keep hk6 (fun k h => h.elim))
        have HK6 := Lib.hid (HK5.out.trans hk6 (fun _ _ h => h.elim))
        clear hk6
        have HW := Lib.hid (writeString_any w.heap.size w.heap.size _ ES _ HB6.out (by rw [Lib.byteCells_length]; omega) HK6.out.size)
        go_wp2_with fail
        rw [HEX.out]
        refine HW.out.mono ?_
        rintro e w7 ⟨rfl, hB7, bel⟩
        rw [Lib.strCells_eq, ← show Lib.byteCells (ou ++ ES.data.toList) = Lib.byteCells ou ++ Lib.byteCells ES.data.toList from List.map_append] at hB7
        have HB7 := Lib.hid hB7
        have HX7 := Lib.hid (HX6.out.keep (Keep.of_below bel) (by have := HPL.out; omega))
        have HK7 := Lib.hid (HK6.out.above bel (Nat.le_refl _))
        clear hB7 bel
        go_wp2_with fail
        refine (HS1.out w7 HX7.out).mono ?_
        rintro e w8 ⟨rfl, hx8, hk8⟩
        have HX8 := Lib.hid hx8
        have HB8 := Lib.hid (HB7.out.keep hk8 (fun k hx => by simp only [Ob] at hx; have := HPL.out; omega))
        have HK8 := Lib.hid (HK7.out.trans hk8 (fun _ _ h => h))
        clear hx8 hk8
        have HPS := Lib.hid (posOf_at HX8.out)
        go_wp2_with fail
        go_roundw
        case rel => exact ⟨b + m, _, n, by omega, by omega, by rw [List.length_append]; have := HEL.out; omega, Lib.hid ⟨HX8.out, HB8.out, HK8.out, by rw [← HST.out]; exact HR.out.2.2.2⟩⟩
        case measure => (have h1 := HPS.out; have h2 := HPR.out; simp only [h1, h2]; omega)
      · have HST := Lib.hid (del_byte (n := n) (o := ou) hlt c10 cd c91 c92)
        have hpt : ((s[b].toNat : Int) == 91) = true → pt = false := fun h => by
          cases hp : pt with
          | false => rfl
          | true => exact absurd ⟨i91.2 (beq_iff_eq.1 h), hp⟩ c91
        clear i10 i91 i92 idd c10 cd c92 c91
        cases q91 : ((s[b].toNat : Int) == 91) with
        | true =>
          obtain rfl := hpt q91
          clear hpt
          go_wp2_with fail
          refine (HP1.out wr HX1.out).mono ?_
          rintro e w2 ⟨rfl, hk2⟩
          have HX2 := Lib.hid (HX1.out.keep hk2 id)
          have HB2 := Lib.hid (HB1.out.keep hk2 (fun k h => h.elim))
          have HK2 := Lib.hid (HK1.out.trans hk2 (fun _ _ h => h.elim))
          clear hk2
          go_wp2_with fail
          refine (HE1.out w2 HX2.out).mono ?_
          rintro e w3 ⟨rfl, hk3⟩
          have HX3 := Lib.hid (HX2.out.keep hk3 id)
          have HB3 := Lib.hid (HB2.out.keep hk3 (fun k h => h.elim))
          have HK3 := Lib.hid (HK2.out.trans hk3 (fun _ _ h => h.elim))
          clear hk3
          go_wp2_with fail
          refine (HN1.out w3 HX3.out).mono ?_
          rintro e w4 ⟨rfl, hx4, hk4⟩
          have HX4 := Lib.hid hx4
          have HB4 := Lib.hid (HB3.out.keep hk4 (fun k hx => by simp only [Ob] at hx; have := HPL.out; omega))
          have HK4 := Lib.hid (HK3.out.trans hk4 (fun _ _ h => h))
          clear hx4 hk4
          have HW := Lib.hid (writeByte_any w.heap.size w.heap.size _ s[b].toNat _ HB4.out (by rw [Lib.byteCells_length]; omega) HK4.out.size)
          go_wp2_with fail
          refine HW.out.mono ?_
          rintro e w5 ⟨rfl, hB5, bel⟩
          rw [cells_snoc] at hB5
          have HB5 := Lib.hid hB5
          have HX5 := Lib.hid (HX4.out.keep (Keep.of_below bel) (by have := HPL.out; omega))
          have HK5 := Lib.hid (HK4.out.above bel (Nat.le_refl _))
          clear hB5 bel
          have HPS := Lib.hid (posOf_at HX5.out)
          go_wp2_with fail
          go_roundw
          case rel => exact ⟨b + 1, _, n, by omega, by omega, by rw [List.length_append]; show _ + 1 ≤ _; omega, Lib.hid ⟨HX5.out, HB5.out, HK5.out, by rw [← HST.out]; exact HR.out.2.2.2⟩⟩
          case measure => (have h1 := HPS.out; have h2 := HPR.out; simp only [h1, h2]; omega)
        | false =>
          clear hpt
          go_wp2_with fail
          refine (HP1.out wr HX1.out).mono ?_
          rintro e w2 ⟨rfl, hk2⟩
          have HX2 := Lib.hid (HX1.out.keep hk2 id)
          have HB2 := Lib.hid (HB1.out.keep hk2 (fun k h => h.elim))
          have HK2 := Lib.hid (HK1.out.trans hk2 (fun _ _ h => h.elim))
          clear hk2
          go_wp2_with fail
          refine (HE1.out w2 HX2.out).mono ?_
          rintro e w3 ⟨rfl, hk3⟩
          have HX3 := Lib.hid (HX2.out.keep hk3 id)
          have HB3 := Lib.hid (HB2.out.keep hk3 (fun k h => h.elim))
          have HK3 := Lib.hid (HK2.out.trans hk3 (fun _ _ h => h.elim))
          clear hk3
          go_wp2_with fail
          refine (HN1.out w3 HX3.out).mono ?_
          rintro e w4 ⟨rfl, hx4, hk4⟩
          have HX4 := Lib.hid hx4
          have HB4 := Lib.hid (HB3.out.keep hk4 (fun k hx => by simp only [Ob] at hx; have := HPL.out; omega))
          have HK4 := Lib.hid (HK3.out.trans hk4 (fun _ _ h => h))
          clear hx4 hk4
          have HW := Lib.hid (writeByte_any w.heap.size w.heap.size _ s[b].toNat _ HB4.out (by rw [Lib.byteCells_length]; omega) HK4.out.size)
          go_wp2_with fail
          refine HW.out.mono ?_
          rintro e w5 ⟨rfl, hB5, bel⟩
          rw [cells_snoc] at hB5
          have HB5 := Lib.hid hB5
          have HX5 := Lib.hid (HX4.out.keep (Keep.of_below bel) (by have := HPL.out; omega))
          have HK5 := Lib.hid (HK4.out.above bel (Nat.le_refl _))
          clear hB5 bel
          have HPS := Lib.hid (posOf_at HX5.out)
          go_wp2_with fail
          go_roundw
          case rel => exact ⟨b + 1, _, n, by omega, by omega, by rw [List.length_append]; show _ + 1 ≤ _; omega, Lib.hid ⟨HX5.out, HB5.out, HK5.out, by rw [← HST.out]; exact HR.out.2.2.2⟩⟩
          case measure => (have h1 := HPS.out; have h2 := HPR.out; simp only [h1, h2]; omega)
    · obtain rfl : b = s.size := by omega
      have HF := Lib.hid (HNO.out s.size (by rw [← HR.out.2.2.2]; exact del_end (by omega)))
      have HP1 := Lib.hid (fun wx hx => HPE.out wx hx)
      have HE1 := Lib.hid (fun wx hx => HEN.out s.size wx hx (Nat.le_refl _))
      rw [decide_eq_true (rfl : s.size = s.size)] at HE1
      go_wp2_with fail
      refine (HP1.out wr HX1.out).mono ?_
      rintro e w2 ⟨rfl, hk2⟩
      have HX2 := Lib.hid (HX1.out.keep hk2 id)
      have HB2 := Lib.hid (HB1.out.keep hk2 (fun k h => h.elim))
      have HK2 := Lib.hid (HK1.out.trans hk2 (fun _ _ h => h.elim))
      clear hk2
      go_wp2_with fail
      refine (HE1.out w2 HX2.out).mono ?_
      rintro e w3 ⟨rfl, hk3⟩
      have HX3 := Lib.hid (HX2.out.keep hk3 id)
      have HB3 := Lib.hid (HB2.out.keep hk3 (fun k h => h.elim))
      have HK3 := Lib.hid (HK2.out.trans hk3 (fun _ _ h => h.elim))
      clear hk3
      go_wp2_with fail
      go_ret2
      exact ⟨by rw [HF.out]; rfl, by rw [HF.out]; exact HX3.out, HK3.out⟩

end Go.Proofs.YtilnccjdbdcklaaDoor
