/- Word of the program, at any place of any text. Printed by gen_word.py. -/
import Derived.Test.YtilnccjdbdcklaaDoorRl
import Derived.Test.YtilnccjdbdcklaaDoorIay
namespace Go.Proofs.YtilnccjdbdcklaaDoor
set_option linter.unusedVariables false
set_option linter.unusedSimpArgs false
open Go.RowKit

/-- How many bytes a word may have; the word. -/
def wdN (s : ByteArray) (a : Nat) : Nat := ((s.toList.drop a).takeWhile (fun c => !wds.contains c)).length
def wdT (s : ByteArray) (a : Nat) : List UInt8 := Lib.trimRightS ((s.toList.drop a).take (wdN s a)) bls
theorem wd_le (s : ByteArray) (a : Nat) (ha : a ≤ s.size) : a + wdN s a ≤ s.size := by
  have := tw_le (fun c => !wds.contains c) (s.toList.drop a)
  rw [List.length_drop, toList_len] at this
  unfold wdN; omega
theorem trimR_le (l cs : List UInt8) : (Lib.trimRightS l cs).length ≤ l.length := by
  unfold Lib.trimRightS
  rw [List.length_reverse]
  have : (l.reverse.dropWhile (cs.contains ·)).length ≤ l.reverse.length := (List.dropWhile_suffix _).length_le
  rwa [List.length_reverse] at this
theorem iany_tw : ∀ l : List UInt8, Lib.indexAny l wds = if (l.takeWhile (fun c => !wds.contains c)).length < l.length then (((l.takeWhile (fun c => !wds.contains c)).length : Nat) : Int) else -1
  | [] => by simp [Lib.indexAny]
  | b :: l => by
    have ih := iany_tw l
    rw [Lib.indexAny, List.takeWhile_cons]
    cases hb : wds.contains b with
    | true => simp
    | false =>
      have hl := tw_le (fun c => !wds.contains c) l
      simp only [Bool.not_false, if_true, if_false, List.length_cons, Bool.false_eq_true]
      rw [ih]
      generalize (l.takeWhile (fun c => !wds.contains c)).length = n at hl ⊢
      by_cases h : n < l.length
      · have e : ¬ ((n : Int) == -1) = true := by simp
        have h2 : n + 1 < l.length + 1 := by omega
        simp only [if_pos h, if_neg e, if_pos h2]; omega
      · have h2 : ¬ n + 1 < l.length + 1 := by omega
        simp only [if_neg h, if_neg h2]; rfl

set_option maxHeartbeats 4000000 in
set_option maxRecDepth 100000 in
theorem pword_any (p : Nat) (s : ByteArray) (a : Nat) (m : Int) (w : World) (hb : LexAt w p s a) (ha : a ≤ s.size) (hz : s.size ≤ 1000000) :
    Calls Tryd.prog 27 #[.pointer (some ⟨p, 0, none⟩), .int .i64 m] w fun e w' => Keep (Ob p) w w' ∧
      ((wdT s a = [] ∨ m < (wdT s a).length) → e = .returned (.tuple #[.string ⟨#[]⟩, .bool false]) ∧ LexAt w' p s a) ∧
      (¬ (wdT s a = [] ∨ m < (wdT s a).length) → e = .returned (.tuple #[.string ⟨(wdT s a).toArray⟩, .bool true]) ∧ LexAt w' p s (a + wdN s a)) := by
  have HR := Lib.hid (rest_any p s a w hb ha)
  have HB := Lib.hid hb
  have hxl : (s.extract a s.size).toList = s.toList.drop a := extract_toList s a
  have hle := wd_le s a ha
  have hxs : (s.extract a s.size).size = s.size - a := by rw [← toList_len, hxl, List.length_drop, toList_len]
  have HI := Lib.hid (fun wx => iany_t (s.extract a s.size) wx (by omega))
  have hiw : Lib.indexAny (s.extract a s.size).data.toList wds = if wdN s a < (s.extract a s.size).size then ((wdN s a : Nat) : Int) else -1 := by
    rw [← ByteArray.toList_eq, hxl, iany_tw, ← toList_len (s.extract a s.size), hxl]; rfl
  rw [hiw] at HI
  have HT := Lib.hid (fun wx => trimRight_t ((s.extract a s.size).extract 0 (wdN s a)) ⟨#[32, 9]⟩ wx (by rw [ByteArray.size_extract]; omega) (by decide) (by decide))
  have eT : Lib.trimRightS ((s.extract a s.size).extract 0 (wdN s a)).data.toList (⟨#[32, 9]⟩ : ByteArray).data.toList = wdT s a := by
    have e1 : ((s.extract a s.size).extract 0 (wdN s a)).data.toList = (s.toList.drop a).take (wdN s a) := by
      rw [Lib.extract_from_zero, ← ByteArray.toList_eq, hxl]
    rw [e1]; rfl
  rw [eT] at HT
  have hT1 : (wdT s a).length ≤ 1000000 := by
    have := trimR_le ((s.toList.drop a).take (wdN s a)) bls
    have h2 : ((s.toList.drop a).take (wdN s a)).length ≤ s.size := by rw [List.length_take, List.length_drop, toList_len]; omega
    unfold wdT; omega
  have HSK := Lib.hid (fun wx hx => skip_any p s a (wdN s a) wx hx (by omega) (by omega))
  have hle2 : wdN s a ≤ (s.extract a s.size).size := by omega
  clear hb hxl eT hiw hxs
  generalize s.extract a s.size = R at HR HI HT hle2
  generalize wdT s a = t at HT hT1 ⊢
  generalize wdN s a = n at HI HT HSK hle hle2 ⊢
  obtain ⟨T, hTT⟩ : ∃ T : ByteArray, T = ⟨t.toArray⟩ := ⟨_, rfl⟩
  rw [← hTT] at HT ⊢
  have hTs : T.size = t.length := by rw [hTT]; rfl
  have hTe : T.toList.isEmpty = decide (t.length = 0) := by
    rw [ByteArray.toList_eq, hTT]
    cases t <;> simp
  have HTN : Hid ((t = [] ∨ m < t.length) ↔ (t.length = 0 ∨ m < T.size)) := Lib.hid (by rw [hTs, List.length_eq_zero_iff])
  clear hTT
  have hn0 : (0 : Int) ≤ (n : Int) := by omega
  have hn1 : (n : Int) ≤ (R.size : Int) := by omega
  by_cases hlt : n < R.size
  · rw [if_pos hlt] at HI
    have hneg : decide ((n : Int) < 0) = false := decide_eq_false (by omega)
    clear hlt
    by_cases h1 : t.length = 0
    · have HNO : Hid (t = [] ∨ m < t.length) := Lib.hid (HTN.out.2 (.inl h1))
      rw [decide_eq_true h1] at hTe
      clear h1 hTs
      go_enter Tryd.func27, Tryd.ntmps27
      go_wp2_with fail
      refine HR.out.mono ?_
      rintro e w1 ⟨rfl, hk1⟩
      have HB1 := Lib.hid (HB.out.keep hk1 id)
      have HK1 := Lib.hid hk1
      clear hk1
      go_wp2_with fail
      refine (HI.out w1).mono ?_
      rintro e w2 ⟨rfl, hk2⟩
      have HB2 := Lib.hid (HB1.out.keep hk2 id)
      have HK2 := Lib.hid (HK1.out.trans hk2 (fun _ _ h => h))
      clear hk2
      go_wp2_with fail
      refine (HT.out w2).mono ?_
      rintro e w3 ⟨rfl, hk3⟩
      have HB3 := Lib.hid (HB2.out.keep hk3 id)
      have HK3 := Lib.hid (HK2.out.trans hk3 (fun _ _ h => h))
      clear hk3
      go_wp2_with fail
      go_ret2
      exact ⟨HK3.out.ob, fun _ => ⟨rfl, HB3.out⟩, fun h => absurd HNO.out h⟩
    · rw [decide_eq_false h1] at hTe
      by_cases h2 : m < (T.size : Int)
      · have HNO : Hid (t = [] ∨ m < t.length) := Lib.hid (HTN.out.2 (.inr h2))
        have m2 : decide (m < (T.size : Int)) = true := decide_eq_true h2
        clear h1 h2 hTs
        go_enter Tryd.func27, Tryd.ntmps27
        go_wp2_with fail
        refine HR.out.mono ?_
        rintro e w1 ⟨rfl, hk1⟩
        have HB1 := Lib.hid (HB.out.keep hk1 id)
        have HK1 := Lib.hid hk1
        clear hk1
        go_wp2_with fail
        refine (HI.out w1).mono ?_
        rintro e w2 ⟨rfl, hk2⟩
        have HB2 := Lib.hid (HB1.out.keep hk2 id)
        have HK2 := Lib.hid (HK1.out.trans hk2 (fun _ _ h => h))
        clear hk2
        go_wp2_with fail
        refine (HT.out w2).mono ?_
        rintro e w3 ⟨rfl, hk3⟩
        have HB3 := Lib.hid (HB2.out.keep hk3 id)
        have HK3 := Lib.hid (HK2.out.trans hk3 (fun _ _ h => h))
        clear hk3
        go_wp2_with fail
        go_ret2
        exact ⟨HK3.out.ob, fun _ => ⟨rfl, HB3.out⟩, fun h => absurd HNO.out h⟩
      · have HNO : Hid (¬ (t = [] ∨ m < t.length)) := Lib.hid (fun h => by rcases HTN.out.1 h with h | h; exact h1 h; exact h2 h)
        have m2 : decide (m < (T.size : Int)) = false := decide_eq_false h2
        clear h1 h2 hTs
        go_enter Tryd.func27, Tryd.ntmps27
        go_wp2_with fail
        refine HR.out.mono ?_
        rintro e w1 ⟨rfl, hk1⟩
        have HB1 := Lib.hid (HB.out.keep hk1 id)
        have HK1 := Lib.hid hk1
        clear hk1
        go_wp2_with fail
        refine (HI.out w1).mono ?_
        rintro e w2 ⟨rfl, hk2⟩
        have HB2 := Lib.hid (HB1.out.keep hk2 id)
        have HK2 := Lib.hid (HK1.out.trans hk2 (fun _ _ h => h))
        clear hk2
        go_wp2_with fail
        refine (HT.out w2).mono ?_
        rintro e w3 ⟨rfl, hk3⟩
        have HB3 := Lib.hid (HB2.out.keep hk3 id)
        have HK3 := Lib.hid (HK2.out.trans hk3 (fun _ _ h => h))
        clear hk3
        go_wp2_with fail
        refine (HSK.out w3 HB3.out).mono ?_
        rintro e w4 ⟨rfl, hb4, hk4⟩
        have HB4 := Lib.hid hb4
        have HK4 := Lib.hid (HK3.out.ob.trans hk4 (fun _ _ h => h))
        clear hb4 hk4
        go_wp2_with fail
        go_ret2
        exact ⟨HK4.out, fun h => absurd h HNO.out, fun _ => ⟨rfl, HB4.out⟩⟩
  · rw [if_neg hlt] at HI
    have hRn : (R.size : Int) = (n : Int) := by omega
    have hRn2 : R.size = n := by omega
    clear hlt
    by_cases h1 : t.length = 0
    · have HNO : Hid (t = [] ∨ m < t.length) := Lib.hid (HTN.out.2 (.inl h1))
      rw [decide_eq_true h1] at hTe
      clear h1 hTs
      go_enter Tryd.func27, Tryd.ntmps27
      go_wp2_with fail
      refine HR.out.mono ?_
      rintro e w1 ⟨rfl, hk1⟩
      have HB1 := Lib.hid (HB.out.keep hk1 id)
      have HK1 := Lib.hid hk1
      clear hk1
      go_wp2_with fail
      refine (HI.out w1).mono ?_
      rintro e w2 ⟨rfl, hk2⟩
      have HB2 := Lib.hid (HB1.out.keep hk2 id)
      have HK2 := Lib.hid (HK1.out.trans hk2 (fun _ _ h => h))
      clear hk2
      go_wp2_with fail
      refine (HT.out w2).mono ?_
      rintro e w3 ⟨rfl, hk3⟩
      have HB3 := Lib.hid (HB2.out.keep hk3 id)
      have HK3 := Lib.hid (HK2.out.trans hk3 (fun _ _ h => h))
      clear hk3
      go_wp2_with fail
      go_ret2
      exact ⟨HK3.out.ob, fun _ => ⟨rfl, HB3.out⟩, fun h => absurd HNO.out h⟩
    · rw [decide_eq_false h1] at hTe
      by_cases h2 : m < (T.size : Int)
      · have HNO : Hid (t = [] ∨ m < t.length) := Lib.hid (HTN.out.2 (.inr h2))
        have m2 : decide (m < (T.size : Int)) = true := decide_eq_true h2
        clear h1 h2 hTs
        go_enter Tryd.func27, Tryd.ntmps27
        go_wp2_with fail
        refine HR.out.mono ?_
        rintro e w1 ⟨rfl, hk1⟩
        have HB1 := Lib.hid (HB.out.keep hk1 id)
        have HK1 := Lib.hid hk1
        clear hk1
        go_wp2_with fail
        refine (HI.out w1).mono ?_
        rintro e w2 ⟨rfl, hk2⟩
        have HB2 := Lib.hid (HB1.out.keep hk2 id)
        have HK2 := Lib.hid (HK1.out.trans hk2 (fun _ _ h => h))
        clear hk2
        go_wp2_with fail
        refine (HT.out w2).mono ?_
        rintro e w3 ⟨rfl, hk3⟩
        have HB3 := Lib.hid (HB2.out.keep hk3 id)
        have HK3 := Lib.hid (HK2.out.trans hk3 (fun _ _ h => h))
        clear hk3
        go_wp2_with fail
        go_ret2
        exact ⟨HK3.out.ob, fun _ => ⟨rfl, HB3.out⟩, fun h => absurd HNO.out h⟩
      · have HNO : Hid (¬ (t = [] ∨ m < t.length)) := Lib.hid (fun h => by rcases HTN.out.1 h with h | h; exact h1 h; exact h2 h)
        have m2 : decide (m < (T.size : Int)) = false := decide_eq_false h2
        clear h1 h2 hTs
        go_enter Tryd.func27, Tryd.ntmps27
        go_wp2_with fail
        refine HR.out.mono ?_
        rintro e w1 ⟨rfl, hk1⟩
        have HB1 := Lib.hid (HB.out.keep hk1 id)
        have HK1 := Lib.hid hk1
        clear hk1
        go_wp2_with fail
        refine (HI.out w1).mono ?_
        rintro e w2 ⟨rfl, hk2⟩
        have HB2 := Lib.hid (HB1.out.keep hk2 id)
        have HK2 := Lib.hid (HK1.out.trans hk2 (fun _ _ h => h))
        clear hk2
        go_wp2_with fail
        refine (HT.out w2).mono ?_
        rintro e w3 ⟨rfl, hk3⟩
        have HB3 := Lib.hid (HB2.out.keep hk3 id)
        have HK3 := Lib.hid (HK2.out.trans hk3 (fun _ _ h => h))
        clear hk3
        go_wp2_with fail
        refine (HSK.out w3 HB3.out).mono ?_
        rintro e w4 ⟨rfl, hb4, hk4⟩
        have HB4 := Lib.hid hb4
        have HK4 := Lib.hid (HK3.out.ob.trans hk4 (fun _ _ h => h))
        clear hb4 hk4
        go_wp2_with fail
        go_ret2
        exact ⟨HK4.out, fun h => absurd h HNO.out, fun _ => ⟨rfl, HB4.out⟩⟩

end Go.Proofs.YtilnccjdbdcklaaDoor
