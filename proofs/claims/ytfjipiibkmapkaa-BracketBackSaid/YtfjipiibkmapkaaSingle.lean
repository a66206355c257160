/- The reference: a byte as it may stand in a range. -/
import Derived.Test.YtfjipiibkmapkaaParseL
import Derived.Deep.DeepCutAuto
import Derived.Deep.CutBlock
namespace Go.Proofs.Ytfjipiibkmapkaa
set_option linter.unusedVariables false
set_option linter.unusedSimpArgs false
open Go.RowKit

theorem pre2_short {x y : UInt8} {l : List UInt8} (h : l.length < 2) : preB [x, y] l = false := by
  refine Bool.eq_false_iff.2 fun hp => ?_
  have := preB_len hp
  simp at this
  omega
theorem pre2_eq {x y : UInt8} {L : List UInt8} {a : Nat} {c0 c1 : UInt8} (h0 : L[a]? = some c0) (h1 : L[a + 1]? = some c1) : preB [x, y] (L.drop a) = (decide (c0 = x) && decide (c1 = y)) := by
  unfold preB
  rw [show ([x, y] : List UInt8).length = 2 from rfl, take_two h0 h1, Bool.eq_iff_iff]
  simp
theorem pre1_eq {x : UInt8} {L : List UInt8} {a : Nat} {c0 : UInt8} (h0 : L[a]? = some c0) : preB [x] (L.drop a) = decide (c0 = x) := by
  obtain ⟨g1, e1⟩ := List.getElem?_eq_some_iff.1 h0
  unfold preB
  rw [List.drop_eq_getElem_cons g1, e1, Bool.eq_iff_iff]
  simp
theorem pre1_short {x : UInt8} {L : List UInt8} {a : Nat} (h : L.length ≤ a) : preB [x] (L.drop a) = false := by
  rw [List.drop_eq_nil_of_le h]
  rfl
theorem named_short {c : UInt8} {l : List UInt8} (h : l.length < 5) : namedF c l = none := by
  cases hn : namedF c l with
  | none => rfl
  | some x => have := (namedF_some hn).1; omega
theorem named_eq {L : List UInt8} {a : Nat} {x d e : UInt8} (c : UInt8) (hx : L[a + 2]? = some x) (hd : L[a + 3]? = some d) (he : L[a + 3 + 1]? = some e) :
    namedF c (L.drop a) = if x = 10 then none else if d = c ∧ e = 93 then some x else none := by
  obtain ⟨g4, e4⟩ := List.getElem?_eq_some_iff.1 he
  have f2 := (List.getElem?_eq_some_iff.1 hx).2
  have f3 := (List.getElem?_eq_some_iff.1 hd).2
  rw [List.drop_eq_getElem_cons (by omega : a < L.length), List.drop_eq_getElem_cons (by omega : a + 1 < L.length), List.drop_eq_getElem_cons (by omega : a + 1 + 1 < L.length), List.drop_eq_getElem_cons (by omega : a + 1 + 1 + 1 < L.length), List.drop_eq_getElem_cons (by omega : a + 1 + 1 + 1 + 1 < L.length)]
  rw [namedF]
  simp only [show a + 1 + 1 = a + 2 from rfl, show a + 2 + 1 = a + 3 from rfl, f2, f3, e4]
def emptyLf (l : List UInt8) : Bool := match l with
  | [] => true
  | b :: _ => decide (b = 10)
theorem emptyLf_eq {L : List UInt8} {a : Nat} {c0 : UInt8} (h0 : L[a]? = some c0) : emptyLf (L.drop a) = decide (c0 = 10) := by
  obtain ⟨g1, e1⟩ := List.getElem?_eq_some_iff.1 h0
  rw [List.drop_eq_getElem_cons g1, e1]
  rfl
theorem single_empty {l : List UInt8} (h : emptyLf l = true) : singleF l = none := by
  cases l with
  | nil => rfl
  | cons b r => simp [emptyLf] at h; simp [singleF, h]
theorem single_more {l : List UInt8} (h : emptyLf l = false) : ∃ b, l[0]? = some b ∧ singleF l = if preB [92, 110] l then some (10, 2) else if preB [91, 46] l then (namedF 46 l).map fun x => (x, 5) else some (b, 1) := by
  cases l with
  | nil => simp [emptyLf] at h
  | cons b r => simp [emptyLf] at h; exact ⟨b, rfl, by rw [singleF]; simp [h]⟩
/-- What single answers. -/
def singleV (o : Option (UInt8 × Nat)) (a : Nat) : Value := match o with
  | some (x, k) => .tuple #[.int .u8 x.toNat, .int .i64 ((a + k : Nat) : Int), .bool true]
  | none => .tuple #[.int .u8 0, .int .i64 0, .bool false]

set_option maxRecDepth 100000 in
set_option maxHeartbeats 2000000 in
theorem single_r (s : ByteArray) (a : Nat) (ha : a ≤ s.size) (hz : s.size ≤ 1000000) (w : World) :
    Calls Try.prog 36 #[.string s, .int .i64 (a : Int)] w fun e w' => e = .returned (singleV (singleF (s.toList.drop a)) a) ∧ Keep Nb w w' := by
  obtain ⟨m, hm⟩ : ∃ m, s.size = a + m := ⟨s.size - a, by omega⟩
  have HM := Lib.hid hm
  have hsub : wrap64 ((s.size : Int) - (a : Int)) = (m : Int) := by unfold wrap64; omega
  have h0 : (0 : Int) ≤ (a : Int) := by omega
  clear hm
  go_enter Try.func36, Try.ntmps36
  go_upto_region 1 with fail
  go_cut [7] (fun c wx => c = .bool (emptyLf (s.toList.drop a)) ∧ w = wx)
  case first =>
    have hm := HM.out
    by_cases hE : a = s.size
    · have t1 : decide ((s.size : Int) ≤ (a : Int)) = true := by simp; omega
      have t2 : decide (s.size ≤ a) = true := by simp; omega
      have HB := Lib.hid (show emptyLf (s.toList.drop a) = true by rw [List.drop_eq_nil_of_le (by rw [toList_len]; omega)]; rfl)
      clear hE hm
      go_wp2_with fail
      go_meet
      exact ⟨by rw [HB.out], rfl⟩
    have t1 : decide ((s.size : Int) ≤ (a : Int)) = false := by simp; omega
    have t2 : decide (s.size ≤ a) = false := by simp; omega
    obtain ⟨c0, hc0⟩ : ∃ c, s.toList[a]? = some c := ⟨_, List.getElem?_eq_getElem (by rw [toList_len]; omega)⟩
    obtain ⟨b0, e0⟩ := byte_at hc0
    have i1 : (a : Int) < (s.size : Int) := by omega
    have hB := emptyLf_eq hc0
    by_cases k0 : c0 = 10
    · have m0 : ((c0.toNat : Int) == 10) = true := by rw [k0]; rfl
      have HB := Lib.hid (show emptyLf (s.toList.drop a) = true by rw [hB]; simpa using k0)
      clear hc0 k0 hE hm hB
      go_wp2_with fail
      go_meet
      exact ⟨by rw [HB.out], rfl⟩
    · have m0 : ((c0.toNat : Int) == 10) = false := u8_ne (n := 10) (by omega) k0
      have HB := Lib.hid (show emptyLf (s.toList.drop a) = false by rw [hB]; simpa using k0)
      clear hc0 k0 hE hm hB
      go_wp2_with fail
      go_meet
      exact ⟨by rw [HB.out], rfl⟩
  case rest =>
  obtain ⟨rfl, rfl⟩ := hcut
  cases hT : emptyLf (s.toList.drop a) with
  | true =>
    have HS := Lib.hid (single_empty hT)
    clear hT
    go_wp2_with fail
    go_ret3
    exact ⟨by rw [HS.out]; rfl, Keep.refl _ _⟩
  | false =>
  obtain ⟨b, hb0, hS⟩ := single_more hT
  rw [List.getElem?_drop, Nat.add_zero] at hb0
  have HS := Lib.hid hS
  clear hT hS
  obtain ⟨bl, be⟩ := byte_at hb0
  have HB0 := Lib.hid hb0
  clear hb0
  have I1 : (a : Int) < (s.size : Int) := by omega
  have W2 : wrap64 ((a : Int) + 2) = (a : Int) + 2 := by unfold wrap64; omega
  have W5 : wrap64 ((a : Int) + 5) = (a : Int) + 5 := by unfold wrap64; omega
  have W1 : wrap64 ((a : Int) + 1) = (a : Int) + 1 := by unfold wrap64; omega
  go_upto_region 3 with fail
  go_cut [18] (fun c wx => c = .bool (preB [92, 110] (s.toList.drop a)) ∧ w = wx)
  case first =>
    have hm := HM.out
    by_cases h2 : m < 2
    · have t1 : decide ((2 : Int) ≤ (s.size : Int) - (a : Int)) = false := by simp; omega
      have t2 : decide (2 ≤ m) = false := by simp; omega
      have hB : preB [92, 110] (s.toList.drop a) = false := pre2_short (by rw [List.length_drop, toList_len]; omega)
      have HB := Lib.hid hB
      clear hB hm
      go_wp2_with fail
      go_meet
      exact ⟨by rw [HB.out], rfl⟩
    have t1 : decide ((2 : Int) ≤ (s.size : Int) - (a : Int)) = true := by simp; omega
    have t2 : decide (2 ≤ m) = true := by simp; omega
    have hc0 := HB0.out
    obtain ⟨c1, hc1⟩ : ∃ c, s.toList[a + 1]? = some c := ⟨_, List.getElem?_eq_getElem (by rw [toList_len]; omega)⟩
    obtain ⟨b1, e1⟩ := byte_at hc1
    have i2 : (a : Int) + 1 < (s.size : Int) := by omega
    have i3 : (0 : Int) ≤ (a : Int) + 1 := by omega
    have i4 : wrap64 ((a : Int) + 1) = (a : Int) + 1 := by unfold wrap64; omega
    have hB : preB [92, 110] (s.toList.drop a) = (decide (b = 92) && decide (c1 = 110)) := pre2_eq hc0 hc1
    by_cases k0 : b = 92
    · have m0 : ((b.toNat : Int) == 92) = true := by rw [k0]; rfl
      by_cases k1 : c1 = 110
      · have m1 : ((c1.toNat : Int) == 110) = true := by rw [k1]; rfl
        have HB := Lib.hid (show preB [92, 110] (s.toList.drop a) = true by rw [hB, k0, k1]; rfl)
        clear hB hc0 hc1 k0 k1 h2 hm
        go_wp2_with fail
        go_meet
        exact ⟨by rw [HB.out], rfl⟩
      · have m1 : ((c1.toNat : Int) == 110) = false := u8_ne (n := 110) (by omega) k1
        have HB := Lib.hid (show preB [92, 110] (s.toList.drop a) = false by rw [hB]; simp [k1])
        clear hB hc0 hc1 k0 k1 h2 hm
        go_wp2_with fail
        go_meet
        exact ⟨by rw [HB.out], rfl⟩
    · have m0 : ((b.toNat : Int) == 92) = false := u8_ne (n := 92) (by omega) k0
      have HB := Lib.hid (show preB [92, 110] (s.toList.drop a) = false by rw [hB]; simp [k0])
      clear hB hc0 hc1 k0 h2 hm
      go_wp2_with fail
      go_meet
      exact ⟨by rw [HB.out], rfl⟩
  case rest =>
  obtain ⟨rfl, rfl⟩ := hcut
  cases hT : preB [92, 110] (s.toList.drop a) with
  | true =>
    have HT := Lib.hid hT
    clear hT
    go_wp2_with fail
    go_ret3
    exact ⟨by rw [HS.out, HT.out]; rfl, Keep.refl _ _⟩
  | false =>
  have HT := Lib.hid hT
  clear hT
  go_upto_region 5 with fail
  go_cut [39] (fun c wx => c = .bool (preB [91, 46] (s.toList.drop a)) ∧ w = wx)
  case first =>
    have hm := HM.out
    by_cases h2 : m < 2
    · have t1 : decide ((2 : Int) ≤ (s.size : Int) - (a : Int)) = false := by simp; omega
      have t2 : decide (2 ≤ m) = false := by simp; omega
      have hB : preB [91, 46] (s.toList.drop a) = false := pre2_short (by rw [List.length_drop, toList_len]; omega)
      have HB := Lib.hid hB
      clear hB hm
      go_wp2_with fail
      go_meet
      exact ⟨by rw [HB.out], rfl⟩
    have t1 : decide ((2 : Int) ≤ (s.size : Int) - (a : Int)) = true := by simp; omega
    have t2 : decide (2 ≤ m) = true := by simp; omega
    have hc0 := HB0.out
    obtain ⟨c1, hc1⟩ : ∃ c, s.toList[a + 1]? = some c := ⟨_, List.getElem?_eq_getElem (by rw [toList_len]; omega)⟩
    obtain ⟨b1, e1⟩ := byte_at hc1
    have i2 : (a : Int) + 1 < (s.size : Int) := by omega
    have i3 : (0 : Int) ≤ (a : Int) + 1 := by omega
    have i4 : wrap64 ((a : Int) + 1) = (a : Int) + 1 := by unfold wrap64; omega
    have hB : preB [91, 46] (s.toList.drop a) = (decide (b = 91) && decide (c1 = 46)) := pre2_eq hc0 hc1
    by_cases k0 : b = 91
    · have m0 : ((b.toNat : Int) == 91) = true := by rw [k0]; rfl
      by_cases k1 : c1 = 46
      · have m1 : ((c1.toNat : Int) == 46) = true := by rw [k1]; rfl
        have HB := Lib.hid (show preB [91, 46] (s.toList.drop a) = true by rw [hB, k0, k1]; rfl)
        clear hB hc0 hc1 k0 k1 h2 hm
        go_wp2_with fail
        go_meet
        exact ⟨by rw [HB.out], rfl⟩
      · have m1 : ((c1.toNat : Int) == 46) = false := u8_ne (n := 46) (by omega) k1
        have HB := Lib.hid (show preB [91, 46] (s.toList.drop a) = false by rw [hB]; simp [k1])
        clear hB hc0 hc1 k0 k1 h2 hm
        go_wp2_with fail
        go_meet
        exact ⟨by rw [HB.out], rfl⟩
    · have m0 : ((b.toNat : Int) == 91) = false := u8_ne (n := 91) (by omega) k0
      have HB := Lib.hid (show preB [91, 46] (s.toList.drop a) = false by rw [hB]; simp [k0])
      clear hB hc0 hc1 k0 h2 hm
      go_wp2_with fail
      go_meet
      exact ⟨by rw [HB.out], rfl⟩
  case rest =>
  obtain ⟨rfl, rfl⟩ := hcut
  cases hT : preB [91, 46] (s.toList.drop a) with
  | false =>
    have HU := Lib.hid hT
    clear hT
    go_wp2_with fail
    go_ret3
    exact ⟨by rw [HS.out, HT.out, HU.out]; rfl, Keep.refl _ _⟩
  | true =>
  have HU := Lib.hid hT
  clear hT
  go_upto_region 6 with fail
  go_cut [78] (fun c wx => c = .bool (namedF 46 (s.toList.drop a)).isNone ∧ w = wx)
  case first =>
    have hm := HM.out
    have i0 : wrap64 ((a : Int) + 2) = (a : Int) + 2 := by unfold wrap64; omega
    have i1 : wrap64 ((a : Int) + 3) = (a : Int) + 3 := by unfold wrap64; omega
    have i2 : wrap64 ((a : Int) + 5) = (a : Int) + 5 := by unfold wrap64; omega
    have i3 : (0 : Int) ≤ (a : Int) + 2 := by omega
    have i4 : (0 : Int) ≤ (a : Int) + 3 := by omega
    have i5 : (a : Int) + 3 ≤ (a : Int) + 5 := by omega
    have i9 : (0 : Int) ≤ (a : Int) + 5 := by omega
    by_cases h5 : m < 5
    · have t1 : decide ((s.size : Int) - (a : Int) < 5) = true := by simp; omega
      have t2 : decide (m < 5) = true := by simp; omega
      have HB := Lib.hid (show (namedF 46 (s.toList.drop a)).isNone = true by rw [named_short (by rw [List.length_drop, toList_len]; omega)]; rfl)
      clear h5 hm
      go_wp2_with fail
      go_meet
      exact ⟨by rw [HB.out], rfl⟩
    have t1 : decide ((s.size : Int) - (a : Int) < 5) = false := by simp; omega
    have t2 : decide (m < 5) = false := by simp; omega
    obtain ⟨x, hx⟩ : ∃ c, s.toList[a + 2]? = some c := ⟨_, List.getElem?_eq_getElem (by rw [toList_len]; omega)⟩
    obtain ⟨d, hd⟩ : ∃ c, s.toList[a + 3]? = some c := ⟨_, List.getElem?_eq_getElem (by rw [toList_len]; omega)⟩
    obtain ⟨e, he⟩ : ∃ c, s.toList[a + 3 + 1]? = some c := ⟨_, List.getElem?_eq_getElem (by rw [toList_len]; omega)⟩
    obtain ⟨b2, e2⟩ := byte_at hx
    have i6 : (a : Int) + 2 < (s.size : Int) := by omega
    have i7 : (a : Int) + 5 ≤ (s.size : Int) := by omega
    have hn := named_eq 46 hx hd he
    by_cases k0 : x = 10
    · have m0 : ((x.toNat : Int) == 10) = true := by rw [k0]; rfl
      have HB := Lib.hid (show (namedF 46 (s.toList.drop a)).isNone = true by rw [hn, if_pos k0]; rfl)
      clear hn hx hd he k0 h5 hm
      go_wp2_with fail
      go_meet
      exact ⟨by rw [HB.out], rfl⟩
    have m0 : ((x.toNat : Int) == 10) = false := u8_ne (n := 10) (by omega) k0
    have hsl : (s.extract (a + 3) (a + 5)).toList = [d, e] := by
      rw [ext_toList, show a + 5 - (a + 3) = 2 by omega]; exact take_two hd he
    by_cases k1 : d = 46 ∧ e = 93
    · have hs : ((s.extract (a + 3) (a + 5)).toList == [46, 93]) = true := by rw [hsl, k1.1, k1.2]; rfl
      have HB := Lib.hid (show (namedF 46 (s.toList.drop a)).isNone = false by rw [hn, if_neg k0, if_pos k1]; rfl)
      clear hn hx hd he k0 k1 h5 hsl hm
      go_wp2_with fail
      go_meet
      exact ⟨by rw [HB.out], rfl⟩
    · have hs : ((s.extract (a + 3) (a + 5)).toList == [46, 93]) = false := by
        rw [hsl]; refine beq_eq_false_iff_ne.2 fun h => k1 ?_
        simp at h; exact h
      have HB := Lib.hid (show (namedF 46 (s.toList.drop a)).isNone = true by rw [hn, if_neg k0, if_neg k1]; rfl)
      clear hn hx hd he k0 k1 h5 hsl hm
      go_wp2_with fail
      go_meet
      exact ⟨by rw [HB.out], rfl⟩
  case rest =>
  obtain ⟨rfl, rfl⟩ := hcut
  cases hT : namedF 46 (s.toList.drop a) with
  | none =>
    have HV := Lib.hid hT
    clear hT
    simp only [Option.isNone]
    go_wp2_with fail
    go_ret3
    exact ⟨by rw [HS.out, HT.out, HU.out, HV.out]; rfl, Keep.refl _ _⟩
  | some x =>
    obtain ⟨g5, g2, _, _, _⟩ := namedF_some hT
    rw [List.length_drop, toList_len] at g5
    rw [List.getElem?_drop] at g2
    obtain ⟨b2, e2⟩ := byte_at g2
    have J1 : (a : Int) + 2 < (s.size : Int) := by omega
    have J2 : (0 : Int) ≤ (a : Int) + 2 := by omega
    have HV := Lib.hid hT
    clear hT g2 g5
    simp only [Option.isNone]
    go_wp2_with fail
    go_ret3
    exact ⟨by rw [HS.out, HT.out, HU.out, HV.out, ← e2]; rfl, Keep.refl _ _⟩

end Go.Proofs.Ytfjipiibkmapkaa
