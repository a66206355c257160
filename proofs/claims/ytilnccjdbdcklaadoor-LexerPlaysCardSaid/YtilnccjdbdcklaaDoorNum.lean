/- A number, read by the program: Number. -/
import Derived.Test.YtilnccjdbdcklaaDoorDig
namespace Go.Proofs.YtilnccjdbdcklaaDoor
set_option linter.unusedVariables false
set_option linter.unusedSimpArgs false
open Go.RowKit

def digs : List UInt8 := [48, 49, 50, 51, 52, 53, 54, 55, 56, 57]
/-- The digits ahead. -/
def dgP (l : List UInt8) : List UInt8 := l.takeWhile (digs.contains ·)
def valD (l : List UInt8) : Nat := l.foldl (fun n c => 10 * n + (c.toNat - 48)) 0
theorem digs_iff (c : UInt8) : digs.contains c = true ↔ 48 ≤ c.toNat ∧ c.toNat ≤ 57 := by
  have h : ∀ n : Nat, n < 256 → (digs.contains (UInt8.ofNat n) = true ↔ 48 ≤ n ∧ n ≤ 57) := by decide +kernel
  have := h c.toNat (UInt8.toNat_lt c)
  rwa [UInt8.ofNat_toNat] at this
theorem dg_digit {l : List UInt8} {c : UInt8} (h : c ∈ dgP l) : 48 ≤ c.toNat ∧ c.toNat ≤ 57 := (digs_iff c).1 (by
  have := List.all_takeWhile (l := l) (p := (digs.contains ·))
  exact List.all_eq_true.1 this c h)
theorem dg_split (l : List UInt8) : l = dgP l ++ Lib.trimLeftS l digs := (List.takeWhile_append_dropWhile ..).symm
theorem valD_take {l : List UInt8} {k : Nat} (h : k < l.length) : valD (l.take (k + 1)) = 10 * valD (l.take k) + (l[k].toNat - 48) := by
  unfold valD; rw [List.take_succ_eq_append_getElem h, List.foldl_append]; rfl
theorem valD_mono : ∀ (a : List UInt8) (n m : Nat), n ≤ m → m ≤ a.foldl (fun n c => 10 * n + (c.toNat - 48)) m
  | [], _, _, h => Nat.le_refl _
  | c :: r, n, m, h => by
    simp only [List.foldl_cons]
    have := valD_mono r (10 * m + (c.toNat - 48)) (10 * m + (c.toNat - 48)) (Nat.le_refl _)
    omega
theorem valD_le (l : List UInt8) (k : Nat) : valD (l.take k) ≤ valD l := by
  conv => rhs; rw [← List.take_append_drop k l]
  unfold valD
  rw [List.foldl_append]
  exact valD_mono _ _ _ (Nat.le_refl _)

set_option maxHeartbeats 2000000 in
set_option maxRecDepth 100000 in
theorem number_any (p : Nat) (s : ByteArray) (a : Nat) (w : World) (hb : LexAt w p s a) (ha : a ≤ s.size) (hz : s.size ≤ 1000000) :
    Calls Tryd.prog 9 #[.pointer (some ⟨p, 0, none⟩)] w fun e w' => Keep (Ob p) w w' ∧
      (1000000000 < valD (dgP (s.toList.drop a)) → e = .returned (.tuple #[.int .i64 0, .bool false]) ∧ LexAt w' p s a) ∧
      (valD (dgP (s.toList.drop a)) ≤ 1000000000 → e = .returned (.tuple #[.int .i64 (valD (dgP (s.toList.drop a)) : Nat), .bool (decide (0 < (dgP (s.toList.drop a)).length))]) ∧ LexAt w' p s (a + (dgP (s.toList.drop a)).length)) := by
  have HR := Lib.hid (rest_any p s a w hb ha)
  have HB := Lib.hid hb
  have hxl : (s.extract a s.size).toList = s.toList.drop a := extract_toList s a
  have hxs : (s.extract a s.size).size ≤ 1000000 := by rw [← toList_len, hxl, List.length_drop, toList_len]; omega
  generalize s.toList.drop a = l at hxl ⊢
  generalize s.extract a s.size = R at hxl hxs HR
  clear hb
  have hsp := dg_split l
  have HT := Lib.hid (fun wx => trimLeft_t R ⟨#[48, 49, 50, 51, 52, 53, 54, 55, 56, 57]⟩ wx (by decide) (by decide))
  have eT : Lib.trimLeftS R.data.toList (⟨#[48, 49, 50, 51, 52, 53, 54, 55, 56, 57]⟩ : ByteArray).data.toList = Lib.trimLeftS l digs := by rw [← ByteArray.toList_eq, hxl]; rfl
  rw [eT] at HT
  obtain ⟨T, hT⟩ : ∃ T : ByteArray, T = ⟨(Lib.trimLeftS l digs).toArray⟩ := ⟨_, rfl⟩
  have hTl : T.size = (Lib.trimLeftS l digs).length := by rw [hT]; rfl
  rw [← hT] at HT
  have hsz : R.size = (dgP l).length + T.size := by rw [← toList_len, hxl, hTl, ← List.length_append, ← hsp]
  have HDG : Hid (∀ c ∈ dgP l, 48 ≤ c.toNat ∧ c.toNat ≤ 57) := Lib.hid (fun c h => dg_digit h)
  have HAT : Hid (∀ k (h : k < (dgP l).length), ∃ hk : k < R.size, R[k] = (dgP l)[k]) := Lib.hid (fun k h => by
    refine ⟨by omega, ?_⟩
    have e1 : R[k]'(by omega) = R.toList[k]'(by rw [toList_len]; omega) := by simp only [ByteArray.toList_eq, Array.getElem_toList]; rfl
    rw [e1]
    have e2 : R.toList = dgP l ++ Lib.trimLeftS l digs := by rw [hxl]; exact hsp
    simp only [e2]
    exact List.getElem_append_left h)
  clear hT hTl eT hsp hxl
  generalize dgP l = d at HDG HAT hsz ⊢
  have hsub : (R.size : Int) - (T.size : Int) = (d.length : Int) := by omega
  have hd1 : d.length ≤ 1000000 := by omega
  clear hsz
  go_enter Tryd.func9, Tryd.ntmps9
  go_wp2_with fail
  refine HR.out.mono ?_
  rintro e w1 ⟨rfl, hk1⟩
  have HK1 := Lib.hid hk1
  have HB1 := Lib.hid (HB.out.keep hk1 id)
  clear hk1
  go_wp2_with fail
  refine (HT.out w1).mono ?_
  rintro e w2 ⟨rfl, hk2⟩
  have HK2 := Lib.hid (HK1.out.trans hk2 (fun _ _ h => h))
  have HB2 := Lib.hid (HB1.out.keep hk2 id)
  clear hk2
  go_wp2_with fail
  have hd2 : d.length ≤ 9223372036854775807 := by omega
  go_loopw [6, 17] (fun n i wr => ∃ k : Nat, k ≤ d.length ∧ i = .int .i64 (k : Int) ∧ n = .int .i64 ((valD (d.take k) : Nat) : Int) ∧ Hid (valD (d.take k) ≤ 1000000000 ∧ Keep Nb w wr ∧ LexAt wr p s a)) (fun _ i _ => d.length - (intOf i).toNat)
  case atStart => exact ⟨0, Nat.zero_le _, rfl, rfl, Lib.hid ⟨by simp [valD], HK2.out, HB2.out⟩⟩
  case round =>
    clear HK1 HB1 HK2 HB2
    obtain ⟨k, hk, rfl, rfl, HL⟩ := hrel
    rcases Nat.lt_or_ge k d.length with hlt | hge
    · obtain ⟨hkR, hRk⟩ := HAT.out k hlt
      have hdk := HDG.out _ (List.getElem_mem hlt)
      have HST := Lib.hid (valD_take hlt)
      have HLE := Lib.hid (valD_le d (k + 1))
      have hn := HL.out.1
      rw [← hRk] at hdk HST
      clear hRk
      have hkz : (k : Int) < (R.size : Int) := by omega
      have hk0 : (0 : Int) ≤ (k : Int) := by omega
      have c1 : (48 : Int) ≤ (R[k].toNat : Int) := by omega
      have c2 : (R[k].toNat : Int) ≤ 57 := by omega
      generalize hv : valD (d.take k) = n at hn HST
      have HV := Lib.hid hv
      clear hv hdk
      have HE : Hid (((valD (d.take (k + 1)) : Nat) : Int) = 10 * (n : Int) + ((R[k].toNat : Int) - 48)) := Lib.hid (by rw [HST.out]; omega)
      clear HST
      by_cases hbig : (1000000000 : Int) < 10 * (n : Int) + ((R[k].toNat : Int) - 48)
      · have m1 : decide ((1000000000 : Int) < 10 * (n : Int) + ((R[k].toNat : Int) - 48)) = true := decide_eq_true hbig
        have HBG : Hid (1000000000 < valD d) := Lib.hid (by have h1 := HE.out; have h2 := HLE.out; omega)
        clear hbig
        go_wp2_with fail
        go_ret2
        exact ⟨HL.out.2.1.ob, fun _ => ⟨rfl, HL.out.2.2⟩, fun h => absurd HBG.out (by omega)⟩
      · have m1 : decide ((1000000000 : Int) < 10 * (n : Int) + ((R[k].toNat : Int) - 48)) = false := decide_eq_false hbig
        have HSM : Hid (valD (d.take (k + 1)) ≤ 1000000000) := Lib.hid (by have h1 := HE.out; omega)
        clear hbig
        go_wp2_with fail
        go_roundw
        case rel => exact ⟨k + 1, by omega, by go_num, by rw [HE.out], Lib.hid ⟨HSM.out, HL.out.2⟩⟩
        case measure => simp [intOf]; omega
    · obtain rfl : k = d.length := by omega
      rw [List.take_length] at HL
      have HSM : Hid (valD d ≤ 1000000000) := Lib.hid HL.out.1
      have e0 : d.take d.length = d := List.take_length
      rw [e0]
      clear e0
      have HK3 := Lib.hid HL.out.2.1
      have HSK := Lib.hid (skip_any p s a d.length wr HL.out.2.2 (by omega) hd1)
      have hdec : decide (0 < d.length) = decide ((0 : Int) < (d.length : Int)) := by rw [decide_eq_decide]; omega
      have HDC := Lib.hid hdec
      clear HL hdec
      go_wp2_with fail
      refine HSK.out.mono ?_
      rintro e w3 ⟨rfl, hb3, hk3⟩
      have HB3 := Lib.hid hb3
      have HK4 := Lib.hid (HK3.out.ob.trans hk3 (fun _ _ h => h))
      clear hb3 hk3
      go_wp2_with fail
      go_ret2
      exact ⟨HK4.out, fun h => absurd HSM.out (by omega), fun _ => ⟨by rw [HDC.out]; rfl, HB3.out⟩⟩

end Go.Proofs.YtilnccjdbdcklaaDoor
