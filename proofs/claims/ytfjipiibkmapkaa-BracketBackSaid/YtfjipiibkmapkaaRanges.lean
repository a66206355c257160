/- The names of classes, and their ranges. -/
import Derived.Test.YtfjipiibkmapkaaNot
namespace Go.Proofs.Ytfjipiibkmapkaa
set_option linter.unusedVariables false
set_option linter.unusedSimpArgs false
open Go.RowKit

theorem toList_len (s : ByteArray) : s.toList.length = s.size := by rw [ByteArray.toList_eq]; rfl
theorem byte_at {s : ByteArray} {a : Nat} {c : UInt8} (h : s.toList[a]? = some c) : ∃ ha : a < s.size, s[a] = c := by
  obtain ⟨h1, h2⟩ := List.getElem?_eq_some_iff.1 h
  refine ⟨by rwa [toList_len] at h1, ?_⟩
  rw [← h2]
  simp [ByteArray.toList_eq]
  rfl

/-- The ranges of a class's name; none: there is no such class. -/
def clsP (l : List UInt8) : List (UInt8 × UInt8) :=
  if l = [117, 112, 112, 101, 114] then [(65, 90)] else
  if l = [108, 111, 119, 101, 114] then [(97, 122)] else
  if l = [97, 108, 112, 104, 97] then [(65, 90), (97, 122)] else
  if l = [100, 105, 103, 105, 116] then [(48, 57)] else
  if l = [97, 108, 110, 117, 109] then [(65, 90), (97, 122), (48, 57)] else
  if l = [120, 100, 105, 103, 105, 116] then [(48, 57), (65, 70), (97, 102)] else
  if l = [98, 108, 97, 110, 107] then [(32, 32), (9, 9)] else
  if l = [115, 112, 97, 99, 101] then [(32, 32), (9, 13)] else
  if l = [99, 110, 116, 114, 108] then [(0, 31), (127, 127)] else
  if l = [112, 114, 105, 110, 116] then [(32, 126)] else
  if l = [103, 114, 97, 112, 104] then [(33, 126)] else
  if l = [112, 117, 110, 99, 116] then [(33, 47), (58, 64), (91, 96), (123, 126)] else
  []
def flatP (ps : List (UInt8 × UInt8)) : List UInt8 := ps.flatMap fun p => [p.1, p.2]
def foldC (f : Nat → Int) (ps : List (UInt8 × UInt8)) : Nat → Int := ps.foldl (fun f p => withF f p.1.toNat p.2.toNat) f
def zeroF : Nat → Int := fun _ => 0

set_option maxRecDepth 100000 in
set_option maxHeartbeats 2000000 in
theorem ranges_any (s : ByteArray) (w : World) :
    Calls Try.prog 25 #[.string s] w fun e w' => e = .returned (.string ⟨(flatP (clsP s.toList)).toArray⟩) ∧ Keep Nb w w' := by
  generalize hR : (⟨(flatP (clsP s.toList)).toArray⟩ : ByteArray) = R
  have HR := Lib.hid hR
  clear hR
  by_cases e0 : s.toList = [117, 112, 112, 101, 114]
  · have m0 : (s.toList == [117, 112, 112, 101, 114]) = true := by simpa using e0
    have E0 := Lib.hid e0
    clear e0
    go_enter Try.func25, Try.ntmps25
    go_wp2_with fail
    go_ret
    exact ⟨by rw [← HR.out, clsP,  if_pos E0.out]; rfl, Keep.refl _ _⟩
  have m0 : (s.toList == [117, 112, 112, 101, 114]) = false := by simpa using e0
  have E0 := Lib.hid e0
  clear e0
  by_cases e1 : s.toList = [108, 111, 119, 101, 114]
  · have m1 : (s.toList == [108, 111, 119, 101, 114]) = true := by simpa using e1
    have E1 := Lib.hid e1
    clear e1
    go_enter Try.func25, Try.ntmps25
    go_wp2_with fail
    go_ret
    exact ⟨by rw [← HR.out, clsP, if_neg E0.out, if_pos E1.out]; rfl, Keep.refl _ _⟩
  have m1 : (s.toList == [108, 111, 119, 101, 114]) = false := by simpa using e1
  have E1 := Lib.hid e1
  clear e1
  by_cases e2 : s.toList = [97, 108, 112, 104, 97]
  · have m2 : (s.toList == [97, 108, 112, 104, 97]) = true := by simpa using e2
    have E2 := Lib.hid e2
    clear e2
    go_enter Try.func25, Try.ntmps25
    go_wp2_with fail
    go_ret
    exact ⟨by rw [← HR.out, clsP, if_neg E0.out, if_neg E1.out, if_pos E2.out]; rfl, Keep.refl _ _⟩
  have m2 : (s.toList == [97, 108, 112, 104, 97]) = false := by simpa using e2
  have E2 := Lib.hid e2
  clear e2
  by_cases e3 : s.toList = [100, 105, 103, 105, 116]
  · have m3 : (s.toList == [100, 105, 103, 105, 116]) = true := by simpa using e3
    have E3 := Lib.hid e3
    clear e3
    go_enter Try.func25, Try.ntmps25
    go_wp2_with fail
    go_ret
    exact ⟨by rw [← HR.out, clsP, if_neg E0.out, if_neg E1.out, if_neg E2.out, if_pos E3.out]; rfl, Keep.refl _ _⟩
  have m3 : (s.toList == [100, 105, 103, 105, 116]) = false := by simpa using e3
  have E3 := Lib.hid e3
  clear e3
  by_cases e4 : s.toList = [97, 108, 110, 117, 109]
  · have m4 : (s.toList == [97, 108, 110, 117, 109]) = true := by simpa using e4
    have E4 := Lib.hid e4
    clear e4
    go_enter Try.func25, Try.ntmps25
    go_wp2_with fail
    go_ret
    exact ⟨by rw [← HR.out, clsP, if_neg E0.out, if_neg E1.out, if_neg E2.out, if_neg E3.out, if_pos E4.out]; rfl, Keep.refl _ _⟩
  have m4 : (s.toList == [97, 108, 110, 117, 109]) = false := by simpa using e4
  have E4 := Lib.hid e4
  clear e4
  by_cases e5 : s.toList = [120, 100, 105, 103, 105, 116]
  · have m5 : (s.toList == [120, 100, 105, 103, 105, 116]) = true := by simpa using e5
    have E5 := Lib.hid e5
    clear e5
    go_enter Try.func25, Try.ntmps25
    go_wp2_with fail
    go_ret
    exact ⟨by rw [← HR.out, clsP, if_neg E0.out, if_neg E1.out, if_neg E2.out, if_neg E3.out, if_neg E4.out, if_pos E5.out]; rfl, Keep.refl _ _⟩
  have m5 : (s.toList == [120, 100, 105, 103, 105, 116]) = false := by simpa using e5
  have E5 := Lib.hid e5
  clear e5
  by_cases e6 : s.toList = [98, 108, 97, 110, 107]
  · have m6 : (s.toList == [98, 108, 97, 110, 107]) = true := by simpa using e6
    have E6 := Lib.hid e6
    clear e6
    go_enter Try.func25, Try.ntmps25
    go_wp2_with fail
    go_ret
    exact ⟨by rw [← HR.out, clsP, if_neg E0.out, if_neg E1.out, if_neg E2.out, if_neg E3.out, if_neg E4.out, if_neg E5.out, if_pos E6.out]; rfl, Keep.refl _ _⟩
  have m6 : (s.toList == [98, 108, 97, 110, 107]) = false := by simpa using e6
  have E6 := Lib.hid e6
  clear e6
  by_cases e7 : s.toList = [115, 112, 97, 99, 101]
  · have m7 : (s.toList == [115, 112, 97, 99, 101]) = true := by simpa using e7
    have E7 := Lib.hid e7
    clear e7
    go_enter Try.func25, Try.ntmps25
    go_wp2_with fail
    go_ret
    exact ⟨by rw [← HR.out, clsP, if_neg E0.out, if_neg E1.out, if_neg E2.out, if_neg E3.out, if_neg E4.out, if_neg E5.out, if_neg E6.out, if_pos E7.out]; rfl, Keep.refl _ _⟩
  have m7 : (s.toList == [115, 112, 97, 99, 101]) = false := by simpa using e7
  have E7 := Lib.hid e7
  clear e7
  by_cases e8 : s.toList = [99, 110, 116, 114, 108]
  · have m8 : (s.toList == [99, 110, 116, 114, 108]) = true := by simpa using e8
    have E8 := Lib.hid e8
    clear e8
    go_enter Try.func25, Try.ntmps25
    go_wp2_with fail
    go_ret
    exact ⟨by rw [← HR.out, clsP, if_neg E0.out, if_neg E1.out, if_neg E2.out, if_neg E3.out, if_neg E4.out, if_neg E5.out, if_neg E6.out, if_neg E7.out, if_pos E8.out]; rfl, Keep.refl _ _⟩
  have m8 : (s.toList == [99, 110, 116, 114, 108]) = false := by simpa using e8
  have E8 := Lib.hid e8
  clear e8
  by_cases e9 : s.toList = [112, 114, 105, 110, 116]
  · have m9 : (s.toList == [112, 114, 105, 110, 116]) = true := by simpa using e9
    have E9 := Lib.hid e9
    clear e9
    go_enter Try.func25, Try.ntmps25
    go_wp2_with fail
    go_ret
    exact ⟨by rw [← HR.out, clsP, if_neg E0.out, if_neg E1.out, if_neg E2.out, if_neg E3.out, if_neg E4.out, if_neg E5.out, if_neg E6.out, if_neg E7.out, if_neg E8.out, if_pos E9.out]; rfl, Keep.refl _ _⟩
  have m9 : (s.toList == [112, 114, 105, 110, 116]) = false := by simpa using e9
  have E9 := Lib.hid e9
  clear e9
  by_cases e10 : s.toList = [103, 114, 97, 112, 104]
  · have m10 : (s.toList == [103, 114, 97, 112, 104]) = true := by simpa using e10
    have E10 := Lib.hid e10
    clear e10
    go_enter Try.func25, Try.ntmps25
    go_wp2_with fail
    go_ret
    exact ⟨by rw [← HR.out, clsP, if_neg E0.out, if_neg E1.out, if_neg E2.out, if_neg E3.out, if_neg E4.out, if_neg E5.out, if_neg E6.out, if_neg E7.out, if_neg E8.out, if_neg E9.out, if_pos E10.out]; rfl, Keep.refl _ _⟩
  have m10 : (s.toList == [103, 114, 97, 112, 104]) = false := by simpa using e10
  have E10 := Lib.hid e10
  clear e10
  by_cases e11 : s.toList = [112, 117, 110, 99, 116]
  · have m11 : (s.toList == [112, 117, 110, 99, 116]) = true := by simpa using e11
    have E11 := Lib.hid e11
    clear e11
    go_enter Try.func25, Try.ntmps25
    go_wp2_with fail
    go_ret
    exact ⟨by rw [← HR.out, clsP, if_neg E0.out, if_neg E1.out, if_neg E2.out, if_neg E3.out, if_neg E4.out, if_neg E5.out, if_neg E6.out, if_neg E7.out, if_neg E8.out, if_neg E9.out, if_neg E10.out, if_pos E11.out]; rfl, Keep.refl _ _⟩
  have m11 : (s.toList == [112, 117, 110, 99, 116]) = false := by simpa using e11
  have E11 := Lib.hid e11
  clear e11
  go_enter Try.func25, Try.ntmps25
  go_wp2_with fail
  go_ret
  exact ⟨by rw [← HR.out, clsP, if_neg E0.out, if_neg E1.out, if_neg E2.out, if_neg E3.out, if_neg E4.out, if_neg E5.out, if_neg E6.out, if_neg E7.out, if_neg E8.out, if_neg E9.out, if_neg E10.out, if_neg E11.out]; rfl, Keep.refl _ _⟩

end Go.Proofs.Ytfjipiibkmapkaa
