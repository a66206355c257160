/- How a byte is written. -/
import Derived.Test.YtfjipiibkmapkaaPrintF
import Derived.Test.YtfjipiibkmapkaaBuild
import Derived.Laws.IdiomStrings
namespace Go.Proofs.Ytfjipiibkmapkaa
set_option linter.unusedVariables false
set_option linter.unusedSimpArgs false
open Go.RowKit

/-- A string of these bytes is answered. -/
def SaysL (l : List UInt8) (e : Ending) : Prop := ∃ s : ByteArray, s.toList = l ∧ e = .returned (.string s)
theorem app_toList (x y : ByteArray) : (x ++ y).toList = x.toList ++ y.toList := by
  rw [ByteArray.toList_eq, ByteArray.toList_eq, ByteArray.toList_eq]; simp
theorem conv1 (w : World) (a : UInt8) : (convert 45 9 (.slice (some ⟨w.heap.size, 0, none⟩) 1 1)).run Try.prog (w.alloc (.cells #[.int .u8 a.toNat] 5)) = .ok (.string ⟨#[a]⟩) (w.alloc (.cells #[.int .u8 a.toNat] 5)) := by
  have h := run_convert_bytes_back (P := Try.prog) (w.alloc (.cells #[.int .u8 a.toNat] 5)) 45 9 5 ⟨w.heap.size, 0, none⟩ 1 [a] Try.underlying45 Try.underlying5 Try.underlying9 (fun j hj => by
    have hB := Blk.new w #[.int .u8 a.toNat] 5
    have : j = 0 := by simp at hj; omega
    rw [Addr.add_lit]
    subst this
    exact Blk.cell hB 0 rfl)
  exact h

set_option maxRecDepth 100000 in
set_option maxHeartbeats 1000000 in
theorem written_any (x : UInt8) (w : World) : Calls Try.prog 38 #[.int .u8 x.toNat] w fun e w' => SaysL (wr x) e ∧ Keep Nb w w' := by
  by_cases h10 : x = 10
  · subst h10
    go_enter Try.func38, Try.ntmps38
    go_wp2_with fail
    go_ret
    exact ⟨⟨_, by rw [ByteArray.toList_eq]; rfl, rfl⟩, Keep.refl _ _⟩
  have m10 : ((x.toNat : Int) == 10) = false := u8_ne (n := 10) (by omega) h10
  by_cases hs : x = 91 ∨ x = 93 ∨ x = 45 ∨ x = 94 ∨ x = 92
  · have hw : wr x = [91, 46, x, 46, 93] := by rw [wr, if_neg h10, if_pos hs]
    rw [hw]
    obtain ⟨u, hu⟩ : ∃ u, u = (⟨#[91, 46]⟩ ++ ⟨#[x]⟩ : ByteArray) := ⟨_, rfl⟩
    obtain ⟨v, hv⟩ : ∃ v, v = (u ++ ⟨#[46, 93]⟩ : ByteArray) := ⟨_, rfl⟩
    have zu : u.size = 3 := by rw [hu]; rfl
    have a1 := add_okk ⟨#[91, 46]⟩ ⟨#[x]⟩ (by show 2 + 1 ≤ 1000000; decide)
    have a2 := add_okk u ⟨#[46, 93]⟩ (by rw [zu]; show 3 + 2 ≤ 1000000; decide)
    rw [← hu] at a1
    rw [← hv] at a2
    have HV := Lib.hid (show v.toList = [91, 46, x, 46, 93] by rw [hv, hu, app_toList, app_toList, ByteArray.toList_eq, ByteArray.toList_eq, ByteArray.toList_eq]; rfl)
    have hcv := fun wx => conv1 wx x
    clear hw hu hv zu
    rcases hs with h | h | h | h | h
    · have hx : ((x.toNat : Int) == 91) = true := by rw [h]; rfl
      clear h h10
      go_enter Try.func38, Try.ntmps38
      go_wp2_with fail
      go_ret
      exact ⟨⟨_, HV.out, rfl⟩, (by repeat (first | assumption | exact Keep.refl _ _ | refine Keep.alloc ?_ _ | refine Keep.drew ?_ | refine Keep.setCell ?_ (Or.inl (by simp)) _ | refine Keep.setRow ?_ (Or.inl (by simp)) _))⟩
    · have hx : ((x.toNat : Int) == 93) = true := by rw [h]; rfl
      have hn0 : ((x.toNat : Int) == 91) = false := u8_ne (n := 91) (by omega) (by rw [h]; decide)
      clear h h10
      go_enter Try.func38, Try.ntmps38
      go_wp2_with fail
      go_ret
      exact ⟨⟨_, HV.out, rfl⟩, (by repeat (first | assumption | exact Keep.refl _ _ | refine Keep.alloc ?_ _ | refine Keep.drew ?_ | refine Keep.setCell ?_ (Or.inl (by simp)) _ | refine Keep.setRow ?_ (Or.inl (by simp)) _))⟩
    · have hx : ((x.toNat : Int) == 45) = true := by rw [h]; rfl
      have hn0 : ((x.toNat : Int) == 91) = false := u8_ne (n := 91) (by omega) (by rw [h]; decide)
      have hn1 : ((x.toNat : Int) == 93) = false := u8_ne (n := 93) (by omega) (by rw [h]; decide)
      clear h h10
      go_enter Try.func38, Try.ntmps38
      go_wp2_with fail
      go_ret
      exact ⟨⟨_, HV.out, rfl⟩, (by repeat (first | assumption | exact Keep.refl _ _ | refine Keep.alloc ?_ _ | refine Keep.drew ?_ | refine Keep.setCell ?_ (Or.inl (by simp)) _ | refine Keep.setRow ?_ (Or.inl (by simp)) _))⟩
    · have hx : ((x.toNat : Int) == 94) = true := by rw [h]; rfl
      have hn0 : ((x.toNat : Int) == 91) = false := u8_ne (n := 91) (by omega) (by rw [h]; decide)
      have hn1 : ((x.toNat : Int) == 93) = false := u8_ne (n := 93) (by omega) (by rw [h]; decide)
      have hn2 : ((x.toNat : Int) == 45) = false := u8_ne (n := 45) (by omega) (by rw [h]; decide)
      clear h h10
      go_enter Try.func38, Try.ntmps38
      go_wp2_with fail
      go_ret
      exact ⟨⟨_, HV.out, rfl⟩, (by repeat (first | assumption | exact Keep.refl _ _ | refine Keep.alloc ?_ _ | refine Keep.drew ?_ | refine Keep.setCell ?_ (Or.inl (by simp)) _ | refine Keep.setRow ?_ (Or.inl (by simp)) _))⟩
    · have hx : ((x.toNat : Int) == 92) = true := by rw [h]; rfl
      have hn0 : ((x.toNat : Int) == 91) = false := u8_ne (n := 91) (by omega) (by rw [h]; decide)
      have hn1 : ((x.toNat : Int) == 93) = false := u8_ne (n := 93) (by omega) (by rw [h]; decide)
      have hn2 : ((x.toNat : Int) == 45) = false := u8_ne (n := 45) (by omega) (by rw [h]; decide)
      have hn3 : ((x.toNat : Int) == 94) = false := u8_ne (n := 94) (by omega) (by rw [h]; decide)
      clear h h10
      go_enter Try.func38, Try.ntmps38
      go_wp2_with fail
      go_ret
      exact ⟨⟨_, HV.out, rfl⟩, (by repeat (first | assumption | exact Keep.refl _ _ | refine Keep.alloc ?_ _ | refine Keep.drew ?_ | refine Keep.setCell ?_ (Or.inl (by simp)) _ | refine Keep.setRow ?_ (Or.inl (by simp)) _))⟩
  · have hw : wr x = [x] := by rw [wr, if_neg h10, if_neg hs]
    rw [hw]
    simp only [not_or] at hs
    obtain ⟨h0, h1, h2, h3, h4⟩ := hs
    have hn0 : ((x.toNat : Int) == 91) = false := u8_ne (n := 91) (by omega) h0
    have hn1 : ((x.toNat : Int) == 93) = false := u8_ne (n := 93) (by omega) h1
    have hn2 : ((x.toNat : Int) == 45) = false := u8_ne (n := 45) (by omega) h2
    have hn3 : ((x.toNat : Int) == 94) = false := u8_ne (n := 94) (by omega) h3
    have hn4 : ((x.toNat : Int) == 92) = false := u8_ne (n := 92) (by omega) h4
    have hcv := fun wx => conv1 wx x
    clear hw h0 h1 h2 h3 h4 h10
    go_enter Try.func38, Try.ntmps38
    go_wp2_with fail
    go_ret
    exact ⟨⟨_, by rw [ByteArray.toList_eq], rfl⟩, (by repeat (first | assumption | exact Keep.refl _ _ | refine Keep.alloc ?_ _ | refine Keep.drew ?_ | refine Keep.setCell ?_ (Or.inl (by simp)) _ | refine Keep.setRow ?_ (Or.inl (by simp)) _))⟩

end Go.Proofs.Ytfjipiibkmapkaa
