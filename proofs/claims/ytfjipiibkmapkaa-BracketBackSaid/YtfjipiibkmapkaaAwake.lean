/- The brackets are no idle ones: awake. -/
import Derived.Test.YtfjipiibkmapkaaLen
namespace Go.Proofs.Ytfjipiibkmapkaa
set_option linter.unusedVariables false
set_option linter.unusedSimpArgs false
open Go.RowKit

theorem plain_of {c : UInt8} (h : c ≠ 91 ∧ c ≠ 93 ∧ c ≠ 94 ∧ c ≠ 45 ∧ c ≠ 92 ∧ c ≠ 10) : plainB c := h

def acF : Nat → Int := orF zeroF (withF zeroF (97 : UInt8).toNat (99 : UInt8).toNat)
theorem ac_len : lenN acF 4 = 3 := by decide +kernel
theorem ac_has : hasF acF 98 = true := by decide +kernel

set_option maxRecDepth 100000 in
set_option maxHeartbeats 1000000 in
theorem awake_any (w : World) : Calls Try.prog 9 #[] w fun e w' => e = .returned (.bool true) ∧ Keep Nb w w' := by
  have HP := Lib.hid (fun wx => parse_ok ⟨#[91, 97, 45, 99, 93]⟩ 97 99 (by rw [ByteArray.toList_eq]) (plain_of (by decide)) (plain_of (by decide)) (by decide) wx)
  have HL := Lib.hid (fun wx => len_t acF wx)
  have HA := Lib.hid (fun wx => has_t acF 98 (by decide) wx)
  have L3 := Lib.hid ac_len
  have A1 := Lib.hid ac_has
  rw [show orF zeroF (withF zeroF (97 : UInt8).toNat (99 : UInt8).toNat) = acF from rfl] at HP
  generalize acF = f at *
  simp only [setRow] at HP HL HA
  go_enter Try.func9, Try.ntmps9
  go_wp2_with fail
  refine (HP.out _).mono ?_
  rintro e w1 ⟨rfl, hk1⟩
  have hb : Blk (w1.alloc (.cells (setRow f) 26)) w1.heap.size (setRow f) 26 := Blk.new w1 _ _
  have hk2 : Keep Nb w (w1.alloc (.cells (setRow f) 26)) := Keep.alloc hk1 _
  have c0 := hb.cell 0 (u := .int .u64 (f 0)) rfl
  have c1 := hb.cell 1 (u := .int .u64 (f 1)) rfl
  have c2 := hb.cell 2 (u := .int .u64 (f 2)) rfl
  have c3 := hb.cell 3 (u := .int .u64 (f 3)) rfl
  simp only [setRow] at hb hk2 c0 c1 c2 c3
  go_wp2_with fail
  refine (HL.out _).mono ?_
  rintro e w3 ⟨he, hk3⟩
  rw [L3.out] at he
  subst he
  have hb3 := hb.keep hk3 id
  have d0 := hb3.cell 0 (u := .int .u64 (f 0)) rfl
  have d1 := hb3.cell 1 (u := .int .u64 (f 1)) rfl
  have d2 := hb3.cell 2 (u := .int .u64 (f 2)) rfl
  have d3 := hb3.cell 3 (u := .int .u64 (f 3)) rfl
  go_wp2_with fail
  refine (HA.out _).mono ?_
  rintro e w4 ⟨he, hk4⟩
  rw [A1.out] at he
  subst he
  go_wp2_with fail
  go_ret
  exact ⟨rfl, (hk2.trans hk3 (fun _ _ h => h)).trans hk4 (fun _ _ h => h)⟩

end Go.Proofs.Ytfjipiibkmapkaa
