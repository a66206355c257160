/- How many bytes a set has, as the reference counts them, one by one. -/
import Derived.Test.YtfjipiibkmapkaaPop
namespace Go.Proofs.Ytfjipiibkmapkaa
set_option linter.unusedVariables false
set_option linter.unusedSimpArgs false
open Go.RowKit

set_option maxRecDepth 100000 in
set_option maxHeartbeats 1000000 in
theorem rlen_r (f : Nat → Int) (w : World) :
    Calls Try.prog 13 #[.agg (setRow f)] w fun e w' => e = .returned (.int .i64 (cntF f 256)) ∧ Keep Nb w w' := by
  have HH := Lib.hid (fun c hc wx => has_r f c hc wx)
  have hC : ∀ c, cntF f (c + 1) = cntF f c + if hasF f c then 1 else 0 := fun _ => rfl
  have HC := Lib.hid hC
  have HL := Lib.hid (fun c => cntF_le f c)
  have h0 : cntF f 0 = 0 := rfl
  have H0 := Lib.hid h0
  clear hC h0
  generalize hasF f = g at *
  generalize cntF f = cn at *
  simp only [setRow] at HH ⊢
  go_enter Try.func13, Try.ntmps13
  go_wp2_with fail
  go_loopw [3, 5] (fun o i wr => ∃ (j : Nat), j ≤ 256 ∧ i = .int .i64 j ∧ o = .int .i64 (cn j) ∧ Blk wr w.heap.size #[.int .u64 (f 0), .int .u64 (f 1), .int .u64 (f 2), .int .u64 (f 3)] 24 ∧ Keep Nb w wr) (fun _ i _ => 256 - (intOf i).toNat)
  case atStart => exact ⟨0, by omega, rfl, by rw [H0.out]; rfl, (Blk.new w _ _), (by repeat (first | assumption | exact Keep.refl _ _ | refine Keep.alloc ?_ _ | refine Keep.drew ?_ | refine Keep.setCell ?_ (Or.inl (by simp)) _ | refine Keep.setRow ?_ (Or.inl (by simp)) _))⟩
  case round =>
    obtain ⟨j, hj, rfl, rfl, hb, hk⟩ := hrel
    by_cases hlt : j < 256
    · have g1 : decide ((j : Int) < 256) = true := by simp; omega
      have g2 : decide (j < 256) = true := by simp; omega
      have x1 : IntKind.u8.wrap (j : Int) = j := by rw [IntKind.wrap_u8]; omega
      have x2 : IntKind.i64.wrap ((j : Int) + 1) = ((j + 1 : Nat) : Int) := by rw [IntKind.wrap_i64]; omega
      have x3 : wrap64 ((j : Int) + 1) = ((j + 1 : Nat) : Int) := by unfold wrap64; omega
      have c0 := hb.cell 0 (u := .int .u64 (f 0)) rfl
      have c1 := hb.cell 1 (u := .int .u64 (f 1)) rfl
      have c2 := hb.cell 2 (u := .int .u64 (f 2)) rfl
      have c3 := hb.cell 3 (u := .int .u64 (f 3)) rfl
      have lb := hb.lt
      have hle := HL.out j
      have hsu := HC.out j
      have HT := Lib.hid (HH.out j hlt)
      have X4 := Lib.hid (show wrap64 ((cn j : Int) + 1) = ((cn j + 1 : Nat) : Int) by unfold wrap64; omega)
      have hbD := Lib.hid hb
      have HS := Lib.hid hsu
      clear hb hsu hle
      have HJ := Lib.hid hlt
      clear hlt hj
      cases hg : g j with
      | true =>
        rw [hg] at HT HS
        generalize cn j = m at *
        have x4 := X4.out
        go_wp2_with fail
        refine (HT.out _).mono ?_
        rintro e w2 ⟨rfl, hk2⟩
        have hk3 := hk.trans hk2 (fun _ _ h => h)
        have hb3 := hbD.out.keep hk2 id
        have HB := Lib.hid hb3
        clear hb3
        go_wp2_with fail
        go_roundw
        case rel => exact ⟨j + 1, HJ.out, rfl, by rw [HS.out, X4.out]; simp, HB.out, hk3⟩
        case measure => have := HJ.out; simp [intOf]; omega
      | false =>
        rw [hg] at HT HS
        generalize cn j = m at *
        go_wp2_with fail
        refine (HT.out _).mono ?_
        rintro e w2 ⟨rfl, hk2⟩
        have hk3 := hk.trans hk2 (fun _ _ h => h)
        have hb3 := hbD.out.keep hk2 id
        have HB := Lib.hid hb3
        clear hb3
        go_wp2_with fail
        go_roundw
        case rel => exact ⟨j + 1, HJ.out, rfl, by rw [HS.out]; rfl, HB.out, hk3⟩
        case measure => have := HJ.out; simp [intOf]; omega
    · obtain rfl : j = 256 := by omega
      go_wp2_with fail
      go_ret
      exact ⟨rfl, hk⟩

end Go.Proofs.Ytfjipiibkmapkaa
