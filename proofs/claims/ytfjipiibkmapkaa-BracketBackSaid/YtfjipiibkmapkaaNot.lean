/- Sets of bytes: Not. -/
import Derived.Test.YtfjipiibkmapkaaSet
namespace Go.Proofs.Ytfjipiibkmapkaa
set_option linter.unusedVariables false
set_option linter.unusedSimpArgs false
open Go.RowKit

def notF (f : Nat → Int) : Nat → Int := fun i => bits .xor .u64 IntKind.u64.max (f i)

set_option maxRecDepth 100000 in
theorem not_t (f : Nat → Int) (w : World) :
    Calls Try.prog 16 #[.agg (setRow f)] w fun e w' => e = .returned (.agg (setRow (notF f))) ∧ Keep Nb w w' := by
  have HN := Lib.hid (rfl : setRow (notF f) = setRow (notF f))
  generalize hv : setRow (notF f) = v at HN
  have HV := Lib.hid hv
  clear hv HN
  simp only [setRow]
  go_enter Try.func16, Try.ntmps16
  go_wp2_with fail
  refine bodyPost_ret (v := .agg (setRow (notF f))) (results_cell_row Try.results16 _ _ (w.heap.size + 1) 26 _ (0, 0) _ rfl (Blk.new' (by simp) (setRow (notF f)) 26) Try.underlying26 rfl sizeS1) rfl ⟨by rw [HV.out], (by repeat (first | assumption | exact Keep.refl _ _ | refine Keep.alloc ?_ _ | refine Keep.drew ?_ | refine Keep.setCell ?_ (Or.inl (by simp)) _ | refine Keep.setRow ?_ (Or.inl (by simp)) _))⟩

set_option maxRecDepth 100000 in
set_option maxHeartbeats 2000000 in
theorem not_r (f : Nat → Int) (w : World) :
    Calls Try.prog 17 #[.agg (setRow f)] w fun e w' => e = .returned (.agg (setRow (notF f))) ∧ Keep Nb w w' := by
  simp only [setRow]
  go_enter Try.func17, Try.ntmps17
  go_wp2_with fail
  go_loopw [4] (fun i wr => ∃ (j : Nat) (g : Nat → Int), j ≤ 4 ∧ i = .int .i64 j ∧ Hid (∀ k, g k = if k < j then bits .xor .u64 IntKind.u64.max (f k) else f k) ∧ Blk wr w.heap.size (setRow g) 24 ∧ Blk wr (w.heap.size + 1) (setRow fun _ => 0) 24 ∧ Keep Nb w wr) (fun i _ => 4 - (intOf i).toNat)
  case atStart => exact ⟨0, f, by omega, rfl, Lib.hid (fun k => by simp), (Blk.new w _ _).alloc _, Blk.new' (by simp) _ _, (by repeat (first | assumption | exact Keep.refl _ _ | refine Keep.alloc ?_ _ | refine Keep.drew ?_ | refine Keep.setCell ?_ (Or.inl (by simp)) _ | refine Keep.setRow ?_ (Or.inl (by simp)) _))⟩
  case round =>
    obtain ⟨j, g, hj, rfl, hg, hb, hr, hk⟩ := hrel
    have lb := hb.lt
    have lr := hr.lt
    by_cases hlt : j < 4
    · have c0 := hb.cell 0 (u := .int .u64 (g 0)) rfl
      have f0 := hb.frozen 0
      have c1 := hb.cell 1 (u := .int .u64 (g 1)) rfl
      have f1 := hb.frozen 1
      have c2 := hb.cell 2 (u := .int .u64 (g 2)) rfl
      have f2 := hb.frozen 2
      have c3 := hb.cell 3 (u := .int .u64 (g 3)) rfl
      have f3 := hb.frozen 3
      have : j = 0 ∨ j = 1 ∨ j = 2 ∨ j = 3 := by omega
      rcases this with rfl | rfl | rfl | rfl
      · have hst : (setRow g).setIfInBounds 0 (.int .u64 (bits .xor .u64 IntKind.u64.max (g 0))) = setRow (fun i => if i = 0 then bits .xor .u64 IntKind.u64.max (g i) else g i) := by simp [setRow]
        have hbD := hb
        have hrD := hr
        have hkD := hk
        go_wp2_with fail
        have hb2 := hbD.set 0 (.int .u64 (bits .xor .u64 IntKind.u64.max (g 0)))
        rw [hst] at hb2
        have hr2 := hrD.setOther (p := ⟨w.heap.size, 0, none⟩) (by simp; try omega) (.int .u64 (bits .xor .u64 IntKind.u64.max (g 0)))
        have hk2 : Keep Nb w (wr.setCell ⟨w.heap.size, 0, none⟩ (.int .u64 (bits .xor .u64 IntKind.u64.max (g 0)))) := Keep.setCell hkD (Or.inl (Nat.le_refl _)) _
        have HB := Lib.hid hb2
        have HR := Lib.hid hr2
        clear hst hb2 hr2 hbD hrD  hb hr 
        go_wp2_with fail
        go_roundw
        case rel =>
          refine ⟨1, _, by omega, rfl, Lib.hid (fun i => ?_), HB.out, HR.out, hk2⟩
          have := hg.out i
          simp only [this]
          split <;> split <;> first | rfl | omega | (split <;> first | rfl | omega)
        case measure => simp [intOf]
      · have hst : (setRow g).setIfInBounds 1 (.int .u64 (bits .xor .u64 IntKind.u64.max (g 1))) = setRow (fun i => if i = 1 then bits .xor .u64 IntKind.u64.max (g i) else g i) := by simp [setRow]
        have hbD := hb
        have hrD := hr
        have hkD := hk
        go_wp2_with fail
        have hb2 := hbD.set 1 (.int .u64 (bits .xor .u64 IntKind.u64.max (g 1)))
        rw [hst] at hb2
        have hr2 := hrD.setOther (p := ⟨w.heap.size, 1, none⟩) (by simp; try omega) (.int .u64 (bits .xor .u64 IntKind.u64.max (g 1)))
        have hk2 : Keep Nb w (wr.setCell ⟨w.heap.size, 1, none⟩ (.int .u64 (bits .xor .u64 IntKind.u64.max (g 1)))) := Keep.setCell hkD (Or.inl (Nat.le_refl _)) _
        have HB := Lib.hid hb2
        have HR := Lib.hid hr2
        clear hst hb2 hr2 hbD hrD  hb hr 
        go_wp2_with fail
        go_roundw
        case rel =>
          refine ⟨2, _, by omega, rfl, Lib.hid (fun i => ?_), HB.out, HR.out, hk2⟩
          have := hg.out i
          simp only [this]
          split <;> split <;> first | rfl | omega | (split <;> first | rfl | omega)
        case measure => simp [intOf]
      · have hst : (setRow g).setIfInBounds 2 (.int .u64 (bits .xor .u64 IntKind.u64.max (g 2))) = setRow (fun i => if i = 2 then bits .xor .u64 IntKind.u64.max (g i) else g i) := by simp [setRow]
        have hbD := hb
        have hrD := hr
        have hkD := hk
        go_wp2_with fail
        have hb2 := hbD.set 2 (.int .u64 (bits .xor .u64 IntKind.u64.max (g 2)))
        rw [hst] at hb2
        have hr2 := hrD.setOther (p := ⟨w.heap.size, 2, none⟩) (by simp; try omega) (.int .u64 (bits .xor .u64 IntKind.u64.max (g 2)))
        have hk2 : Keep Nb w (wr.setCell ⟨w.heap.size, 2, none⟩ (.int .u64 (bits .xor .u64 IntKind.u64.max (g 2)))) := Keep.setCell hkD (Or.inl (Nat.le_refl _)) _
        have HB := Lib.hid hb2
        have HR := Lib.hid hr2
        clear hst hb2 hr2 hbD hrD  hb hr 
        go_wp2_with fail
        go_roundw
        case rel =>
          refine ⟨3, _, by omega, rfl, Lib.hid (fun i => ?_), HB.out, HR.out, hk2⟩
          have := hg.out i
          simp only [this]
          split <;> split <;> first | rfl | omega | (split <;> first | rfl | omega)
        case measure => simp [intOf]
      · have hst : (setRow g).setIfInBounds 3 (.int .u64 (bits .xor .u64 IntKind.u64.max (g 3))) = setRow (fun i => if i = 3 then bits .xor .u64 IntKind.u64.max (g i) else g i) := by simp [setRow]
        have hbD := hb
        have hrD := hr
        have hkD := hk
        go_wp2_with fail
        have hb2 := hbD.set 3 (.int .u64 (bits .xor .u64 IntKind.u64.max (g 3)))
        rw [hst] at hb2
        have hr2 := hrD.setOther (p := ⟨w.heap.size, 3, none⟩) (by simp; try omega) (.int .u64 (bits .xor .u64 IntKind.u64.max (g 3)))
        have hk2 : Keep Nb w (wr.setCell ⟨w.heap.size, 3, none⟩ (.int .u64 (bits .xor .u64 IntKind.u64.max (g 3)))) := Keep.setCell hkD (Or.inl (Nat.le_refl _)) _
        have HB := Lib.hid hb2
        have HR := Lib.hid hr2
        clear hst hb2 hr2 hbD hrD  hb hr 
        go_wp2_with fail
        go_roundw
        case rel =>
          refine ⟨4, _, by omega, rfl, Lib.hid (fun i => ?_), HB.out, HR.out, hk2⟩
          have := hg.out i
          simp only [this]
          split <;> split <;> first | rfl | omega | (split <;> first | rfl | omega)
        case measure => simp [intOf]
    · obtain rfl : j = 4 := by omega
      have hgv : setRow g = setRow (notF f) := setRow_congr fun i hi => by rw [hg.out i, if_pos hi]; rfl
      have HG := Lib.hid hgv
      clear hgv
      have hb' := hb
      have hr' := hr
      clear hb hr
      go_wp2_with (first
        | (refine wpList_load_row rfl 24 (.tmp 1) rfl w.heap.size rfl 24 _ (0, 0) _ hb' Try.underlying24 rfl sizeS2 ?_)
        | (refine wpList_store_row rfl 24 (.tmp 2) (.tmp 14) rfl (w.heap.size + 1) _ rfl rfl 24 _ hr' sizeS2 rfl (by simp [setRow, Value.oneCell']) ?_))
      have hr2 : Blk (wr.setRow (w.heap.size + 1) (setRow g)) (w.heap.size + 1) (setRow g) 24 := hr'.setRow _
      refine bodyPost_ret (v := .agg (setRow g)) (results_cell_row Try.results17 _ _ (w.heap.size + 1) 24 _ (0, 0) _ rfl hr2 Try.underlying24 rfl sizeS2) rfl ⟨by rw [HG.out]; rfl, Keep.setRow hk (Or.inl (by omega)) _⟩

end Go.Proofs.Ytfjipiibkmapkaa
