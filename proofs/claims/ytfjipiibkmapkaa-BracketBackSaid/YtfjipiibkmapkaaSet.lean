/- Sets of bytes, of the program and of the reference: With, Has, Not, and, Or. -/
import Derived.Test.YtfjipiibkmapkaaHeld
namespace Go.Proofs.Ytfjipiibkmapkaa
set_option linter.unusedVariables false
set_option linter.unusedSimpArgs false
open Go.RowKit

def setRow (f : Nat → Int) : Array Value := #[.int .u64 (f 0), .int .u64 (f 1), .int .u64 (f 2), .int .u64 (f 3)]
def hasF (f : Nat → Int) (c : Nat) : Bool := bits .and .u64 (f (c / 64) / 2 ^ (c % 64)) 1 == 1
def setBit (f : Nat → Int) (c : Nat) : Nat → Int := fun i => if i = c / 64 then bits .or .u64 (f i) (IntKind.u64.wrap (2 ^ (c % 64))) else f i
def withN (f : Nat → Int) : Nat → Nat → Nat → Int
  | _, 0 => f
  | a, n + 1 => withN (setBit f a) (a + 1) n
def withF (f : Nat → Int) (a b : Nat) : Nat → Int := withN f a (b + 1 - a)
def orF (f g : Nat → Int) : Nat → Int := fun i => bits .or .u64 (f i) (g i)

theorem q4 {c : Nat} (h : c < 256) : c / 64 = 0 ∨ c / 64 = 1 ∨ c / 64 = 2 ∨ c / 64 = 3 := by omega
theorem setRow_congr {f g : Nat → Int} (h : ∀ i, i < 4 → f i = g i) : setRow f = setRow g := by
  unfold setRow; rw [h 0 (by omega), h 1 (by omega), h 2 (by omega), h 3 (by omega)]

theorem setBit_row (f : Nat → Int) (c q : Nat) (hq : c / 64 = q) (h4 : q < 4) : (setRow f).setIfInBounds q (.int .u64 (bits .or .u64 (f q) (IntKind.u64.wrap (2 ^ (c % 64))))) = setRow (setBit f c) := by
  have : q = 0 ∨ q = 1 ∨ q = 2 ∨ q = 3 := by omega
  rcases this with rfl | rfl | rfl | rfl <;> simp [setRow, setBit, hq]

theorem size4 (T : TypeId) : True := trivial
theorem sizeS1 : (Try.prog.info? 26).map (·.size) = some 4 := by kernel_rfl
theorem sizeS2 : (Try.prog.info? 24).map (·.size) = some 4 := by kernel_rfl

set_option maxRecDepth 100000 in
set_option maxHeartbeats 1000000 in
theorem has_t (f : Nat → Int) (c : Nat) (hc : c < 256) (w : World) :
    Calls Try.prog 10 #[.agg (setRow f), .int .u8 c] w fun e w' => e = .returned (.bool (hasF f c)) ∧ Keep Nb w w' := by
  generalize hR : hasF f c = R
  have HR := Lib.hid hR
  clear hR
  simp only [setRow]
  rcases q4 hc with hq | hq | hq | hq
  · go_enter Try.func10, Try.ntmps10
    go_wp2_with fail
    go_ret
    exact ⟨by rw [← HR.out]; simp only [hasF, hq]; rfl, (by repeat (first | assumption | exact Keep.refl _ _ | refine Keep.alloc ?_ _ | refine Keep.drew ?_ | refine Keep.setCell ?_ (Or.inl (by simp)) _ | refine Keep.setRow ?_ (Or.inl (by simp)) _))⟩
  · go_enter Try.func10, Try.ntmps10
    go_wp2_with fail
    go_ret
    exact ⟨by rw [← HR.out]; simp only [hasF, hq]; rfl, (by repeat (first | assumption | exact Keep.refl _ _ | refine Keep.alloc ?_ _ | refine Keep.drew ?_ | refine Keep.setCell ?_ (Or.inl (by simp)) _ | refine Keep.setRow ?_ (Or.inl (by simp)) _))⟩
  · go_enter Try.func10, Try.ntmps10
    go_wp2_with fail
    go_ret
    exact ⟨by rw [← HR.out]; simp only [hasF, hq]; rfl, (by repeat (first | assumption | exact Keep.refl _ _ | refine Keep.alloc ?_ _ | refine Keep.drew ?_ | refine Keep.setCell ?_ (Or.inl (by simp)) _ | refine Keep.setRow ?_ (Or.inl (by simp)) _))⟩
  · go_enter Try.func10, Try.ntmps10
    go_wp2_with fail
    go_ret
    exact ⟨by rw [← HR.out]; simp only [hasF, hq]; rfl, (by repeat (first | assumption | exact Keep.refl _ _ | refine Keep.alloc ?_ _ | refine Keep.drew ?_ | refine Keep.setCell ?_ (Or.inl (by simp)) _ | refine Keep.setRow ?_ (Or.inl (by simp)) _))⟩

set_option maxRecDepth 100000 in
set_option maxHeartbeats 1000000 in
theorem has_r (f : Nat → Int) (c : Nat) (hc : c < 256) (w : World) :
    Calls Try.prog 11 #[.agg (setRow f), .int .u8 c] w fun e w' => e = .returned (.bool (hasF f c)) ∧ Keep Nb w w' := by
  generalize hR : hasF f c = R
  have HR := Lib.hid hR
  clear hR
  simp only [setRow]
  rcases q4 hc with hq | hq | hq | hq
  · go_enter Try.func11, Try.ntmps11
    go_wp2_with fail
    go_ret
    exact ⟨by rw [← HR.out]; simp only [hasF, hq]; rfl, (by repeat (first | assumption | exact Keep.refl _ _ | refine Keep.alloc ?_ _ | refine Keep.drew ?_ | refine Keep.setCell ?_ (Or.inl (by simp)) _ | refine Keep.setRow ?_ (Or.inl (by simp)) _))⟩
  · go_enter Try.func11, Try.ntmps11
    go_wp2_with fail
    go_ret
    exact ⟨by rw [← HR.out]; simp only [hasF, hq]; rfl, (by repeat (first | assumption | exact Keep.refl _ _ | refine Keep.alloc ?_ _ | refine Keep.drew ?_ | refine Keep.setCell ?_ (Or.inl (by simp)) _ | refine Keep.setRow ?_ (Or.inl (by simp)) _))⟩
  · go_enter Try.func11, Try.ntmps11
    go_wp2_with fail
    go_ret
    exact ⟨by rw [← HR.out]; simp only [hasF, hq]; rfl, (by repeat (first | assumption | exact Keep.refl _ _ | refine Keep.alloc ?_ _ | refine Keep.drew ?_ | refine Keep.setCell ?_ (Or.inl (by simp)) _ | refine Keep.setRow ?_ (Or.inl (by simp)) _))⟩
  · go_enter Try.func11, Try.ntmps11
    go_wp2_with fail
    go_ret
    exact ⟨by rw [← HR.out]; simp only [hasF, hq]; rfl, (by repeat (first | assumption | exact Keep.refl _ _ | refine Keep.alloc ?_ _ | refine Keep.drew ?_ | refine Keep.setCell ?_ (Or.inl (by simp)) _ | refine Keep.setRow ?_ (Or.inl (by simp)) _))⟩

set_option maxRecDepth 100000 in
set_option maxHeartbeats 2000000 in
theorem with_t (f : Nat → Int) (a b : Nat) (ha : a < 256) (hb256 : b < 256) (w : World) :
    Calls Try.prog 14 #[.agg (setRow f), .int .u8 a, .int .u8 b] w fun e w' => e = .returned (.agg (setRow (withF f a b))) ∧ Keep Nb w w' := by
  simp only [setRow]
  go_enter Try.func14, Try.ntmps14
  go_wp2_with fail
  go_loopw [7] (fun i wr => ∃ (c : Nat) (g : Nat → Int), (c ≤ b + 1 ∨ c = a) ∧ i = .int .i64 c ∧ Hid (withF f a b = withN g c (b + 1 - c)) ∧ Blk wr w.heap.size (setRow g) 26 ∧ Blk wr (w.heap.size + 1) (setRow fun _ => 0) 26 ∧ Keep Nb w wr) (fun i _ => 256 - (intOf i).toNat)
  case atStart => exact ⟨a, f, .inr rfl, rfl, Lib.hid rfl, (Blk.new w _ _).alloc _, Blk.new' (by simp) _ _, (by repeat (first | assumption | exact Keep.refl _ _ | refine Keep.alloc ?_ _ | refine Keep.drew ?_ | refine Keep.setCell ?_ (Or.inl (by simp)) _ | refine Keep.setRow ?_ (Or.inl (by simp)) _))⟩
  case round =>
    obtain ⟨c, g, hcb, rfl, hg, hb, hr, hk⟩ := hrel
    by_cases hle : c ≤ b
    · have m1 : decide ((c : Int) ≤ (b : Int)) = true := by simp; omega
      have m2 : decide (c ≤ b) = true := by simpa using hle
      have hc0 : (0 : Int) ≤ (c : Int) := by omega
      have hc1 : (c : Int) < 256 := by omega
      have c0 := hb.cell 0 (u := .int .u64 (g 0)) rfl
      have f0 := hb.frozen 0
      have c1 := hb.cell 1 (u := .int .u64 (g 1)) rfl
      have f1 := hb.frozen 1
      have c2 := hb.cell 2 (u := .int .u64 (g 2)) rfl
      have f2 := hb.frozen 2
      have c3 := hb.cell 3 (u := .int .u64 (g 3)) rfl
      have f3 := hb.frozen 3
      rcases q4 (show c < 256 by omega) with hq | hq | hq | hq
      · have hst := setBit_row g c 0 hq (by omega)
        have hb2 := hb.set 0 (.int .u64 (bits .or .u64 (g 0) (IntKind.u64.wrap (2 ^ (c % 64)))))
        rw [hst] at hb2
        have hr2 := hr.setOther (p := ⟨w.heap.size, 0, none⟩) (by simp; try omega) (.int .u64 (bits .or .u64 (g 0) (IntKind.u64.wrap (2 ^ (c % 64)))))
        have hk2 : Keep Nb w (wr.setCell ⟨w.heap.size, 0, none⟩ (.int .u64 (bits .or .u64 (g 0) (IntKind.u64.wrap (2 ^ (c % 64)))))) := Keep.setCell hk (Or.inl (Nat.le_refl _)) _
        have HB := Lib.hid hb2
        have HR := Lib.hid hr2
        clear hst hb2 hr2
        go_wp2_with fail
        go_roundw
        case rel =>
          refine ⟨c + 1, setBit g c, by omega, by go_num, Lib.hid ?_, HB.out, HR.out, hk2⟩
          rw [hg.out, show b + 1 - c = (b + 1 - (c + 1)) + 1 by omega]; rfl
        case measure => simp [intOf]; omega
      · have hst := setBit_row g c 1 hq (by omega)
        have hb2 := hb.set 1 (.int .u64 (bits .or .u64 (g 1) (IntKind.u64.wrap (2 ^ (c % 64)))))
        rw [hst] at hb2
        have hr2 := hr.setOther (p := ⟨w.heap.size, 1, none⟩) (by simp; try omega) (.int .u64 (bits .or .u64 (g 1) (IntKind.u64.wrap (2 ^ (c % 64)))))
        have hk2 : Keep Nb w (wr.setCell ⟨w.heap.size, 1, none⟩ (.int .u64 (bits .or .u64 (g 1) (IntKind.u64.wrap (2 ^ (c % 64)))))) := Keep.setCell hk (Or.inl (Nat.le_refl _)) _
        have HB := Lib.hid hb2
        have HR := Lib.hid hr2
        clear hst hb2 hr2
        go_wp2_with fail
        go_roundw
        case rel =>
          refine ⟨c + 1, setBit g c, by omega, by go_num, Lib.hid ?_, HB.out, HR.out, hk2⟩
          rw [hg.out, show b + 1 - c = (b + 1 - (c + 1)) + 1 by omega]; rfl
        case measure => simp [intOf]; omega
      · have hst := setBit_row g c 2 hq (by omega)
        have hb2 := hb.set 2 (.int .u64 (bits .or .u64 (g 2) (IntKind.u64.wrap (2 ^ (c % 64)))))
        rw [hst] at hb2
        have hr2 := hr.setOther (p := ⟨w.heap.size, 2, none⟩) (by simp; try omega) (.int .u64 (bits .or .u64 (g 2) (IntKind.u64.wrap (2 ^ (c % 64)))))
        have hk2 : Keep Nb w (wr.setCell ⟨w.heap.size, 2, none⟩ (.int .u64 (bits .or .u64 (g 2) (IntKind.u64.wrap (2 ^ (c % 64)))))) := Keep.setCell hk (Or.inl (Nat.le_refl _)) _
        have HB := Lib.hid hb2
        have HR := Lib.hid hr2
        clear hst hb2 hr2
        go_wp2_with fail
        go_roundw
        case rel =>
          refine ⟨c + 1, setBit g c, by omega, by go_num, Lib.hid ?_, HB.out, HR.out, hk2⟩
          rw [hg.out, show b + 1 - c = (b + 1 - (c + 1)) + 1 by omega]; rfl
        case measure => simp [intOf]; omega
      · have hst := setBit_row g c 3 hq (by omega)
        have hb2 := hb.set 3 (.int .u64 (bits .or .u64 (g 3) (IntKind.u64.wrap (2 ^ (c % 64)))))
        rw [hst] at hb2
        have hr2 := hr.setOther (p := ⟨w.heap.size, 3, none⟩) (by simp; try omega) (.int .u64 (bits .or .u64 (g 3) (IntKind.u64.wrap (2 ^ (c % 64)))))
        have hk2 : Keep Nb w (wr.setCell ⟨w.heap.size, 3, none⟩ (.int .u64 (bits .or .u64 (g 3) (IntKind.u64.wrap (2 ^ (c % 64)))))) := Keep.setCell hk (Or.inl (Nat.le_refl _)) _
        have HB := Lib.hid hb2
        have HR := Lib.hid hr2
        clear hst hb2 hr2
        go_wp2_with fail
        go_roundw
        case rel =>
          refine ⟨c + 1, setBit g c, by omega, by go_num, Lib.hid ?_, HB.out, HR.out, hk2⟩
          rw [hg.out, show b + 1 - c = (b + 1 - (c + 1)) + 1 by omega]; rfl
        case measure => simp [intOf]; omega
    · have m1 : decide ((c : Int) ≤ (b : Int)) = false := by simp; omega
      have m2 : decide (c ≤ b) = false := by simpa using hle
      have hgc : withF f a b = g := by rw [hg.out, show b + 1 - c = 0 by omega]; rfl
      have HGC := Lib.hid hgc
      clear hgc
      have hb' := hb
      have hr' := hr
      clear hb hr
      go_wp2_with (first
        | (refine wpList_load_row rfl 26 (.tmp 3) rfl w.heap.size rfl 26 _ (0, 0) _ hb' Try.underlying26 rfl sizeS1 ?_)
        | (refine wpList_store_row rfl 26 (.tmp 6) (.tmp 26) rfl (w.heap.size + 1) _ rfl rfl 26 _ hr' sizeS1 rfl (by simp [setRow, Value.oneCell']) ?_))
      have hr2 : Blk (wr.setRow (w.heap.size + 1) (setRow g)) (w.heap.size + 1) (setRow g) 26 := hr'.setRow _
      refine bodyPost_ret (v := .agg (setRow g)) (results_cell_row Try.results14 _ _ (w.heap.size + 1) 26 _ (0, 0) _ rfl hr2 Try.underlying26 rfl sizeS1) rfl ⟨by rw [HGC.out]; rfl, Keep.setRow hk (Or.inl (by omega)) _⟩

set_option maxRecDepth 100000 in
set_option maxHeartbeats 2000000 in
theorem with_r (f : Nat → Int) (a b : Nat) (ha : a < 256) (hb256 : b < 256) (w : World) :
    Calls Try.prog 15 #[.agg (setRow f), .int .u8 a, .int .u8 b] w fun e w' => e = .returned (.agg (setRow (withF f a b))) ∧ Keep Nb w w' := by
  simp only [setRow]
  go_enter Try.func15, Try.ntmps15
  go_wp2_with fail
  go_loopw [7] (fun i wr => ∃ (c : Nat) (g : Nat → Int), (c ≤ b + 1 ∨ c = a) ∧ i = .int .i64 c ∧ Hid (withF f a b = withN g c (b + 1 - c)) ∧ Blk wr w.heap.size (setRow g) 24 ∧ Blk wr (w.heap.size + 1) (setRow fun _ => 0) 24 ∧ Keep Nb w wr) (fun i _ => 256 - (intOf i).toNat)
  case atStart => exact ⟨a, f, .inr rfl, rfl, Lib.hid rfl, (Blk.new w _ _).alloc _, Blk.new' (by simp) _ _, (by repeat (first | assumption | exact Keep.refl _ _ | refine Keep.alloc ?_ _ | refine Keep.drew ?_ | refine Keep.setCell ?_ (Or.inl (by simp)) _ | refine Keep.setRow ?_ (Or.inl (by simp)) _))⟩
  case round =>
    obtain ⟨c, g, hcb, rfl, hg, hb, hr, hk⟩ := hrel
    by_cases hle : c ≤ b
    · have m1 : decide ((c : Int) ≤ (b : Int)) = true := by simp; omega
      have m2 : decide (c ≤ b) = true := by simpa using hle
      have hc0 : (0 : Int) ≤ (c : Int) := by omega
      have hc1 : (c : Int) < 256 := by omega
      have c0 := hb.cell 0 (u := .int .u64 (g 0)) rfl
      have f0 := hb.frozen 0
      have c1 := hb.cell 1 (u := .int .u64 (g 1)) rfl
      have f1 := hb.frozen 1
      have c2 := hb.cell 2 (u := .int .u64 (g 2)) rfl
      have f2 := hb.frozen 2
      have c3 := hb.cell 3 (u := .int .u64 (g 3)) rfl
      have f3 := hb.frozen 3
      rcases q4 (show c < 256 by omega) with hq | hq | hq | hq
      · have hst := setBit_row g c 0 hq (by omega)
        have hb2 := hb.set 0 (.int .u64 (bits .or .u64 (g 0) (IntKind.u64.wrap (2 ^ (c % 64)))))
        rw [hst] at hb2
        have hr2 := hr.setOther (p := ⟨w.heap.size, 0, none⟩) (by simp; try omega) (.int .u64 (bits .or .u64 (g 0) (IntKind.u64.wrap (2 ^ (c % 64)))))
        have hk2 : Keep Nb w (wr.setCell ⟨w.heap.size, 0, none⟩ (.int .u64 (bits .or .u64 (g 0) (IntKind.u64.wrap (2 ^ (c % 64)))))) := Keep.setCell hk (Or.inl (Nat.le_refl _)) _
        have HB := Lib.hid hb2
        have HR := Lib.hid hr2
        clear hst hb2 hr2
        go_wp2_with fail
        go_roundw
        case rel =>
          refine ⟨c + 1, setBit g c, by omega, by go_num, Lib.hid ?_, HB.out, HR.out, hk2⟩
          rw [hg.out, show b + 1 - c = (b + 1 - (c + 1)) + 1 by omega]; rfl
        case measure => simp [intOf]; omega
      · have hst := setBit_row g c 1 hq (by omega)
        have hb2 := hb.set 1 (.int .u64 (bits .or .u64 (g 1) (IntKind.u64.wrap (2 ^ (c % 64)))))
        rw [hst] at hb2
        have hr2 := hr.setOther (p := ⟨w.heap.size, 1, none⟩) (by simp; try omega) (.int .u64 (bits .or .u64 (g 1) (IntKind.u64.wrap (2 ^ (c % 64)))))
        have hk2 : Keep Nb w (wr.setCell ⟨w.heap.size, 1, none⟩ (.int .u64 (bits .or .u64 (g 1) (IntKind.u64.wrap (2 ^ (c % 64)))))) := Keep.setCell hk (Or.inl (Nat.le_refl _)) _
        have HB := Lib.hid hb2
        have HR := Lib.hid hr2
        clear hst hb2 hr2
        go_wp2_with fail
        go_roundw
        case rel =>
          refine ⟨c + 1, setBit g c, by omega, by go_num, Lib.hid ?_, HB.out, HR.out, hk2⟩
          rw [hg.out, show b + 1 - c = (b + 1 - (c + 1)) + 1 by omega]; rfl
        case measure => simp [intOf]; omega
      · have hst := setBit_row g c 2 hq (by omega)
        have hb2 := hb.set 2 (.int .u64 (bits .or .u64 (g 2) (IntKind.u64.wrap (2 ^ (c % 64)))))
        rw [hst] at hb2
        have hr2 := hr.setOther (p := ⟨w.heap.size, 2, none⟩) (by simp; try omega) (.int .u64 (bits .or .u64 (g 2) (IntKind.u64.wrap (2 ^ (c % 64)))))
        have hk2 : Keep Nb w (wr.setCell ⟨w.heap.size, 2, none⟩ (.int .u64 (bits .or .u64 (g 2) (IntKind.u64.wrap (2 ^ (c % 64)))))) := Keep.setCell hk (Or.inl (Nat.le_refl _)) _
        have HB := Lib.hid hb2
        have HR := Lib.hid hr2
        clear hst hb2 hr2
        go_wp2_with fail
        go_roundw
        case rel =>
          refine ⟨c + 1, setBit g c, by omega, by go_num, Lib.hid ?_, HB.out, HR.out, hk2⟩
          rw [hg.out, show b + 1 - c = (b + 1 - (c + 1)) + 1 by omega]; rfl
        case measure => simp [intOf]; omega
      · have hst := setBit_row g c 3 hq (by omega)
        have hb2 := hb.set 3 (.int .u64 (bits .or .u64 (g 3) (IntKind.u64.wrap (2 ^ (c % 64)))))
        rw [hst] at hb2
        have hr2 := hr.setOther (p := ⟨w.heap.size, 3, none⟩) (by simp; try omega) (.int .u64 (bits .or .u64 (g 3) (IntKind.u64.wrap (2 ^ (c % 64)))))
        have hk2 : Keep Nb w (wr.setCell ⟨w.heap.size, 3, none⟩ (.int .u64 (bits .or .u64 (g 3) (IntKind.u64.wrap (2 ^ (c % 64)))))) := Keep.setCell hk (Or.inl (Nat.le_refl _)) _
        have HB := Lib.hid hb2
        have HR := Lib.hid hr2
        clear hst hb2 hr2
        go_wp2_with fail
        go_roundw
        case rel =>
          refine ⟨c + 1, setBit g c, by omega, by go_num, Lib.hid ?_, HB.out, HR.out, hk2⟩
          rw [hg.out, show b + 1 - c = (b + 1 - (c + 1)) + 1 by omega]; rfl
        case measure => simp [intOf]; omega
    · have m1 : decide ((c : Int) ≤ (b : Int)) = false := by simp; omega
      have m2 : decide (c ≤ b) = false := by simpa using hle
      have hgc : withF f a b = g := by rw [hg.out, show b + 1 - c = 0 by omega]; rfl
      have HGC := Lib.hid hgc
      clear hgc
      have hb' := hb
      have hr' := hr
      clear hb hr
      go_wp2_with (first
        | (refine wpList_load_row rfl 24 (.tmp 3) rfl w.heap.size rfl 24 _ (0, 0) _ hb' Try.underlying24 rfl sizeS2 ?_)
        | (refine wpList_store_row rfl 24 (.tmp 6) (.tmp 28) rfl (w.heap.size + 1) _ rfl rfl 24 _ hr' sizeS2 rfl (by simp [setRow, Value.oneCell']) ?_))
      have hr2 : Blk (wr.setRow (w.heap.size + 1) (setRow g)) (w.heap.size + 1) (setRow g) 24 := hr'.setRow _
      refine bodyPost_ret (v := .agg (setRow g)) (results_cell_row Try.results15 _ _ (w.heap.size + 1) 24 _ (0, 0) _ rfl hr2 Try.underlying24 rfl sizeS2) rfl ⟨by rw [HGC.out]; rfl, Keep.setRow hk (Or.inl (by omega)) _⟩

set_option maxRecDepth 100000 in
set_option maxHeartbeats 2000000 in
theorem or_t (f h : Nat → Int) (w : World) :
    Calls Try.prog 28 #[.agg (setRow f), .agg (setRow h)] w fun e w' => e = .returned (.agg (setRow (orF f h))) ∧ Keep Nb w w' := by
  simp only [setRow]
  go_enter Try.func28, Try.ntmps28
  go_wp2_with fail
  go_loopw [6] (fun i wr => ∃ (j : Nat) (g : Nat → Int), j ≤ 4 ∧ i = .int .i64 j ∧ Hid (∀ k, g k = if k < j then bits .or .u64 (f k) (h k) else f k) ∧ Blk wr w.heap.size (setRow g) 26 ∧ Blk wr (w.heap.size + 1) (setRow h) 26 ∧ Blk wr (w.heap.size + 1 + 1) (setRow fun _ => 0) 26 ∧ Keep Nb w wr) (fun i _ => 4 - (intOf i).toNat)
  case atStart => exact ⟨0, f, by omega, rfl, Lib.hid (fun k => by simp), ((Blk.new w _ _).alloc _).alloc _, (Blk.new' (by simp) _ _).alloc _, Blk.new' (by simp) _ _, (by repeat (first | assumption | exact Keep.refl _ _ | refine Keep.alloc ?_ _ | refine Keep.drew ?_ | refine Keep.setCell ?_ (Or.inl (by simp)) _ | refine Keep.setRow ?_ (Or.inl (by simp)) _))⟩
  case round =>
    obtain ⟨j, g, hj, rfl, hg, hb, hh, hr, hk⟩ := hrel
    have lb := hb.lt
    have lr := hr.lt
    by_cases hlt : j < 4
    · have c0 := hb.cell 0 (u := .int .u64 (g 0)) rfl
      have f0 := hb.frozen 0
      have c1 := hb.cell 1 (u := .int .u64 (g 1)) rfl
      have f1 := hb.frozen 1
      have c2 := hb.cell 2 (u := .int .u64 (g 2)) rfl
      have f2 := hb.frozen 2
      have c3 := hb.cell 3 (u := .int .u64 (g 3)) rfl
      have f3 := hb.frozen 3
      have d0 := hh.cell 0 (u := .int .u64 (h 0)) rfl
      have d1 := hh.cell 1 (u := .int .u64 (h 1)) rfl
      have d2 := hh.cell 2 (u := .int .u64 (h 2)) rfl
      have d3 := hh.cell 3 (u := .int .u64 (h 3)) rfl
      have lh := hh.lt
      have : j = 0 ∨ j = 1 ∨ j = 2 ∨ j = 3 := by omega
      rcases this with rfl | rfl | rfl | rfl
      · have hst : (setRow g).setIfInBounds 0 (.int .u64 (bits .or .u64 (g 0) (h 0))) = setRow (fun i => if i = 0 then bits .or .u64 (g i) (h i) else g i) := by simp [setRow]
        have cq := hb.drew.cell 0 (u := .int .u64 (g 0)) rfl
        have fq := hb.drew.frozen 0
        have hbD := hb.drew
        have hrD := hr.drew
        have hhD := hh.drew
        have hkD := hk.drew
        go_wp2_with fail
        (refine wp_region_f [8] (InX Nb _) (by kernel_rfl) (InX.mk (Keep.drew (Keep.refl _ _))) (fun hI => ?_))
        have xx : ∀ k, ¬ Nb k := fun _ h => h
        generalize wr.drew = x0 at cq fq hbD hrD hhD hkD hI ⊢
        (refine wpF_take (v := ?_) 0 rfl (by kernel_rfl) (by kernel_rfl) (by kernel_rfl) (by kernel_rfl) (fun _ _ _ h => h) (by assumption) rfl ?_ ?_; rotate_left; (focus (rintro _ ⟨E, rfl⟩; go_simp; (try with_reducible rfl))); simp only [Act.put, List.getElem_toArray, List.getElem_cons_succ, List.getElem_cons_zero, List.setIfInBounds_toArray, List.set_cons_zero, List.set_cons_succ])
        (refine wpF_take (v := ?_) 1 rfl (by kernel_rfl) (by kernel_rfl) (by kernel_rfl) (by kernel_rfl) (fun _ _ _ h => h) (by assumption) rfl ?_ ?_; rotate_left; (focus (rintro _ ⟨E, rfl⟩; go_simp; (try with_reducible rfl))); simp only [Act.put, List.getElem_toArray, List.getElem_cons_succ, List.getElem_cons_zero, List.setIfInBounds_toArray, List.set_cons_zero, List.set_cons_succ])
        (refine wpF_take (v := ?_) 2 rfl (by kernel_rfl) (by kernel_rfl) (by kernel_rfl) (by kernel_rfl) (fun _ _ _ h => h) (by assumption) rfl ?_ ?_; rotate_left; (focus (rintro _ ⟨E, rfl⟩; go_simp; (try with_reducible rfl))); simp only [Act.put, List.getElem_toArray, List.getElem_cons_succ, List.getElem_cons_zero, List.setIfInBounds_toArray, List.set_cons_zero, List.set_cons_succ])
        (refine wpF_take (v := ?_) 3 rfl (by kernel_rfl) (by kernel_rfl) (by kernel_rfl) (by kernel_rfl) (fun _ _ _ h => h) (by assumption) rfl ?_ ?_; rotate_left; (focus (rintro _ ⟨E, rfl⟩; go_simp; (try with_reducible rfl))); simp only [Act.put, List.getElem_toArray, List.getElem_cons_succ, List.getElem_cons_zero, List.setIfInBounds_toArray, List.set_cons_zero, List.set_cons_succ])
        (refine wpF_take (v := ?_) 4 rfl (by kernel_rfl) (by kernel_rfl) (by kernel_rfl) (by kernel_rfl) (fun _ _ _ h => h) (by assumption) rfl ?_ ?_; rotate_left; (focus (rintro _ ⟨E, rfl⟩; go_simp; (try with_reducible rfl))); simp only [Act.put, List.getElem_toArray, List.getElem_cons_succ, List.getElem_cons_zero, List.setIfInBounds_toArray, List.set_cons_zero, List.set_cons_succ])
        (refine wpF_take (v := ?_) 5 rfl (by kernel_rfl) (by kernel_rfl) (by kernel_rfl) (by kernel_rfl) (fun _ _ _ h => h) (by assumption) rfl ?_ ?_; rotate_left; (focus (rintro _ ⟨E, rfl⟩; go_simp; (try with_reducible rfl))); simp only [Act.put, List.getElem_toArray, List.getElem_cons_succ, List.getElem_cons_zero, List.setIfInBounds_toArray, List.set_cons_zero, List.set_cons_succ])
        (refine wpF_take (v := ?_) 6 rfl (by kernel_rfl) (by kernel_rfl) (by kernel_rfl) (by kernel_rfl) (fun _ _ _ h => h) (by assumption) rfl ?_ ?_; rotate_left; (focus (rintro _ ⟨E, rfl⟩; go_simp; (try with_reducible rfl))); simp only [Act.put, List.getElem_toArray, List.getElem_cons_succ, List.getElem_cons_zero, List.setIfInBounds_toArray, List.set_cons_zero, List.set_cons_succ])
        (refine wpF_take (v := ?_) 7 rfl (by kernel_rfl) (by kernel_rfl) (by kernel_rfl) (by kernel_rfl) (fun _ _ _ h => h) (by assumption) rfl ?_ ?_; rotate_left; (focus (rintro _ ⟨E, rfl⟩; go_simp; (try with_reducible rfl))); simp only [Act.put, List.getElem_toArray, List.getElem_cons_succ, List.getElem_cons_zero, List.setIfInBounds_toArray, List.set_cons_zero, List.set_cons_succ])
        (refine wpF_one 8 rfl (by kernel_rfl) rfl (fun K hK => ?_))
        go_simp
        (refine hK _ _ (fun h => absurd (by simp) h) (fun _ => ?_); clear hK K; try simp only [Act.put, List.getElem_toArray, List.getElem_cons_succ, List.getElem_cons_zero, List.setIfInBounds_toArray, List.set_cons_zero, List.set_cons_succ])
        (refine wpF_done (by kernel_rfl) ?_ _)
        have hb2 := hbD.set 0 (.int .u64 (bits .or .u64 (g 0) (h 0)))
        rw [hst] at hb2
        have hh2 := hhD.setOther (p := ⟨w.heap.size, 0, none⟩) (by simp; try omega) (.int .u64 (bits .or .u64 (g 0) (h 0)))
        have HH := Lib.hid hh2
        have hr2 := hrD.setOther (p := ⟨w.heap.size, 0, none⟩) (by simp; try omega) (.int .u64 (bits .or .u64 (g 0) (h 0)))
        have hk2 : Keep Nb w (x0.setCell ⟨w.heap.size, 0, none⟩ (.int .u64 (bits .or .u64 (g 0) (h 0)))) := Keep.setCell hkD (Or.inl (Nat.le_refl _)) _
        have HB := Lib.hid hb2
        have HR := Lib.hid hr2
        clear hst hb2 hr2 hbD hrD hh2 hhD hb hr hh
        go_wp2_with fail
        go_roundw
        case rel =>
          refine ⟨1, _, by omega, rfl, Lib.hid (fun i => ?_), HB.out, HH.out, HR.out, hk2⟩
          have := hg.out i
          simp only [this]
          split <;> split <;> first | rfl | omega | (split <;> first | rfl | omega)
        case measure => simp [intOf]
      · have hst : (setRow g).setIfInBounds 1 (.int .u64 (bits .or .u64 (g 1) (h 1))) = setRow (fun i => if i = 1 then bits .or .u64 (g i) (h i) else g i) := by simp [setRow]
        have cq := hb.drew.cell 1 (u := .int .u64 (g 1)) rfl
        have fq := hb.drew.frozen 1
        have hbD := hb.drew
        have hrD := hr.drew
        have hhD := hh.drew
        have hkD := hk.drew
        go_wp2_with fail
        (refine wp_region_f [8] (InX Nb _) (by kernel_rfl) (InX.mk (Keep.drew (Keep.refl _ _))) (fun hI => ?_))
        have xx : ∀ k, ¬ Nb k := fun _ h => h
        generalize wr.drew = x0 at cq fq hbD hrD hhD hkD hI ⊢
        (refine wpF_take (v := ?_) 0 rfl (by kernel_rfl) (by kernel_rfl) (by kernel_rfl) (by kernel_rfl) (fun _ _ _ h => h) (by assumption) rfl ?_ ?_; rotate_left; (focus (rintro _ ⟨E, rfl⟩; go_simp; (try with_reducible rfl))); simp only [Act.put, List.getElem_toArray, List.getElem_cons_succ, List.getElem_cons_zero, List.setIfInBounds_toArray, List.set_cons_zero, List.set_cons_succ])
        (refine wpF_take (v := ?_) 1 rfl (by kernel_rfl) (by kernel_rfl) (by kernel_rfl) (by kernel_rfl) (fun _ _ _ h => h) (by assumption) rfl ?_ ?_; rotate_left; (focus (rintro _ ⟨E, rfl⟩; go_simp; (try with_reducible rfl))); simp only [Act.put, List.getElem_toArray, List.getElem_cons_succ, List.getElem_cons_zero, List.setIfInBounds_toArray, List.set_cons_zero, List.set_cons_succ])
        (refine wpF_take (v := ?_) 2 rfl (by kernel_rfl) (by kernel_rfl) (by kernel_rfl) (by kernel_rfl) (fun _ _ _ h => h) (by assumption) rfl ?_ ?_; rotate_left; (focus (rintro _ ⟨E, rfl⟩; go_simp; (try with_reducible rfl))); simp only [Act.put, List.getElem_toArray, List.getElem_cons_succ, List.getElem_cons_zero, List.setIfInBounds_toArray, List.set_cons_zero, List.set_cons_succ])
        (refine wpF_take (v := ?_) 3 rfl (by kernel_rfl) (by kernel_rfl) (by kernel_rfl) (by kernel_rfl) (fun _ _ _ h => h) (by assumption) rfl ?_ ?_; rotate_left; (focus (rintro _ ⟨E, rfl⟩; go_simp; (try with_reducible rfl))); simp only [Act.put, List.getElem_toArray, List.getElem_cons_succ, List.getElem_cons_zero, List.setIfInBounds_toArray, List.set_cons_zero, List.set_cons_succ])
        (refine wpF_take (v := ?_) 4 rfl (by kernel_rfl) (by kernel_rfl) (by kernel_rfl) (by kernel_rfl) (fun _ _ _ h => h) (by assumption) rfl ?_ ?_; rotate_left; (focus (rintro _ ⟨E, rfl⟩; go_simp; (try with_reducible rfl))); simp only [Act.put, List.getElem_toArray, List.getElem_cons_succ, List.getElem_cons_zero, List.setIfInBounds_toArray, List.set_cons_zero, List.set_cons_succ])
        (refine wpF_take (v := ?_) 5 rfl (by kernel_rfl) (by kernel_rfl) (by kernel_rfl) (by kernel_rfl) (fun _ _ _ h => h) (by assumption) rfl ?_ ?_; rotate_left; (focus (rintro _ ⟨E, rfl⟩; go_simp; (try with_reducible rfl))); simp only [Act.put, List.getElem_toArray, List.getElem_cons_succ, List.getElem_cons_zero, List.setIfInBounds_toArray, List.set_cons_zero, List.set_cons_succ])
        (refine wpF_take (v := ?_) 6 rfl (by kernel_rfl) (by kernel_rfl) (by kernel_rfl) (by kernel_rfl) (fun _ _ _ h => h) (by assumption) rfl ?_ ?_; rotate_left; (focus (rintro _ ⟨E, rfl⟩; go_simp; (try with_reducible rfl))); simp only [Act.put, List.getElem_toArray, List.getElem_cons_succ, List.getElem_cons_zero, List.setIfInBounds_toArray, List.set_cons_zero, List.set_cons_succ])
        (refine wpF_take (v := ?_) 7 rfl (by kernel_rfl) (by kernel_rfl) (by kernel_rfl) (by kernel_rfl) (fun _ _ _ h => h) (by assumption) rfl ?_ ?_; rotate_left; (focus (rintro _ ⟨E, rfl⟩; go_simp; (try with_reducible rfl))); simp only [Act.put, List.getElem_toArray, List.getElem_cons_succ, List.getElem_cons_zero, List.setIfInBounds_toArray, List.set_cons_zero, List.set_cons_succ])
        (refine wpF_one 8 rfl (by kernel_rfl) rfl (fun K hK => ?_))
        go_simp
        (refine hK _ _ (fun h => absurd (by simp) h) (fun _ => ?_); clear hK K; try simp only [Act.put, List.getElem_toArray, List.getElem_cons_succ, List.getElem_cons_zero, List.setIfInBounds_toArray, List.set_cons_zero, List.set_cons_succ])
        (refine wpF_done (by kernel_rfl) ?_ _)
        have hb2 := hbD.set 1 (.int .u64 (bits .or .u64 (g 1) (h 1)))
        rw [hst] at hb2
        have hh2 := hhD.setOther (p := ⟨w.heap.size, 1, none⟩) (by simp; try omega) (.int .u64 (bits .or .u64 (g 1) (h 1)))
        have HH := Lib.hid hh2
        have hr2 := hrD.setOther (p := ⟨w.heap.size, 1, none⟩) (by simp; try omega) (.int .u64 (bits .or .u64 (g 1) (h 1)))
        have hk2 : Keep Nb w (x0.setCell ⟨w.heap.size, 1, none⟩ (.int .u64 (bits .or .u64 (g 1) (h 1)))) := Keep.setCell hkD (Or.inl (Nat.le_refl _)) _
        have HB := Lib.hid hb2
        have HR := Lib.hid hr2
        clear hst hb2 hr2 hbD hrD hh2 hhD hb hr hh
        go_wp2_with fail
        go_roundw
        case rel =>
          refine ⟨2, _, by omega, rfl, Lib.hid (fun i => ?_), HB.out, HH.out, HR.out, hk2⟩
          have := hg.out i
          simp only [this]
          split <;> split <;> first | rfl | omega | (split <;> first | rfl | omega)
        case measure => simp [intOf]
      · have hst : (setRow g).setIfInBounds 2 (.int .u64 (bits .or .u64 (g 2) (h 2))) = setRow (fun i => if i = 2 then bits .or .u64 (g i) (h i) else g i) := by simp [setRow]
        have cq := hb.drew.cell 2 (u := .int .u64 (g 2)) rfl
        have fq := hb.drew.frozen 2
        have hbD := hb.drew
        have hrD := hr.drew
        have hhD := hh.drew
        have hkD := hk.drew
        go_wp2_with fail
        (refine wp_region_f [8] (InX Nb _) (by kernel_rfl) (InX.mk (Keep.drew (Keep.refl _ _))) (fun hI => ?_))
        have xx : ∀ k, ¬ Nb k := fun _ h => h
        generalize wr.drew = x0 at cq fq hbD hrD hhD hkD hI ⊢
        (refine wpF_take (v := ?_) 0 rfl (by kernel_rfl) (by kernel_rfl) (by kernel_rfl) (by kernel_rfl) (fun _ _ _ h => h) (by assumption) rfl ?_ ?_; rotate_left; (focus (rintro _ ⟨E, rfl⟩; go_simp; (try with_reducible rfl))); simp only [Act.put, List.getElem_toArray, List.getElem_cons_succ, List.getElem_cons_zero, List.setIfInBounds_toArray, List.set_cons_zero, List.set_cons_succ])
        (refine wpF_take (v := ?_) 1 rfl (by kernel_rfl) (by kernel_rfl) (by kernel_rfl) (by kernel_rfl) (fun _ _ _ h => h) (by assumption) rfl ?_ ?_; rotate_left; (focus (rintro _ ⟨E, rfl⟩; go_simp; (try with_reducible rfl))); simp only [Act.put, List.getElem_toArray, List.getElem_cons_succ, List.getElem_cons_zero, List.setIfInBounds_toArray, List.set_cons_zero, List.set_cons_succ])
        (refine wpF_take (v := ?_) 2 rfl (by kernel_rfl) (by kernel_rfl) (by kernel_rfl) (by kernel_rfl) (fun _ _ _ h => h) (by assumption) rfl ?_ ?_; rotate_left; (focus (rintro _ ⟨E, rfl⟩; go_simp; (try with_reducible rfl))); simp only [Act.put, List.getElem_toArray, List.getElem_cons_succ, List.getElem_cons_zero, List.setIfInBounds_toArray, List.set_cons_zero, List.set_cons_succ])
        (refine wpF_take (v := ?_) 3 rfl (by kernel_rfl) (by kernel_rfl) (by kernel_rfl) (by kernel_rfl) (fun _ _ _ h => h) (by assumption) rfl ?_ ?_; rotate_left; (focus (rintro _ ⟨E, rfl⟩; go_simp; (try with_reducible rfl))); simp only [Act.put, List.getElem_toArray, List.getElem_cons_succ, List.getElem_cons_zero, List.setIfInBounds_toArray, List.set_cons_zero, List.set_cons_succ])
        (refine wpF_take (v := ?_) 4 rfl (by kernel_rfl) (by kernel_rfl) (by kernel_rfl) (by kernel_rfl) (fun _ _ _ h => h) (by assumption) rfl ?_ ?_; rotate_left; (focus (rintro _ ⟨E, rfl⟩; go_simp; (try with_reducible rfl))); simp only [Act.put, List.getElem_toArray, List.getElem_cons_succ, List.getElem_cons_zero, List.setIfInBounds_toArray, List.set_cons_zero, List.set_cons_succ])
        (refine wpF_take (v := ?_) 5 rfl (by kernel_rfl) (by kernel_rfl) (by kernel_rfl) (by kernel_rfl) (fun _ _ _ h => h) (by assumption) rfl ?_ ?_; rotate_left; (focus (rintro _ ⟨E, rfl⟩; go_simp; (try with_reducible rfl))); simp only [Act.put, List.getElem_toArray, List.getElem_cons_succ, List.getElem_cons_zero, List.setIfInBounds_toArray, List.set_cons_zero, List.set_cons_succ])
        (refine wpF_take (v := ?_) 6 rfl (by kernel_rfl) (by kernel_rfl) (by kernel_rfl) (by kernel_rfl) (fun _ _ _ h => h) (by assumption) rfl ?_ ?_; rotate_left; (focus (rintro _ ⟨E, rfl⟩; go_simp; (try with_reducible rfl))); simp only [Act.put, List.getElem_toArray, List.getElem_cons_succ, List.getElem_cons_zero, List.setIfInBounds_toArray, List.set_cons_zero, List.set_cons_succ])
        (refine wpF_take (v := ?_) 7 rfl (by kernel_rfl) (by kernel_rfl) (by kernel_rfl) (by kernel_rfl) (fun _ _ _ h => h) (by assumption) rfl ?_ ?_; rotate_left; (focus (rintro _ ⟨E, rfl⟩; go_simp; (try with_reducible rfl))); simp only [Act.put, List.getElem_toArray, List.getElem_cons_succ, List.getElem_cons_zero, List.setIfInBounds_toArray, List.set_cons_zero, List.set_cons_succ])
        (refine wpF_one 8 rfl (by kernel_rfl) rfl (fun K hK => ?_))
        go_simp
        (refine hK _ _ (fun h => absurd (by simp) h) (fun _ => ?_); clear hK K; try simp only [Act.put, List.getElem_toArray, List.getElem_cons_succ, List.getElem_cons_zero, List.setIfInBounds_toArray, List.set_cons_zero, List.set_cons_succ])
        (refine wpF_done (by kernel_rfl) ?_ _)
        have hb2 := hbD.set 2 (.int .u64 (bits .or .u64 (g 2) (h 2)))
        rw [hst] at hb2
        have hh2 := hhD.setOther (p := ⟨w.heap.size, 2, none⟩) (by simp; try omega) (.int .u64 (bits .or .u64 (g 2) (h 2)))
        have HH := Lib.hid hh2
        have hr2 := hrD.setOther (p := ⟨w.heap.size, 2, none⟩) (by simp; try omega) (.int .u64 (bits .or .u64 (g 2) (h 2)))
        have hk2 : Keep Nb w (x0.setCell ⟨w.heap.size, 2, none⟩ (.int .u64 (bits .or .u64 (g 2) (h 2)))) := Keep.setCell hkD (Or.inl (Nat.le_refl _)) _
        have HB := Lib.hid hb2
        have HR := Lib.hid hr2
        clear hst hb2 hr2 hbD hrD hh2 hhD hb hr hh
        go_wp2_with fail
        go_roundw
        case rel =>
          refine ⟨3, _, by omega, rfl, Lib.hid (fun i => ?_), HB.out, HH.out, HR.out, hk2⟩
          have := hg.out i
          simp only [this]
          split <;> split <;> first | rfl | omega | (split <;> first | rfl | omega)
        case measure => simp [intOf]
      · have hst : (setRow g).setIfInBounds 3 (.int .u64 (bits .or .u64 (g 3) (h 3))) = setRow (fun i => if i = 3 then bits .or .u64 (g i) (h i) else g i) := by simp [setRow]
        have cq := hb.drew.cell 3 (u := .int .u64 (g 3)) rfl
        have fq := hb.drew.frozen 3
        have hbD := hb.drew
        have hrD := hr.drew
        have hhD := hh.drew
        have hkD := hk.drew
        go_wp2_with fail
        (refine wp_region_f [8] (InX Nb _) (by kernel_rfl) (InX.mk (Keep.drew (Keep.refl _ _))) (fun hI => ?_))
        have xx : ∀ k, ¬ Nb k := fun _ h => h
        generalize wr.drew = x0 at cq fq hbD hrD hhD hkD hI ⊢
        (refine wpF_take (v := ?_) 0 rfl (by kernel_rfl) (by kernel_rfl) (by kernel_rfl) (by kernel_rfl) (fun _ _ _ h => h) (by assumption) rfl ?_ ?_; rotate_left; (focus (rintro _ ⟨E, rfl⟩; go_simp; (try with_reducible rfl))); simp only [Act.put, List.getElem_toArray, List.getElem_cons_succ, List.getElem_cons_zero, List.setIfInBounds_toArray, List.set_cons_zero, List.set_cons_succ])
        (refine wpF_take (v := ?_) 1 rfl (by kernel_rfl) (by kernel_rfl) (by kernel_rfl) (by kernel_rfl) (fun _ _ _ h => h) (by assumption) rfl ?_ ?_; rotate_left; (focus (rintro _ ⟨E, rfl⟩; go_simp; (try with_reducible rfl))); simp only [Act.put, List.getElem_toArray, List.getElem_cons_succ, List.getElem_cons_zero, List.setIfInBounds_toArray, List.set_cons_zero, List.set_cons_succ])
        (refine wpF_take (v := ?_) 2 rfl (by kernel_rfl) (by kernel_rfl) (by kernel_rfl) (by kernel_rfl) (fun _ _ _ h => h) (by assumption) rfl ?_ ?_; rotate_left; (focus (rintro _ ⟨E, rfl⟩; go_simp; (try with_reducible rfl))); simp only [Act.put, List.getElem_toArray, List.getElem_cons_succ, List.getElem_cons_zero, List.setIfInBounds_toArray, List.set_cons_zero, List.set_cons_succ])
        (refine wpF_take (v := ?_) 3 rfl (by kernel_rfl) (by kernel_rfl) (by kernel_rfl) (by kernel_rfl) (fun _ _ _ h => h) (by assumption) rfl ?_ ?_; rotate_left; (focus (rintro _ ⟨E, rfl⟩; go_simp; (try with_reducible rfl))); simp only [Act.put, List.getElem_toArray, List.getElem_cons_succ, List.getElem_cons_zero, List.setIfInBounds_toArray, List.set_cons_zero, List.set_cons_succ])
        (refine wpF_take (v := ?_) 4 rfl (by kernel_rfl) (by kernel_rfl) (by kernel_rfl) (by kernel_rfl) (fun _ _ _ h => h) (by assumption) rfl ?_ ?_; rotate_left; (focus (rintro _ ⟨E, rfl⟩; go_simp; (try with_reducible rfl))); simp only [Act.put, List.getElem_toArray, List.getElem_cons_succ, List.getElem_cons_zero, List.setIfInBounds_toArray, List.set_cons_zero, List.set_cons_succ])
        (refine wpF_take (v := ?_) 5 rfl (by kernel_rfl) (by kernel_rfl) (by kernel_rfl) (by kernel_rfl) (fun _ _ _ h => h) (by assumption) rfl ?_ ?_; rotate_left; (focus (rintro _ ⟨E, rfl⟩; go_simp; (try with_reducible rfl))); simp only [Act.put, List.getElem_toArray, List.getElem_cons_succ, List.getElem_cons_zero, List.setIfInBounds_toArray, List.set_cons_zero, List.set_cons_succ])
        (refine wpF_take (v := ?_) 6 rfl (by kernel_rfl) (by kernel_rfl) (by kernel_rfl) (by kernel_rfl) (fun _ _ _ h => h) (by assumption) rfl ?_ ?_; rotate_left; (focus (rintro _ ⟨E, rfl⟩; go_simp; (try with_reducible rfl))); simp only [Act.put, List.getElem_toArray, List.getElem_cons_succ, List.getElem_cons_zero, List.setIfInBounds_toArray, List.set_cons_zero, List.set_cons_succ])
        (refine wpF_take (v := ?_) 7 rfl (by kernel_rfl) (by kernel_rfl) (by kernel_rfl) (by kernel_rfl) (fun _ _ _ h => h) (by assumption) rfl ?_ ?_; rotate_left; (focus (rintro _ ⟨E, rfl⟩; go_simp; (try with_reducible rfl))); simp only [Act.put, List.getElem_toArray, List.getElem_cons_succ, List.getElem_cons_zero, List.setIfInBounds_toArray, List.set_cons_zero, List.set_cons_succ])
        (refine wpF_one 8 rfl (by kernel_rfl) rfl (fun K hK => ?_))
        go_simp
        (refine hK _ _ (fun h => absurd (by simp) h) (fun _ => ?_); clear hK K; try simp only [Act.put, List.getElem_toArray, List.getElem_cons_succ, List.getElem_cons_zero, List.setIfInBounds_toArray, List.set_cons_zero, List.set_cons_succ])
        (refine wpF_done (by kernel_rfl) ?_ _)
        have hb2 := hbD.set 3 (.int .u64 (bits .or .u64 (g 3) (h 3)))
        rw [hst] at hb2
        have hh2 := hhD.setOther (p := ⟨w.heap.size, 3, none⟩) (by simp; try omega) (.int .u64 (bits .or .u64 (g 3) (h 3)))
        have HH := Lib.hid hh2
        have hr2 := hrD.setOther (p := ⟨w.heap.size, 3, none⟩) (by simp; try omega) (.int .u64 (bits .or .u64 (g 3) (h 3)))
        have hk2 : Keep Nb w (x0.setCell ⟨w.heap.size, 3, none⟩ (.int .u64 (bits .or .u64 (g 3) (h 3)))) := Keep.setCell hkD (Or.inl (Nat.le_refl _)) _
        have HB := Lib.hid hb2
        have HR := Lib.hid hr2
        clear hst hb2 hr2 hbD hrD hh2 hhD hb hr hh
        go_wp2_with fail
        go_roundw
        case rel =>
          refine ⟨4, _, by omega, rfl, Lib.hid (fun i => ?_), HB.out, HH.out, HR.out, hk2⟩
          have := hg.out i
          simp only [this]
          split <;> split <;> first | rfl | omega | (split <;> first | rfl | omega)
        case measure => simp [intOf]
    · obtain rfl : j = 4 := by omega
      have hgv : setRow g = setRow (orF f h) := setRow_congr fun i hi => by rw [hg.out i, if_pos hi]; rfl
      have HG := Lib.hid hgv
      clear hgv
      have hb' := hb
      have hr' := hr
      clear hb hr
      go_wp2_with (first
        | (refine wpList_load_row rfl 26 (.tmp 2) rfl w.heap.size rfl 26 _ (0, 0) _ hb' Try.underlying26 rfl sizeS1 ?_)
        | (refine wpList_store_row rfl 26 (.tmp 4) (.tmp 18) rfl (w.heap.size + 1 + 1) _ rfl rfl 26 _ hr' sizeS1 rfl (by simp [setRow, Value.oneCell']) ?_))
      have hr2 : Blk (wr.setRow (w.heap.size + 1 + 1) (setRow g)) (w.heap.size + 1 + 1) (setRow g) 26 := hr'.setRow _
      refine bodyPost_ret (v := .agg (setRow g)) (results_cell_row Try.results28 _ _ (w.heap.size + 1 + 1) 26 _ (0, 0) _ rfl hr2 Try.underlying26 rfl sizeS1) rfl ⟨by rw [HG.out]; rfl, Keep.setRow hk (Or.inl (by omega)) _⟩

set_option maxRecDepth 100000 in
set_option maxHeartbeats 2000000 in
theorem or_r (f h : Nat → Int) (w : World) :
    Calls Try.prog 30 #[.agg (setRow f), .agg (setRow h)] w fun e w' => e = .returned (.agg (setRow (orF f h))) ∧ Keep Nb w w' := by
  simp only [setRow]
  go_enter Try.func30, Try.ntmps30
  go_wp2_with fail
  go_loopw [6] (fun i wr => ∃ (j : Nat) (g : Nat → Int), j ≤ 4 ∧ i = .int .i64 j ∧ Hid (∀ k, g k = if k < j then bits .or .u64 (f k) (h k) else f k) ∧ Blk wr w.heap.size (setRow g) 24 ∧ Blk wr (w.heap.size + 1) (setRow h) 24 ∧ Blk wr (w.heap.size + 1 + 1) (setRow fun _ => 0) 24 ∧ Keep Nb w wr) (fun i _ => 4 - (intOf i).toNat)
  case atStart => exact ⟨0, f, by omega, rfl, Lib.hid (fun k => by simp), ((Blk.new w _ _).alloc _).alloc _, (Blk.new' (by simp) _ _).alloc _, Blk.new' (by simp) _ _, (by repeat (first | assumption | exact Keep.refl _ _ | refine Keep.alloc ?_ _ | refine Keep.drew ?_ | refine Keep.setCell ?_ (Or.inl (by simp)) _ | refine Keep.setRow ?_ (Or.inl (by simp)) _))⟩
  case round =>
    obtain ⟨j, g, hj, rfl, hg, hb, hh, hr, hk⟩ := hrel
    have lb := hb.lt
    have lr := hr.lt
    by_cases hlt : j < 4
    · have c0 := hb.cell 0 (u := .int .u64 (g 0)) rfl
      have f0 := hb.frozen 0
      have c1 := hb.cell 1 (u := .int .u64 (g 1)) rfl
      have f1 := hb.frozen 1
      have c2 := hb.cell 2 (u := .int .u64 (g 2)) rfl
      have f2 := hb.frozen 2
      have c3 := hb.cell 3 (u := .int .u64 (g 3)) rfl
      have f3 := hb.frozen 3
      have d0 := hh.cell 0 (u := .int .u64 (h 0)) rfl
      have d1 := hh.cell 1 (u := .int .u64 (h 1)) rfl
      have d2 := hh.cell 2 (u := .int .u64 (h 2)) rfl
      have d3 := hh.cell 3 (u := .int .u64 (h 3)) rfl
      have lh := hh.lt
      have : j = 0 ∨ j = 1 ∨ j = 2 ∨ j = 3 := by omega
      rcases this with rfl | rfl | rfl | rfl
      · have hst : (setRow g).setIfInBounds 0 (.int .u64 (bits .or .u64 (g 0) (h 0))) = setRow (fun i => if i = 0 then bits .or .u64 (g i) (h i) else g i) := by simp [setRow]
        have cq := hb.drew.cell 0 (u := .int .u64 (g 0)) rfl
        have fq := hb.drew.frozen 0
        have hbD := hb.drew
        have hrD := hr.drew
        have hhD := hh.drew
        have hkD := hk.drew
        go_wp2_with fail
        (refine wp_region_f [9] (InX Nb _) (by kernel_rfl) (InX.mk (Keep.drew (Keep.refl _ _))) (fun hI => ?_))
        have xx : ∀ k, ¬ Nb k := fun _ h => h
        generalize wr.drew = x0 at cq fq hbD hrD hhD hkD hI ⊢
        (refine wpF_take (v := ?_) 0 rfl (by kernel_rfl) (by kernel_rfl) (by kernel_rfl) (by kernel_rfl) (fun _ _ _ h => h) (by assumption) rfl ?_ ?_; rotate_left; (focus (rintro _ ⟨E, rfl⟩; go_simp; (try with_reducible rfl))); simp only [Act.put, List.getElem_toArray, List.getElem_cons_succ, List.getElem_cons_zero, List.setIfInBounds_toArray, List.set_cons_zero, List.set_cons_succ])
        (refine wpF_take (v := ?_) 1 rfl (by kernel_rfl) (by kernel_rfl) (by kernel_rfl) (by kernel_rfl) (fun _ _ _ h => h) (by assumption) rfl ?_ ?_; rotate_left; (focus (rintro _ ⟨E, rfl⟩; go_simp; (try with_reducible rfl))); simp only [Act.put, List.getElem_toArray, List.getElem_cons_succ, List.getElem_cons_zero, List.setIfInBounds_toArray, List.set_cons_zero, List.set_cons_succ])
        (refine wpF_take (v := ?_) 2 rfl (by kernel_rfl) (by kernel_rfl) (by kernel_rfl) (by kernel_rfl) (fun _ _ _ h => h) (by assumption) rfl ?_ ?_; rotate_left; (focus (rintro _ ⟨E, rfl⟩; go_simp; (try with_reducible rfl))); simp only [Act.put, List.getElem_toArray, List.getElem_cons_succ, List.getElem_cons_zero, List.setIfInBounds_toArray, List.set_cons_zero, List.set_cons_succ])
        (refine wpF_take (v := ?_) 3 rfl (by kernel_rfl) (by kernel_rfl) (by kernel_rfl) (by kernel_rfl) (fun _ _ _ h => h) (by assumption) rfl ?_ ?_; rotate_left; (focus (rintro _ ⟨E, rfl⟩; go_simp; (try with_reducible rfl))); simp only [Act.put, List.getElem_toArray, List.getElem_cons_succ, List.getElem_cons_zero, List.setIfInBounds_toArray, List.set_cons_zero, List.set_cons_succ])
        (refine wpF_take (v := ?_) 4 rfl (by kernel_rfl) (by kernel_rfl) (by kernel_rfl) (by kernel_rfl) (fun _ _ _ h => h) (by assumption) rfl ?_ ?_; rotate_left; (focus (rintro _ ⟨E, rfl⟩; go_simp; (try with_reducible rfl))); simp only [Act.put, List.getElem_toArray, List.getElem_cons_succ, List.getElem_cons_zero, List.setIfInBounds_toArray, List.set_cons_zero, List.set_cons_succ])
        (refine wpF_take (v := ?_) 5 rfl (by kernel_rfl) (by kernel_rfl) (by kernel_rfl) (by kernel_rfl) (fun _ _ _ h => h) (by assumption) rfl ?_ ?_; rotate_left; (focus (rintro _ ⟨E, rfl⟩; go_simp; (try with_reducible rfl))); simp only [Act.put, List.getElem_toArray, List.getElem_cons_succ, List.getElem_cons_zero, List.setIfInBounds_toArray, List.set_cons_zero, List.set_cons_succ])
        (refine wpF_take (v := ?_) 6 rfl (by kernel_rfl) (by kernel_rfl) (by kernel_rfl) (by kernel_rfl) (fun _ _ _ h => h) (by assumption) rfl ?_ ?_; rotate_left; (focus (rintro _ ⟨E, rfl⟩; go_simp; (try with_reducible rfl))); simp only [Act.put, List.getElem_toArray, List.getElem_cons_succ, List.getElem_cons_zero, List.setIfInBounds_toArray, List.set_cons_zero, List.set_cons_succ])
        (refine wpF_take (v := ?_) 7 rfl (by kernel_rfl) (by kernel_rfl) (by kernel_rfl) (by kernel_rfl) (fun _ _ _ h => h) (by assumption) rfl ?_ ?_; rotate_left; (focus (rintro _ ⟨E, rfl⟩; go_simp; (try with_reducible rfl))); simp only [Act.put, List.getElem_toArray, List.getElem_cons_succ, List.getElem_cons_zero, List.setIfInBounds_toArray, List.set_cons_zero, List.set_cons_succ])
        (refine wpF_take (v := ?_) 8 rfl (by kernel_rfl) (by kernel_rfl) (by kernel_rfl) (by kernel_rfl) (fun _ _ _ h => h) (by assumption) rfl ?_ ?_; rotate_left; (focus (rintro _ ⟨E, rfl⟩; go_simp; (try with_reducible rfl))); simp only [Act.put, List.getElem_toArray, List.getElem_cons_succ, List.getElem_cons_zero, List.setIfInBounds_toArray, List.set_cons_zero, List.set_cons_succ])
        (refine wpF_one 9 rfl (by kernel_rfl) rfl (fun K hK => ?_))
        go_simp
        (refine hK _ _ (fun h => absurd (by simp) h) (fun _ => ?_); clear hK K; try simp only [Act.put, List.getElem_toArray, List.getElem_cons_succ, List.getElem_cons_zero, List.setIfInBounds_toArray, List.set_cons_zero, List.set_cons_succ])
        (refine wpF_done (by kernel_rfl) ?_ _)
        have hb2 := hbD.set 0 (.int .u64 (bits .or .u64 (g 0) (h 0)))
        rw [hst] at hb2
        have hh2 := hhD.setOther (p := ⟨w.heap.size, 0, none⟩) (by simp; try omega) (.int .u64 (bits .or .u64 (g 0) (h 0)))
        have HH := Lib.hid hh2
        have hr2 := hrD.setOther (p := ⟨w.heap.size, 0, none⟩) (by simp; try omega) (.int .u64 (bits .or .u64 (g 0) (h 0)))
        have hk2 : Keep Nb w (x0.setCell ⟨w.heap.size, 0, none⟩ (.int .u64 (bits .or .u64 (g 0) (h 0)))) := Keep.setCell hkD (Or.inl (Nat.le_refl _)) _
        have HB := Lib.hid hb2
        have HR := Lib.hid hr2
        clear hst hb2 hr2 hbD hrD hh2 hhD hb hr hh
        go_wp2_with fail
        go_roundw
        case rel =>
          refine ⟨1, _, by omega, rfl, Lib.hid (fun i => ?_), HB.out, HH.out, HR.out, hk2⟩
          have := hg.out i
          simp only [this]
          split <;> split <;> first | rfl | omega | (split <;> first | rfl | omega)
        case measure => simp [intOf]
      · have hst : (setRow g).setIfInBounds 1 (.int .u64 (bits .or .u64 (g 1) (h 1))) = setRow (fun i => if i = 1 then bits .or .u64 (g i) (h i) else g i) := by simp [setRow]
        have cq := hb.drew.cell 1 (u := .int .u64 (g 1)) rfl
        have fq := hb.drew.frozen 1
        have hbD := hb.drew
        have hrD := hr.drew
        have hhD := hh.drew
        have hkD := hk.drew
        go_wp2_with fail
        (refine wp_region_f [9] (InX Nb _) (by kernel_rfl) (InX.mk (Keep.drew (Keep.refl _ _))) (fun hI => ?_))
        have xx : ∀ k, ¬ Nb k := fun _ h => h
        generalize wr.drew = x0 at cq fq hbD hrD hhD hkD hI ⊢
        (refine wpF_take (v := ?_) 0 rfl (by kernel_rfl) (by kernel_rfl) (by kernel_rfl) (by kernel_rfl) (fun _ _ _ h => h) (by assumption) rfl ?_ ?_; rotate_left; (focus (rintro _ ⟨E, rfl⟩; go_simp; (try with_reducible rfl))); simp only [Act.put, List.getElem_toArray, List.getElem_cons_succ, List.getElem_cons_zero, List.setIfInBounds_toArray, List.set_cons_zero, List.set_cons_succ])
        (refine wpF_take (v := ?_) 1 rfl (by kernel_rfl) (by kernel_rfl) (by kernel_rfl) (by kernel_rfl) (fun _ _ _ h => h) (by assumption) rfl ?_ ?_; rotate_left; (focus (rintro _ ⟨E, rfl⟩; go_simp; (try with_reducible rfl))); simp only [Act.put, List.getElem_toArray, List.getElem_cons_succ, List.getElem_cons_zero, List.setIfInBounds_toArray, List.set_cons_zero, List.set_cons_succ])
        (refine wpF_take (v := ?_) 2 rfl (by kernel_rfl) (by kernel_rfl) (by kernel_rfl) (by kernel_rfl) (fun _ _ _ h => h) (by assumption) rfl ?_ ?_; rotate_left; (focus (rintro _ ⟨E, rfl⟩; go_simp; (try with_reducible rfl))); simp only [Act.put, List.getElem_toArray, List.getElem_cons_succ, List.getElem_cons_zero, List.setIfInBounds_toArray, List.set_cons_zero, List.set_cons_succ])
        (refine wpF_take (v := ?_) 3 rfl (by kernel_rfl) (by kernel_rfl) (by kernel_rfl) (by kernel_rfl) (fun _ _ _ h => h) (by assumption) rfl ?_ ?_; rotate_left; (focus (rintro _ ⟨E, rfl⟩; go_simp; (try with_reducible rfl))); simp only [Act.put, List.getElem_toArray, List.getElem_cons_succ, List.getElem_cons_zero, List.setIfInBounds_toArray, List.set_cons_zero, List.set_cons_succ])
        (refine wpF_take (v := ?_) 4 rfl (by kernel_rfl) (by kernel_rfl) (by kernel_rfl) (by kernel_rfl) (fun _ _ _ h => h) (by assumption) rfl ?_ ?_; rotate_left; (focus (rintro _ ⟨E, rfl⟩; go_simp; (try with_reducible rfl))); simp only [Act.put, List.getElem_toArray, List.getElem_cons_succ, List.getElem_cons_zero, List.setIfInBounds_toArray, List.set_cons_zero, List.set_cons_succ])
        (refine wpF_take (v := ?_) 5 rfl (by kernel_rfl) (by kernel_rfl) (by kernel_rfl) (by kernel_rfl) (fun _ _ _ h => h) (by assumption) rfl ?_ ?_; rotate_left; (focus (rintro _ ⟨E, rfl⟩; go_simp; (try with_reducible rfl))); simp only [Act.put, List.getElem_toArray, List.getElem_cons_succ, List.getElem_cons_zero, List.setIfInBounds_toArray, List.set_cons_zero, List.set_cons_succ])
        (refine wpF_take (v := ?_) 6 rfl (by kernel_rfl) (by kernel_rfl) (by kernel_rfl) (by kernel_rfl) (fun _ _ _ h => h) (by assumption) rfl ?_ ?_; rotate_left; (focus (rintro _ ⟨E, rfl⟩; go_simp; (try with_reducible rfl))); simp only [Act.put, List.getElem_toArray, List.getElem_cons_succ, List.getElem_cons_zero, List.setIfInBounds_toArray, List.set_cons_zero, List.set_cons_succ])
        (refine wpF_take (v := ?_) 7 rfl (by kernel_rfl) (by kernel_rfl) (by kernel_rfl) (by kernel_rfl) (fun _ _ _ h => h) (by assumption) rfl ?_ ?_; rotate_left; (focus (rintro _ ⟨E, rfl⟩; go_simp; (try with_reducible rfl))); simp only [Act.put, List.getElem_toArray, List.getElem_cons_succ, List.getElem_cons_zero, List.setIfInBounds_toArray, List.set_cons_zero, List.set_cons_succ])
        (refine wpF_take (v := ?_) 8 rfl (by kernel_rfl) (by kernel_rfl) (by kernel_rfl) (by kernel_rfl) (fun _ _ _ h => h) (by assumption) rfl ?_ ?_; rotate_left; (focus (rintro _ ⟨E, rfl⟩; go_simp; (try with_reducible rfl))); simp only [Act.put, List.getElem_toArray, List.getElem_cons_succ, List.getElem_cons_zero, List.setIfInBounds_toArray, List.set_cons_zero, List.set_cons_succ])
        (refine wpF_one 9 rfl (by kernel_rfl) rfl (fun K hK => ?_))
        go_simp
        (refine hK _ _ (fun h => absurd (by simp) h) (fun _ => ?_); clear hK K; try simp only [Act.put, List.getElem_toArray, List.getElem_cons_succ, List.getElem_cons_zero, List.setIfInBounds_toArray, List.set_cons_zero, List.set_cons_succ])
        (refine wpF_done (by kernel_rfl) ?_ _)
        have hb2 := hbD.set 1 (.int .u64 (bits .or .u64 (g 1) (h 1)))
        rw [hst] at hb2
        have hh2 := hhD.setOther (p := ⟨w.heap.size, 1, none⟩) (by simp; try omega) (.int .u64 (bits .or .u64 (g 1) (h 1)))
        have HH := Lib.hid hh2
        have hr2 := hrD.setOther (p := ⟨w.heap.size, 1, none⟩) (by simp; try omega) (.int .u64 (bits .or .u64 (g 1) (h 1)))
        have hk2 : Keep Nb w (x0.setCell ⟨w.heap.size, 1, none⟩ (.int .u64 (bits .or .u64 (g 1) (h 1)))) := Keep.setCell hkD (Or.inl (Nat.le_refl _)) _
        have HB := Lib.hid hb2
        have HR := Lib.hid hr2
        clear hst hb2 hr2 hbD hrD hh2 hhD hb hr hh
        go_wp2_with fail
        go_roundw
        case rel =>
          refine ⟨2, _, by omega, rfl, Lib.hid (fun i => ?_), HB.out, HH.out, HR.out, hk2⟩
          have := hg.out i
          simp only [this]
          split <;> split <;> first | rfl | omega | (split <;> first | rfl | omega)
        case measure => simp [intOf]
      · have hst : (setRow g).setIfInBounds 2 (.int .u64 (bits .or .u64 (g 2) (h 2))) = setRow (fun i => if i = 2 then bits .or .u64 (g i) (h i) else g i) := by simp [setRow]
        have cq := hb.drew.cell 2 (u := .int .u64 (g 2)) rfl
        have fq := hb.drew.frozen 2
        have hbD := hb.drew
        have hrD := hr.drew
        have hhD := hh.drew
        have hkD := hk.drew
        go_wp2_with fail
        (refine wp_region_f [9] (InX Nb _) (by kernel_rfl) (InX.mk (Keep.drew (Keep.refl _ _))) (fun hI => ?_))
        have xx : ∀ k, ¬ Nb k := fun _ h => h
        generalize wr.drew = x0 at cq fq hbD hrD hhD hkD hI ⊢
        (refine wpF_take (v := ?_) 0 rfl (by kernel_rfl) (by kernel_rfl) (by kernel_rfl) (by kernel_rfl) (fun _ _ _ h => h) (by assumption) rfl ?_ ?_; rotate_left; (focus (rintro _ ⟨E, rfl⟩; go_simp; (try with_reducible rfl))); simp only [Act.put, List.getElem_toArray, List.getElem_cons_succ, List.getElem_cons_zero, List.setIfInBounds_toArray, List.set_cons_zero, List.set_cons_succ])
        (refine wpF_take (v := ?_) 1 rfl (by kernel_rfl) (by kernel_rfl) (by kernel_rfl) (by kernel_rfl) (fun _ _ _ h => h) (by assumption) rfl ?_ ?_; rotate_left; (focus (rintro _ ⟨E, rfl⟩; go_simp; (try with_reducible rfl))); simp only [Act.put, List.getElem_toArray, List.getElem_cons_succ, List.getElem_cons_zero, List.setIfInBounds_toArray, List.set_cons_zero, List.set_cons_succ])
        (refine wpF_take (v := ?_) 2 rfl (by kernel_rfl) (by kernel_rfl) (by kernel_rfl) (by kernel_rfl) (fun _ _ _ h => h) (by assumption) rfl ?_ ?_; rotate_left; (focus (rintro _ ⟨E, rfl⟩; go_simp; (try with_reducible rfl))); simp only [Act.put, List.getElem_toArray, List.getElem_cons_succ, List.getElem_cons_zero, List.setIfInBounds_toArray, List.set_cons_zero, List.set_cons_succ])
        (refine wpF_take (v := ?_) 3 rfl (by kernel_rfl) (by kernel_rfl) (by kernel_rfl) (by kernel_rfl) (fun _ _ _ h => h) (by assumption) rfl ?_ ?_; rotate_left; (focus (rintro _ ⟨E, rfl⟩; go_simp; (try with_reducible rfl))); simp only [Act.put, List.getElem_toArray, List.getElem_cons_succ, List.getElem_cons_zero, List.setIfInBounds_toArray, List.set_cons_zero, List.set_cons_succ])
        (refine wpF_take (v := ?_) 4 rfl (by kernel_rfl) (by kernel_rfl) (by kernel_rfl) (by kernel_rfl) (fun _ _ _ h => h) (by assumption) rfl ?_ ?_; rotate_left; (focus (rintro _ ⟨E, rfl⟩; go_simp; (try with_reducible rfl))); simp only [Act.put, List.getElem_toArray, List.getElem_cons_succ, List.getElem_cons_zero, List.setIfInBounds_toArray, List.set_cons_zero, List.set_cons_succ])
        (refine wpF_take (v := ?_) 5 rfl (by kernel_rfl) (by kernel_rfl) (by kernel_rfl) (by kernel_rfl) (fun _ _ _ h => h) (by assumption) rfl ?_ ?_; rotate_left; (focus (rintro _ ⟨E, rfl⟩; go_simp; (try with_reducible rfl))); simp only [Act.put, List.getElem_toArray, List.getElem_cons_succ, List.getElem_cons_zero, List.setIfInBounds_toArray, List.set_cons_zero, List.set_cons_succ])
        (refine wpF_take (v := ?_) 6 rfl (by kernel_rfl) (by kernel_rfl) (by kernel_rfl) (by kernel_rfl) (fun _ _ _ h => h) (by assumption) rfl ?_ ?_; rotate_left; (focus (rintro _ ⟨E, rfl⟩; go_simp; (try with_reducible rfl))); simp only [Act.put, List.getElem_toArray, List.getElem_cons_succ, List.getElem_cons_zero, List.setIfInBounds_toArray, List.set_cons_zero, List.set_cons_succ])
        (refine wpF_take (v := ?_) 7 rfl (by kernel_rfl) (by kernel_rfl) (by kernel_rfl) (by kernel_rfl) (fun _ _ _ h => h) (by assumption) rfl ?_ ?_; rotate_left; (focus (rintro _ ⟨E, rfl⟩; go_simp; (try with_reducible rfl))); simp only [Act.put, List.getElem_toArray, List.getElem_cons_succ, List.getElem_cons_zero, List.setIfInBounds_toArray, List.set_cons_zero, List.set_cons_succ])
        (refine wpF_take (v := ?_) 8 rfl (by kernel_rfl) (by kernel_rfl) (by kernel_rfl) (by kernel_rfl) (fun _ _ _ h => h) (by assumption) rfl ?_ ?_; rotate_left; (focus (rintro _ ⟨E, rfl⟩; go_simp; (try with_reducible rfl))); simp only [Act.put, List.getElem_toArray, List.getElem_cons_succ, List.getElem_cons_zero, List.setIfInBounds_toArray, List.set_cons_zero, List.set_cons_succ])
        (refine wpF_one 9 rfl (by kernel_rfl) rfl (fun K hK => ?_))
        go_simp
        (refine hK _ _ (fun h => absurd (by simp) h) (fun _ => ?_); clear hK K; try simp only [Act.put, List.getElem_toArray, List.getElem_cons_succ, List.getElem_cons_zero, List.setIfInBounds_toArray, List.set_cons_zero, List.set_cons_succ])
        (refine wpF_done (by kernel_rfl) ?_ _)
        have hb2 := hbD.set 2 (.int .u64 (bits .or .u64 (g 2) (h 2)))
        rw [hst] at hb2
        have hh2 := hhD.setOther (p := ⟨w.heap.size, 2, none⟩) (by simp; try omega) (.int .u64 (bits .or .u64 (g 2) (h 2)))
        have HH := Lib.hid hh2
        have hr2 := hrD.setOther (p := ⟨w.heap.size, 2, none⟩) (by simp; try omega) (.int .u64 (bits .or .u64 (g 2) (h 2)))
        have hk2 : Keep Nb w (x0.setCell ⟨w.heap.size, 2, none⟩ (.int .u64 (bits .or .u64 (g 2) (h 2)))) := Keep.setCell hkD (Or.inl (Nat.le_refl _)) _
        have HB := Lib.hid hb2
        have HR := Lib.hid hr2
        clear hst hb2 hr2 hbD hrD hh2 hhD hb hr hh
        go_wp2_with fail
        go_roundw
        case rel =>
          refine ⟨3, _, by omega, rfl, Lib.hid (fun i => ?_), HB.out, HH.out, HR.out, hk2⟩
          have := hg.out i
          simp only [this]
          split <;> split <;> first | rfl | omega | (split <;> first | rfl | omega)
        case measure => simp [intOf]
      · have hst : (setRow g).setIfInBounds 3 (.int .u64 (bits .or .u64 (g 3) (h 3))) = setRow (fun i => if i = 3 then bits .or .u64 (g i) (h i) else g i) := by simp [setRow]
        have cq := hb.drew.cell 3 (u := .int .u64 (g 3)) rfl
        have fq := hb.drew.frozen 3
        have hbD := hb.drew
        have hrD := hr.drew
        have hhD := hh.drew
        have hkD := hk.drew
        go_wp2_with fail
        (refine wp_region_f [9] (InX Nb _) (by kernel_rfl) (InX.mk (Keep.drew (Keep.refl _ _))) (fun hI => ?_))
        have xx : ∀ k, ¬ Nb k := fun _ h => h
        generalize wr.drew = x0 at cq fq hbD hrD hhD hkD hI ⊢
        (refine wpF_take (v := ?_) 0 rfl (by kernel_rfl) (by kernel_rfl) (by kernel_rfl) (by kernel_rfl) (fun _ _ _ h => h) (by assumption) rfl ?_ ?_; rotate_left; (focus (rintro _ ⟨E, rfl⟩; go_simp; (try with_reducible rfl))); simp only [Act.put, List.getElem_toArray, List.getElem_cons_succ, List.getElem_cons_zero, List.setIfInBounds_toArray, List.set_cons_zero, List.set_cons_succ])
        (refine wpF_take (v := ?_) 1 rfl (by kernel_rfl) (by kernel_rfl) (by kernel_rfl) (by kernel_rfl) (fun _ _ _ h => h) (by assumption) rfl ?_ ?_; rotate_left; (focus (rintro _ ⟨E, rfl⟩; go_simp; (try with_reducible rfl))); simp only [Act.put, List.getElem_toArray, List.getElem_cons_succ, List.getElem_cons_zero, List.setIfInBounds_toArray, List.set_cons_zero, List.set_cons_succ])
        (refine wpF_take (v := ?_) 2 rfl (by kernel_rfl) (by kernel_rfl) (by kernel_rfl) (by kernel_rfl) (fun _ _ _ h => h) (by assumption) rfl ?_ ?_; rotate_left; (focus (rintro _ ⟨E, rfl⟩; go_simp; (try with_reducible rfl))); simp only [Act.put, List.getElem_toArray, List.getElem_cons_succ, List.getElem_cons_zero, List.setIfInBounds_toArray, List.set_cons_zero, List.set_cons_succ])
        (refine wpF_take (v := ?_) 3 rfl (by kernel_rfl) (by kernel_rfl) (by kernel_rfl) (by kernel_rfl) (fun _ _ _ h => h) (by assumption) rfl ?_ ?_; rotate_left; (focus (rintro _ ⟨E, rfl⟩; go_simp; (try with_reducible rfl))); simp only [Act.put, List.getElem_toArray, List.getElem_cons_succ, List.getElem_cons_zero, List.setIfInBounds_toArray, List.set_cons_zero, List.set_cons_succ])
        (refine wpF_take (v := ?_) 4 rfl (by kernel_rfl) (by kernel_rfl) (by kernel_rfl) (by kernel_rfl) (fun _ _ _ h => h) (by assumption) rfl ?_ ?_; rotate_left; (focus (rintro _ ⟨E, rfl⟩; go_simp; (try with_reducible rfl))); simp only [Act.put, List.getElem_toArray, List.getElem_cons_succ, List.getElem_cons_zero, List.setIfInBounds_toArray, List.set_cons_zero, List.set_cons_succ])
        (refine wpF_take (v := ?_) 5 rfl (by kernel_rfl) (by kernel_rfl) (by kernel_rfl) (by kernel_rfl) (fun _ _ _ h => h) (by assumption) rfl ?_ ?_; rotate_left; (focus (rintro _ ⟨E, rfl⟩; go_simp; (try with_reducible rfl))); simp only [Act.put, List.getElem_toArray, List.getElem_cons_succ, List.getElem_cons_zero, List.setIfInBounds_toArray, List.set_cons_zero, List.set_cons_succ])
        (refine wpF_take (v := ?_) 6 rfl (by kernel_rfl) (by kernel_rfl) (by kernel_rfl) (by kernel_rfl) (fun _ _ _ h => h) (by assumption) rfl ?_ ?_; rotate_left; (focus (rintro _ ⟨E, rfl⟩; go_simp; (try with_reducible rfl))); simp only [Act.put, List.getElem_toArray, List.getElem_cons_succ, List.getElem_cons_zero, List.setIfInBounds_toArray, List.set_cons_zero, List.set_cons_succ])
        (refine wpF_take (v := ?_) 7 rfl (by kernel_rfl) (by kernel_rfl) (by kernel_rfl) (by kernel_rfl) (fun _ _ _ h => h) (by assumption) rfl ?_ ?_; rotate_left; (focus (rintro _ ⟨E, rfl⟩; go_simp; (try with_reducible rfl))); simp only [Act.put, List.getElem_toArray, List.getElem_cons_succ, List.getElem_cons_zero, List.setIfInBounds_toArray, List.set_cons_zero, List.set_cons_succ])
        (refine wpF_take (v := ?_) 8 rfl (by kernel_rfl) (by kernel_rfl) (by kernel_rfl) (by kernel_rfl) (fun _ _ _ h => h) (by assumption) rfl ?_ ?_; rotate_left; (focus (rintro _ ⟨E, rfl⟩; go_simp; (try with_reducible rfl))); simp only [Act.put, List.getElem_toArray, List.getElem_cons_succ, List.getElem_cons_zero, List.setIfInBounds_toArray, List.set_cons_zero, List.set_cons_succ])
        (refine wpF_one 9 rfl (by kernel_rfl) rfl (fun K hK => ?_))
        go_simp
        (refine hK _ _ (fun h => absurd (by simp) h) (fun _ => ?_); clear hK K; try simp only [Act.put, List.getElem_toArray, List.getElem_cons_succ, List.getElem_cons_zero, List.setIfInBounds_toArray, List.set_cons_zero, List.set_cons_succ])
        (refine wpF_done (by kernel_rfl) ?_ _)
        have hb2 := hbD.set 3 (.int .u64 (bits .or .u64 (g 3) (h 3)))
        rw [hst] at hb2
        have hh2 := hhD.setOther (p := ⟨w.heap.size, 3, none⟩) (by simp; try omega) (.int .u64 (bits .or .u64 (g 3) (h 3)))
        have HH := Lib.hid hh2
        have hr2 := hrD.setOther (p := ⟨w.heap.size, 3, none⟩) (by simp; try omega) (.int .u64 (bits .or .u64 (g 3) (h 3)))
        have hk2 : Keep Nb w (x0.setCell ⟨w.heap.size, 3, none⟩ (.int .u64 (bits .or .u64 (g 3) (h 3)))) := Keep.setCell hkD (Or.inl (Nat.le_refl _)) _
        have HB := Lib.hid hb2
        have HR := Lib.hid hr2
        clear hst hb2 hr2 hbD hrD hh2 hhD hb hr hh
        go_wp2_with fail
        go_roundw
        case rel =>
          refine ⟨4, _, by omega, rfl, Lib.hid (fun i => ?_), HB.out, HH.out, HR.out, hk2⟩
          have := hg.out i
          simp only [this]
          split <;> split <;> first | rfl | omega | (split <;> first | rfl | omega)
        case measure => simp [intOf]
    · obtain rfl : j = 4 := by omega
      have hgv : setRow g = setRow (orF f h) := setRow_congr fun i hi => by rw [hg.out i, if_pos hi]; rfl
      have HG := Lib.hid hgv
      clear hgv
      have hb' := hb
      have hr' := hr
      clear hb hr
      go_wp2_with (first
        | (refine wpList_load_row rfl 24 (.tmp 2) rfl w.heap.size rfl 24 _ (0, 0) _ hb' Try.underlying24 rfl sizeS2 ?_)
        | (refine wpList_store_row rfl 24 (.tmp 4) (.tmp 19) rfl (w.heap.size + 1 + 1) _ rfl rfl 24 _ hr' sizeS2 rfl (by simp [setRow, Value.oneCell']) ?_))
      have hr2 : Blk (wr.setRow (w.heap.size + 1 + 1) (setRow g)) (w.heap.size + 1 + 1) (setRow g) 24 := hr'.setRow _
      refine bodyPost_ret (v := .agg (setRow g)) (results_cell_row Try.results30 _ _ (w.heap.size + 1 + 1) 24 _ (0, 0) _ rfl hr2 Try.underlying24 rfl sizeS2) rfl ⟨by rw [HG.out]; rfl, Keep.setRow hk (Or.inl (by omega)) _⟩

end Go.Proofs.Ytfjipiibkmapkaa
