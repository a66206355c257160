/- SpaceNil: a nil space has nothing. -/
import Derived.Test.YtnjanpejmfkopaaDoorNil
import Derived.Deep.DeepCutAuto
namespace Go.Proofs.YtnjanpejmfkopaaDoor
set_option linter.unusedVariables false
set_option linter.unusedSimpArgs false
open Go.RowKit P8

def opRow (k : Int) (t f : ByteArray) (b : Bool) : Array Value := #[.int .u8 k, .string t, .string f, .bool b]

set_option maxHeartbeats 2000000 in
set_option maxRecDepth 100000 in
theorem few_one (g : Nat) (k : Int) (t f : ByteArray) (b : Bool) (w : World) (hb : Blk w g (opRow k t f b) 33) :
    Calls Tryd.prog 13 #[.slice (some ⟨g, 0, none⟩) 1 1] w fun e w' => e = .returned (.bool true) ∧ Keep Nb w w' := by
  have HB := Lib.hid hb
  clear hb
  go_enter Tryd.func13, Tryd.ntmps13
  go_wp2_with fail
  go_loopw [3, 7] (fun n i wr => ∃ (j : Nat) (nn : Int), j ≤ 1 ∧ i = .int .i64 (j : Int) ∧ n = .int .i64 nn ∧ (j = 0 → nn = 0) ∧ Hid (Keep Nb w wr)) (fun _ i _ => 1 - (intOf i).toNat)
  case atStart => exact ⟨0, 0, by omega, rfl, rfl, fun _ => rfl, Lib.hid (Keep.refl _ _)⟩
  case round =>
    obtain ⟨j, nn, hj, rfl, rfl, h0, HR⟩ := hrel
    by_cases hj0 : j = 0
    · subst hj0
      obtain rfl := h0 rfl
      clear h0 hj
      have hb := HB.out.keep HR.out id
      have c1 := hb.cell 1 (u := .string t) rfl
      have c2 := hb.cell 2 (u := .string f) rfl
      have lb := hb.lt
      clear hb
      by_cases a1 : (10000 : Int) < (t.size : Int) <;> by_cases a2 : (10000 : Int) < (f.size : Int)
      all_goals
        go_wp2_with fail
        refine wp_region_x (by kernel_rfl) (by kernel_rfl) ?_; (repeat (go_big_quiet_step ((fail)))); refine wpQuiet_nil ?_; rintro w3 ⟨⟨_, hk3⟩, rfl⟩
        have HK3 : Hid (Keep Nb w w3) := Lib.hid (HR.out.trans hk3 (fun _ _ h => h))
        clear hk3
        go_wp2_with fail
      all_goals first
        | (exfalso; omega)
        | (go_roundw
           case rel => exact ⟨1, _, by omega, rfl, rfl, fun h => by omega, HK3⟩
           case measure => simp [intOf])
    · obtain rfl : j = 1 := by omega
      go_wp2_with fail
      go_ret
      exact ⟨rfl, HR.out⟩

set_option maxHeartbeats 4000000 in
set_option maxRecDepth 100000 in
theorem nil_any (k : Int) (t f : ByteArray) (b : Bool) (w : World) (hm : Laid0 w) :
    Calls Tryd.prog 5 #[.agg (opRow k t f b)] w fun e w' => e = .returned (.bool true) ∧ Keep Nb w w' := by
  have HM := Lib.hid hm
  clear hm
  simp only [opRow]
  go_enter Tryd.func5, Tryd.ntmps5
  go_upto_region 1 with fail
  have HB0 : Hid (Blk (w.alloc (.cells (opRow k t f b) 33)) w.heap.size (opRow k t f b) 33) := Lib.hid (Blk.new w _ _)
  have HK0 : Hid (Keep Nb w (w.alloc (.cells (opRow k t f b) 33))) := Lib.hid (Keep.alloc (Keep.refl _ _) _)
  have hx : w.alloc (.cells #[.int .u8 k, .string t, .string f, .bool b] 33) = w.alloc (.cells (opRow k t f b) 33) := rfl
  rw [hx]; clear hx
  generalize w.alloc (.cells (opRow k t f b) 33) = w1 at HB0 HK0 ⊢
  go_wp2_with fail
  refine (awake_any w1 (HM.out.keep HK0.out id)).mono ?_
  rintro e w2 ⟨rfl, hk2⟩
  have HB2 := Lib.hid (HB0.out.keep hk2 id)
  have HK2 : Hid (Keep Nb w w2) := Lib.hid (HK0.out.trans hk2 (fun _ _ h => h))
  clear hk2 HB0 HK0
  generalize w.heap.size = p at HB2
  have c0 := HB2.out.cell 0 (u := .int .u8 k) rfl
  have c1 := HB2.out.cell 1 (u := .string t) rfl
  have c2 := HB2.out.cell 2 (u := .string f) rfl
  have c3 := HB2.out.cell 3 (u := .bool b) rfl
  have HBn : Hid (Blk (w2.alloc (.cells (opRow k t f b) 33)) w2.heap.size (opRow k t f b) 33) := Lib.hid (Blk.new w2 _ _)
  have HKn : Hid (Keep Nb w2 (w2.alloc (.cells (opRow k t f b) 33))) := Lib.hid (Keep.alloc (Keep.refl _ _) _)
  go_wp2_with fail
  refine (few_one w2.heap.size k t f b _ HBn.out).mono ?_
  rintro e w3 ⟨rfl, hk3⟩
  have HB3 := Lib.hid ((HB2.out.keep HKn.out id).keep hk3 id)
  have HK3 : Hid (Keep Nb w w3) := Lib.hid ((HK2.out.trans HKn.out (fun _ _ h => h)).trans hk3 (fun _ _ h => h))
  clear hk3 HBn HKn HB2 HK2 c0 c1 c2 c3
  go_wp2_with fail
  refine (nil_next w3).mono ?_
  rintro e w4 ⟨rfl, rfl⟩
  go_wp2_with fail
  refine (nil_last w4).mono ?_
  rintro e w5 ⟨rfl, hk5⟩
  have HB5 := Lib.hid (HB3.out.keep hk5 id)
  have HK5 : Hid (Keep Nb w w5) := Lib.hid (HK3.out.trans hk5 (fun _ _ h => h))
  clear hk5 HB3 HK3
  have c1 := HB5.out.cell 1 (u := .string t) rfl
  have c2 := HB5.out.cell 2 (u := .string f) rfl
  have c3 := HB5.out.cell 3 (u := .bool b) rfl
  go_wp2_with fail
  refine (nil_lines _).mono ?_
  rintro e w6 ⟨rfl, rfl⟩
  go_wp2_with fail
  refine (nil_read _).mono ?_
  rintro e w6 ⟨rfl, rfl⟩
  go_wp2_with fail
  refine (nil_setpattern t _).mono ?_
  rintro e w6 ⟨rfl, rfl⟩
  go_wp2_with fail
  refine (nil_sethold t _).mono ?_
  rintro e w6 ⟨rfl, rfl⟩
  go_wp2_with fail
  refine (nil_print t _).mono ?_
  rintro e w6 ⟨rfl, rfl⟩
  go_wp2_with fail
  refine (nil_write f t _).mono ?_
  rintro e w6 ⟨rfl, rfl⟩
  go_wp2_with fail
  refine (nil_append t b _).mono ?_
  rintro e w6 ⟨rfl, rfl⟩
  go_wp2_with fail
  refine (nil_flush _).mono ?_
  rintro e w6 ⟨rfl, rfl⟩
  go_wp2_with fail
  refine (nil_step _).mono ?_
  rintro e w6 ⟨rfl, rfl⟩
  go_wp2_with fail
  refine (nil_output _).mono ?_
  rintro e w6 ⟨rfl, rfl⟩
  go_wp2_with fail
  refine (nil_pattern _).mono ?_
  rintro e w6 ⟨rfl, rfl⟩
  go_wp2_with fail
  refine (nil_hold _).mono ?_
  rintro e w6 ⟨rfl, rfl⟩
  go_wp2_with fail
  refine (nil_files _).mono ?_
  rintro e w6 ⟨rfl, rfl⟩
  go_wp2_with fail
  refine (nil_steps _).mono ?_
  rintro e w6 ⟨rfl, rfl⟩
  go_wp2_with fail
  go_ret
  exact ⟨rfl, HK5.out⟩

end Go.Proofs.YtnjanpejmfkopaaDoor
