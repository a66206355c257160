/- A nil reader of the program, an empty one of the reference. Printed by gen_nil13.py. -/
import Derived.Test.YtilnccjdbdcklaaDoorDo
import Derived.Test.YtilnccjdbdcklaaDoorTrim
import Derived.Test.YtilnccjdbdcklaaDoorHeld
namespace Go.Proofs.YtilnccjdbdcklaaDoor
set_option linter.unusedVariables false
set_option linter.unusedSimpArgs false
open Go.RowKit

abbrev RAt (w : World) (q : Nat) (s : ByteArray) (a : Nat) : Prop := Blk w q #[.string s, .int .i64 a] 33

theorem lays_any0 (w : World) : Calls Tryd.prog 39 #[.string ⟨#[]⟩, .string ⟨#[10, 59, 125]⟩] w fun e w' => e = .returned (.int .i64 (-1)) ∧ Keep Nb w w' :=
  (Any.strings_IndexAny_laid lays153 (by kernel_rfl) ⟨#[]⟩ ⟨#[10, 59, 125]⟩ w (by decide) (by decide) (fun j b h => by simp at h) (ascii_of (by decide))).mono fun e w' ⟨h1, h2⟩ => ⟨h1, (Keep.of_below h2).mono (fun b hb hx => by omega)⟩
theorem trimL0 (c : ByteArray) (w : World) (hc : c.size < 4294967281) (ha : c.data.toList.all (fun b => decide (b.toNat < 128)) = true) :
    Calls Tryd.prog 16 #[.string ⟨#[]⟩, .string c] w fun e w' => e = .returned (.string ⟨#[]⟩) ∧ Keep Nb w w' := trimLeft_t ⟨#[]⟩ c w hc ha
theorem trimR0 (c : ByteArray) (w : World) (hc : c.size < 4294967281) (ha : c.data.toList.all (fun b => decide (b.toNat < 128)) = true) :
    Calls Tryd.prog 40 #[.string ⟨#[]⟩, .string c] w fun e w' => e = .returned (.string ⟨#[]⟩) ∧ Keep Nb w w' := trimRight_t ⟨#[]⟩ c w (by decide) hc ha

theorem nil_rest (w : World) : Calls Tryd.prog 15 #[.pointer none] w fun e w' => e = .returned (.string ⟨#[]⟩) ∧ Keep Nb w w' := by
  go_enter Tryd.func15, Tryd.ntmps15
  go_wp2_with fail
  go_ret
  exact ⟨rfl, (Keep.refl _ _)⟩
theorem nil_end (w : World) : Calls Tryd.prog 12 #[.pointer none] w fun e w' => e = .returned (.bool true) ∧ Keep Nb w w' := by
  go_enter Tryd.func12, Tryd.ntmps12
  go_wp2_with fail
  refine (nil_rest _).mono ?_
  rintro e w2 ⟨rfl, hk2⟩
  go_wp2_with fail
  go_ret
  exact ⟨rfl, (Keep.trans (Keep.refl _ _) hk2 (fun _ _ h => h))⟩
theorem nil_peek (w : World) : Calls Tryd.prog 14 #[.pointer none] w fun e w' => e = .returned (.int .u8 0) ∧ Keep Nb w w' := by
  go_enter Tryd.func14, Tryd.ntmps14
  go_wp2_with fail
  refine (nil_end _).mono ?_
  rintro e w2 ⟨rfl, hk2⟩
  go_wp2_with fail
  go_ret
  exact ⟨rfl, (Keep.trans (Keep.refl _ _) hk2 (fun _ _ h => h))⟩
theorem nil_next (w : World) : Calls Tryd.prog 19 #[.pointer none] w fun e w' => e = .returned (.int .u8 0) ∧ Keep Nb w w' := by
  go_enter Tryd.func19, Tryd.ntmps19
  go_wp2_with fail
  refine (nil_peek _).mono ?_
  rintro e w2 ⟨rfl, hk2⟩
  go_wp2_with fail
  refine (nil_end _).mono ?_
  rintro e w3 ⟨rfl, hk3⟩
  go_wp2_with fail
  go_ret
  exact ⟨rfl, (Keep.trans (Keep.trans (Keep.refl _ _) hk2 (fun _ _ h => h)) hk3 (fun _ _ h => h))⟩
theorem nil_skip (n : Int) (w : World) : Calls Tryd.prog 17 #[.pointer none, .int .i64 n] w fun e w' => e = .returned (.tuple #[]) ∧ Keep Nb w w' := by
  go_enter Tryd.func17, Tryd.ntmps17
  go_wp2_with fail
  go_end0
  exact ⟨rfl, (Keep.refl _ _)⟩
theorem nil_at (w : World) : Calls Tryd.prog 10 #[.pointer none] w fun e w' => e = .returned (.int .i64 0) ∧ Keep Nb w w' := by
  go_enter Tryd.func10, Tryd.ntmps10
  go_wp2_with fail
  go_ret
  exact ⟨rfl, (Keep.refl _ _)⟩
theorem nil_blanks (w : World) : Calls Tryd.prog 21 #[.pointer none] w fun e w' => e = .returned (.tuple #[]) ∧ Keep Nb w w' := by
  go_enter Tryd.func21, Tryd.ntmps21
  go_wp2_with fail
  refine (nil_rest _).mono ?_
  rintro e w2 ⟨rfl, hk2⟩
  go_wp2_with fail
  refine (nil_rest _).mono ?_
  rintro e w3 ⟨rfl, hk3⟩
  go_wp2_with fail
  refine (trimL0 ⟨#[32, 9]⟩ _ (by decide) (by decide)).mono ?_
  rintro e w4 ⟨rfl, hk4⟩
  go_wp2_with fail
  refine (nil_skip _ _).mono ?_
  rintro e w5 ⟨rfl, hk5⟩
  go_wp2_with fail
  go_end0
  exact ⟨rfl, (Keep.trans (Keep.trans (Keep.trans (Keep.trans (Keep.refl _ _) hk2 (fun _ _ h => h)) hk3 (fun _ _ h => h)) hk4 (fun _ _ h => h)) hk5 (fun _ _ h => h))⟩
theorem nil_number (w : World) : Calls Tryd.prog 9 #[.pointer none] w fun e w' => e = .returned (.tuple #[.int .i64 0, .bool false]) ∧ Keep Nb w w' := by
  go_enter Tryd.func9, Tryd.ntmps9
  go_wp2_with fail
  refine (nil_rest _).mono ?_
  rintro e w2 ⟨rfl, hk2⟩
  go_wp2_with fail
  refine (trimL0 ⟨#[48, 49, 50, 51, 52, 53, 54, 55, 56, 57]⟩ _ (by decide) (by decide)).mono ?_
  rintro e w3 ⟨rfl, hk3⟩
  go_wp2_with fail
  have hk : Keep Nb w w3 := Keep.trans hk2 hk3 (fun _ _ h => h)
  have HK := Lib.hid hk
  clear hk hk2 hk3
  go_loopw [6, 17] (fun n i wr => n = .int .i64 0 ∧ i = .int .i64 0 ∧ wr = w3) (fun _ _ _ => 0)
  case atStart => exact ⟨rfl, rfl, rfl⟩
  case round =>
    obtain ⟨rfl, rfl, rfl⟩ := hrel
    go_wp2_with fail
    refine (nil_skip _ _).mono ?_
    rintro e w4 ⟨rfl, hk4⟩
    go_wp2_with fail
    go_ret2
    exact ⟨rfl, HK.out.trans hk4 (fun _ _ h => h)⟩
theorem nil_word (m : Int) (w : World) : Calls Tryd.prog 27 #[.pointer none, .int .i64 m] w fun e w' => e = .returned (.tuple #[.string ⟨#[]⟩, .bool false]) ∧ Keep Nb w w' := by
  go_enter Tryd.func27, Tryd.ntmps27
  go_wp2_with fail
  refine (nil_rest _).mono ?_
  rintro e w2 ⟨rfl, hk2⟩
  go_wp2_with fail
  refine (lays_any0 _).mono ?_
  rintro e w3 ⟨rfl, hk3⟩
  go_wp2_with fail
  refine (trimR0 ⟨#[32, 9]⟩ _ (by decide) (by decide)).mono ?_
  rintro e w4 ⟨rfl, hk4⟩
  go_wp2_with fail
  go_ret2
  exact ⟨rfl, (Keep.trans (Keep.trans (Keep.trans (Keep.refl _ _) hk2 (fun _ _ h => h)) hk3 (fun _ _ h => h)) hk4 (fun _ _ h => h))⟩
theorem nil_lines (w : World) : Calls Tryd.prog 29 #[.pointer none] w fun e w' => e = .returned (.string ⟨#[]⟩) ∧ Keep Nb w w' := by
  go_enter Tryd.func29, Tryd.ntmps29
  have HB : Hid (IsB w.heap.size w.heap.size (Lib.byteCells []) (w.alloc (.cells #[.pointer none, .slice none 0 0] 63))) := Lib.hid (new_builder w _ rfl)
  have HK : Hid (Keep Nb w (w.alloc (.cells #[.pointer none, .slice none 0 0] 63))) := Lib.hid (Keep.alloc (Keep.refl _ _) _)
  go_wp2_with fail
  go_loopw [5] (fun _ wr => wr = w.alloc (.cells #[.pointer none, .slice none 0 0] 63)) (fun _ _ => 0)
  case atStart => rfl
  case round =>
    subst hrel
    go_wp2_with fail
    refine (nil_end _).mono ?_
    rintro e w2 ⟨rfl, hk2⟩
    have HB2 := Lib.hid (HB.out.keep hk2 (fun k h => h.elim))
    have HK2 := Lib.hid (HK.out.trans hk2 (fun _ _ h => h))
    clear hk2
    go_wp2_with fail
    refine (string_any _ _ [] w2 HB2.out (HK2.out.size)).mono ?_
    rintro e w3 ⟨rfl, hb3⟩
    have HK3 : Hid (Keep Nb w w3) := Lib.hid ((Keep.trans (X := fun k => w.heap.size ≤ k) (HK2.out.mono (fun _ _ h => h.elim)) (Keep.of_below hb3) (fun _ _ h => h)).mono (fun b hb h => by omega))
    clear hb3
    go_wp2_with fail
    go_ret
    exact ⟨rfl, HK3.out⟩
theorem nil_delim (d : Int) (b : Bool) (w : World) : Calls Tryd.prog 32 #[.pointer none, .int .u8 d, .bool b] w fun e w' => e = .returned (.tuple #[.string ⟨#[]⟩, .int .i64 9]) ∧ Keep Nb w w' := by
  by_cases h1 : d = 92
  · have m1 : (d == 92) = true := by rw [h1]; rfl
    clear h1
    go_enter Tryd.func32, Tryd.ntmps32
    go_wp2_with fail
    go_ret2
    exact ⟨rfl, Keep.refl _ _⟩
  have m1 : (d == 92) = false := beq_eq_false_iff_ne.2 h1
  by_cases h2 : d = 10
  · have m2 : (d == 10) = true := by rw [h2]; rfl
    clear h1 h2
    go_enter Tryd.func32, Tryd.ntmps32
    go_wp2_with fail
    go_ret2
    exact ⟨rfl, Keep.refl _ _⟩
  have m2 : (d == 10) = false := beq_eq_false_iff_ne.2 h2
  clear h1 h2
  have HK : Hid (Keep Nb w (w.alloc (.cells #[.pointer none, .slice none 0 0] 63))) := Lib.hid (Keep.alloc (Keep.refl _ _) _)
  go_enter Tryd.func32, Tryd.ntmps32
  go_wp2_with fail
  go_loopw [9] (fun _ wr => wr = w.alloc (.cells #[.pointer none, .slice none 0 0] 63)) (fun _ _ => 0)
  case atStart => rfl
  case round =>
    subst hrel
    go_wp2_with fail
    refine (nil_peek _).mono ?_
    rintro e w2 ⟨rfl, hk2⟩
    have HK2 := Lib.hid (HK.out.trans hk2 (fun _ _ h => h))
    clear hk2
    go_wp2_with fail
    refine (nil_end _).mono ?_
    rintro e w3 ⟨rfl, hk3⟩
    have HK3 := Lib.hid (HK2.out.trans hk3 (fun _ _ h => h))
    clear hk3
    go_wp2_with fail
    go_ret2
    exact ⟨rfl, HK3.out⟩
theorem nil_pattern (d : Int) (w : World) : Calls Tryd.prog 13 #[.pointer none, .int .u8 d] w fun e w' => e = .returned (.tuple #[.string ⟨#[]⟩, .int .i64 9]) ∧ Keep Nb w w' := by
  go_enter Tryd.func13, Tryd.ntmps13
  go_wp2_with fail
  refine (nil_delim d true _).mono ?_
  rintro e w2 ⟨rfl, hk2⟩
  go_wp2_with fail
  go_ret2
  exact ⟨rfl, (Keep.trans (Keep.refl _ _) hk2 (fun _ _ h => h))⟩
theorem nil_replacement (d : Int) (w : World) : Calls Tryd.prog 25 #[.pointer none, .int .u8 d] w fun e w' => e = .returned (.tuple #[.string ⟨#[]⟩, .int .i64 9]) ∧ Keep Nb w w' := by
  go_enter Tryd.func25, Tryd.ntmps25
  go_wp2_with fail
  refine (nil_delim d false _).mono ?_
  rintro e w2 ⟨rfl, hk2⟩
  go_wp2_with fail
  go_ret2
  exact ⟨rfl, (Keep.trans (Keep.refl _ _) hk2 (fun _ _ h => h))⟩
set_option maxRecDepth 100000 in
theorem e_end (q : Nat) (w : World) (hb : RAt w q ⟨#[]⟩ 0) : Calls Tryd.prog 31 #[.pointer (some ⟨q, 0, none⟩)] w fun e w' => e = .returned (.bool true) ∧ Keep Nb w w' := by
  have c0 := hb.cell 0 (u := .string ⟨#[]⟩) rfl
  have c1 := hb.cell 1 (u := .int .i64 ((0 : Nat) : Int)) rfl
  have lq := hb.lt
  go_enter Tryd.func31, Tryd.ntmps31
  go_wp2_with fail
  refine wp_region_x (by kernel_rfl) (by kernel_rfl) ?_; (repeat (go_big_quiet_step ((fail)))); refine wpQuiet_nil ?_; rintro w3 ⟨⟨_, hk3⟩, rfl⟩
  go_wp2_with fail
  go_ret
  exact ⟨rfl, hk3⟩
set_option maxRecDepth 100000 in
theorem e_peek (q : Nat) (w : World) (hb : RAt w q ⟨#[]⟩ 0) : Calls Tryd.prog 18 #[.pointer (some ⟨q, 0, none⟩)] w fun e w' => e = .returned (.int .u8 0) ∧ Keep Nb w w' := by
  go_enter Tryd.func18, Tryd.ntmps18
  go_wp2_with fail
  refine (e_end q w hb).mono ?_
  rintro e w2 ⟨rfl, hk2⟩
  go_wp2_with fail
  go_ret
  exact ⟨rfl, hk2⟩
set_option maxRecDepth 100000 in
theorem e_next (q : Nat) (w : World) (hb : RAt w q ⟨#[]⟩ 0) : Calls Tryd.prog 20 #[.pointer (some ⟨q, 0, none⟩)] w fun e w' => e = .returned (.int .u8 0) ∧ Keep Nb w w' := by
  go_enter Tryd.func20, Tryd.ntmps20
  go_wp2_with fail
  refine (e_peek q w hb).mono ?_
  rintro e w2 ⟨rfl, hk2⟩
  go_wp2_with fail
  refine (e_end q w2 (hb.keep hk2 id)).mono ?_
  rintro e w3 ⟨rfl, hk3⟩
  go_wp2_with fail
  go_ret
  exact ⟨rfl, hk2.trans hk3 (fun _ _ h => h)⟩
set_option maxRecDepth 100000 in
theorem e_blanks (q : Nat) (w : World) (hb : RAt w q ⟨#[]⟩ 0) : Calls Tryd.prog 22 #[.pointer (some ⟨q, 0, none⟩)] w fun e w' => e = .returned (.tuple #[]) ∧ Keep Nb w w' := by
  have HB := Lib.hid hb
  clear hb
  go_enter Tryd.func22, Tryd.ntmps22
  go_wp2_with fail
  go_loopw [3] (fun _ wr => wr = w) (fun _ _ => 0)
  case atStart => rfl
  case round =>
    subst hrel
    go_wp2_with fail
    refine (e_peek q wr HB.out).mono ?_
    rintro e w2 ⟨rfl, hk2⟩
    go_wp2_with fail
    refine (e_peek q w2 (HB.out.keep hk2 id)).mono ?_
    rintro e w3 ⟨rfl, hk3⟩
    go_wp2_with fail
    go_end0
    exact ⟨rfl, hk2.trans hk3 (fun _ _ h => h)⟩
set_option maxRecDepth 100000 in
theorem e_number (q : Nat) (w : World) (hb : RAt w q ⟨#[]⟩ 0) : Calls Tryd.prog 23 #[.pointer (some ⟨q, 0, none⟩)] w fun e w' => e = .returned (.tuple #[.int .i64 0, .bool false]) ∧ Keep Nb w w' := by
  have c0 := hb.cell 0 (u := .string ⟨#[]⟩) rfl
  have c1 := hb.cell 1 (u := .int .i64 ((0 : Nat) : Int)) rfl
  have lq := hb.lt
  go_enter Tryd.func23, Tryd.ntmps23
  go_wp2_with fail
  refine wp_region_x (by kernel_rfl) (by kernel_rfl) ?_; (repeat (go_big_quiet_step ((fail)))); refine wpQuiet_nil ?_; rintro w3 ⟨⟨_, hk3⟩, rfl⟩
  have hb3 := hb.keep hk3 id
  have d0 := hb3.cell 0 (u := .string ⟨#[]⟩) rfl
  have d1 := hb3.cell 1 (u := .int .i64 ((0 : Nat) : Int)) rfl
  have lr := hb3.lt
  have HK3 := Lib.hid hk3
  clear hk3 hb hb3 c0 c1 lq
  go_wp2_with fail
  go_loopw [4, 5] (fun n i wr => n = .int .i64 0 ∧ i = .int .i64 0 ∧ wr = w3) (fun _ _ _ => 0)
  case atStart => exact ⟨rfl, rfl, rfl⟩
  case round =>
    obtain ⟨rfl, rfl, rfl⟩ := hrel
    go_wp2_with fail
    go_ret2
    exact ⟨rfl, HK3.out⟩
set_option maxRecDepth 100000 in
theorem e_word (q : Nat) (m : Int) (w : World) (hb : RAt w q ⟨#[]⟩ 0) : Calls Tryd.prog 28 #[.pointer (some ⟨q, 0, none⟩), .int .i64 m] w fun e w' => e = .returned (.tuple #[.string ⟨#[]⟩, .bool false]) ∧ Keep Nb w w' := by
  have c0 := hb.cell 0 (u := .string ⟨#[]⟩) rfl
  have c1 := hb.cell 1 (u := .int .i64 ((0 : Nat) : Int)) rfl
  have lq := hb.lt
  go_enter Tryd.func28, Tryd.ntmps28
  go_wp2_with fail
  have HB := Lib.hid hb
  clear hb
  go_loopw [6] (fun i wr => i = .int .i64 0 ∧ wr = w) (fun _ _ => 0)
  case atStart => exact ⟨rfl, rfl⟩
  case round =>
    obtain ⟨rfl, rfl⟩ := hrel
    go_wp2_with fail
    refine wp_region_x (by kernel_rfl) (by kernel_rfl) ?_; (repeat (go_big_quiet_step ((fail)))); refine wpQuiet_nil ?_; rintro w3 ⟨⟨_, hk3⟩, rfl⟩
    go_wp2_with fail
    go_loopw [7] (fun i wr2 => i = .string ⟨#[]⟩ ∧ wr2 = w3) (fun _ _ => 0)
    case atStart => exact ⟨rfl, rfl⟩
    case round =>
      obtain ⟨rfl, rfl⟩ := hrel
      go_wp2_with fail
      go_ret2
      exact ⟨rfl, hk3⟩
set_option maxRecDepth 100000 in
theorem e_lines (q : Nat) (w : World) (hb : RAt w q ⟨#[]⟩ 0) : Calls Tryd.prog 30 #[.pointer (some ⟨q, 0, none⟩)] w fun e w' => e = .returned (.string ⟨#[]⟩) ∧ Keep Nb w w' := by
  have HB := Lib.hid hb
  clear hb
  go_enter Tryd.func30, Tryd.ntmps30
  go_wp2_with fail
  go_loopw [3] (fun o wr => o = .string ⟨#[]⟩ ∧ wr = w) (fun _ _ => 0)
  case atStart => exact ⟨rfl, rfl⟩
  case round =>
    obtain ⟨rfl, rfl⟩ := hrel
    go_wp2_with fail
    refine (e_end q wr HB.out).mono ?_
    rintro e w2 ⟨rfl, hk2⟩
    go_wp2_with fail
    go_ret
    exact ⟨rfl, hk2⟩
set_option maxRecDepth 100000 in
theorem e_delim (q : Nat) (d : Int) (b : Bool) (w : World) (hb : RAt w q ⟨#[]⟩ 0) : Calls Tryd.prog 38 #[.pointer (some ⟨q, 0, none⟩), .int .u8 d, .bool b] w fun e w' => e = .returned (.tuple #[.string ⟨#[]⟩, .int .i64 9]) ∧ RAt w' q ⟨#[]⟩ 0 ∧ Keep (Ob q) w w' := by
  by_cases h1 : d = 92
  · have m1 : (d == 92) = true := by rw [h1]; rfl
    clear h1
    go_enter Tryd.func38, Tryd.ntmps38
    go_wp2_with fail
    go_ret2
    exact ⟨rfl, hb, Keep.refl _ _⟩
  have m1 : (d == 92) = false := beq_eq_false_iff_ne.2 h1
  by_cases h2 : d = 10
  · have m2 : (d == 10) = true := by rw [h2]; rfl
    clear h1 h2
    go_enter Tryd.func38, Tryd.ntmps38
    go_wp2_with fail
    go_ret2
    exact ⟨rfl, hb, Keep.refl _ _⟩
  have m2 : (d == 10) = false := beq_eq_false_iff_ne.2 h2
  clear h1 h2
  have c0 := hb.cell 0 (u := .string ⟨#[]⟩) rfl
  have c1 := hb.cell 1 (u := .int .i64 ((0 : Nat) : Int)) rfl
  have lq := hb.lt
  have f1 := hb.frozen 1
  have HB := Lib.hid hb
  clear hb
  go_enter Tryd.func38, Tryd.ntmps38
  go_wp2_with fail
  go_loopw [8, 9] (fun o i wr => o = .string ⟨#[]⟩ ∧ i = .int .i64 0 ∧ wr = w) (fun _ _ _ => 0)
  case atStart => exact ⟨rfl, rfl, rfl⟩
  case round =>
    obtain ⟨rfl, rfl, rfl⟩ := hrel
    go_wp2_with fail
    go_ret2
    exact ⟨rfl, HB.out.set 1 _, Keep.setOb _ _ _ _⟩
set_option maxRecDepth 100000 in
theorem e_pattern (q : Nat) (d : Int) (w : World) (hb : RAt w q ⟨#[]⟩ 0) : Calls Tryd.prog 24 #[.pointer (some ⟨q, 0, none⟩), .int .u8 d] w fun e w' => e = .returned (.tuple #[.string ⟨#[]⟩, .int .i64 9]) ∧ RAt w' q ⟨#[]⟩ 0 ∧ Keep (Ob q) w w' := by
  go_enter Tryd.func24, Tryd.ntmps24
  go_wp2_with fail
  refine (e_delim q d true w hb).mono ?_
  rintro e w2 ⟨rfl, hb2, hk2⟩
  have HB2 := Lib.hid hb2
  clear hb2
  go_wp2_with fail
  go_ret2
  exact ⟨rfl, HB2.out, hk2⟩
set_option maxRecDepth 100000 in
theorem e_replacement (q : Nat) (d : Int) (w : World) (hb : RAt w q ⟨#[]⟩ 0) : Calls Tryd.prog 26 #[.pointer (some ⟨q, 0, none⟩), .int .u8 d] w fun e w' => e = .returned (.tuple #[.string ⟨#[]⟩, .int .i64 9]) ∧ RAt w' q ⟨#[]⟩ 0 ∧ Keep (Ob q) w w' := by
  go_enter Tryd.func26, Tryd.ntmps26
  go_wp2_with fail
  refine (e_delim q d false w hb).mono ?_
  rintro e w2 ⟨rfl, hb2, hk2⟩
  have HB2 := Lib.hid hb2
  clear hb2
  go_wp2_with fail
  go_ret2
  exact ⟨rfl, HB2.out, hk2⟩

end Go.Proofs.YtilnccjdbdcklaaDoor
