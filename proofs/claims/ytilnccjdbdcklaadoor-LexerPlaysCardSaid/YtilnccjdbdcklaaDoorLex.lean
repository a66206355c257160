/- The lexer's small functions: rest, End, Peek, Next, skip, At, New. -/
import Derived.Test.YtilnccjdbdcklaaDoorQuiet
namespace Go.Proofs.YtilnccjdbdcklaaDoor
set_option linter.unusedVariables false
set_option linter.unusedSimpArgs false
open Go.RowKit

/-- In block p lies a lexer of script s, at place a. -/
abbrev LexAt (w : World) (p : Nat) (s : ByteArray) (a : Nat) : Prop := Blk w p #[.string s, .int .i64 a] 45

theorem extract_toList (s : ByteArray) (a : Nat) : (s.extract a s.size).toList = s.toList.drop a := by
  rw [ByteArray.toList_eq, ByteArray.toList_eq]
  simp [ByteArray.data_extract]
  refine List.take_of_length_le ?_
  rw [List.length_drop]
  exact Nat.le_refl _

theorem toList_len (s : ByteArray) : s.toList.length = s.size := by rw [ByteArray.toList_eq]; rfl

theorem LexAt.moved {w : World} {p : Nat} {s : ByteArray} {a : Nat} (h : LexAt w p s a) (n : Nat) : LexAt (w.setCell ⟨p, 1, none⟩ (.int .i64 ((a : Int) + (n : Int)))) p s (a + n) := by
  have h1 := Blk.set h 1 (.int .i64 ((a : Int) + (n : Int)))
  have e : ((a + n : Nat) : Int) = (a : Int) + (n : Int) := by omega
  unfold LexAt
  rw [e]
  exact h1

theorem rest_any (p : Nat) (s : ByteArray) (a : Nat) (w : World) (hb : LexAt w p s a) (ha : a ≤ s.size) :
    Calls Tryd.prog 15 #[.pointer (some ⟨p, 0, none⟩)] w fun e w' => e = .returned (.string (s.extract a s.size)) ∧ Keep Nb w w' := by
  have c0 := hb.cell 0 (u := .string s) rfl
  have c1 := hb.cell 1 (u := .int .i64 a) rfl
  have hl := hb.lt
  have h0 : (0 : Int) ≤ (a : Int) := by omega
  have h1 : (a : Int) ≤ (s.size : Int) := by omega
  go_enter Tryd.func15, Tryd.ntmps15
  go_wp2_with fail
  refine wp_region_x (by kernel_rfl) (by kernel_rfl) ?_; (repeat (go_big_quiet_step ((fail)))); refine wpQuiet_nil ?_; rintro w3 ⟨⟨_, hk3⟩, rfl⟩
  go_wp2_with fail
  go_ret
  exact ⟨rfl, hk3⟩

theorem end_any (p : Nat) (s : ByteArray) (a : Nat) (w : World) (hb : LexAt w p s a) (ha : a ≤ s.size) :
    Calls Tryd.prog 12 #[.pointer (some ⟨p, 0, none⟩)] w fun e w' => e = .returned (.bool (decide (a = s.size))) ∧ Keep Nb w w' := by
  have hr := rest_any p s a w hb ha
  have hx : ((s.extract a s.size).toList == []) = decide (a = s.size) := by
    rw [extract_toList, Bool.eq_iff_iff]
    simp [List.drop_eq_nil_iff, toList_len]
    omega
  generalize s.extract a s.size = x at hr hx
  generalize decide (a = s.size) = R at hx
  have HR := Lib.hid hr; clear hr
  go_enter Tryd.func12, Tryd.ntmps12
  go_wp2_with fail
  refine HR.out.mono ?_
  rintro e w2 ⟨rfl, hk⟩
  go_wp2_with fail
  go_ret
  exact ⟨rfl, hk⟩

theorem peek_some (p : Nat) (s : ByteArray) (a : Nat) (w : World) (hb : LexAt w p s a) (ha : a < s.size) :
    Calls Tryd.prog 14 #[.pointer (some ⟨p, 0, none⟩)] w fun e w' => e = .returned (.int .u8 s[a].toNat) ∧ Keep Nb w w' := by
  have hr := end_any p s a w hb (Nat.le_of_lt ha)
  rw [decide_eq_false (by omega)] at hr
  have HR := Lib.hid hr; clear hr
  go_enter Tryd.func14, Tryd.ntmps14
  go_wp2_with fail
  refine HR.out.mono ?_
  rintro e w2 ⟨rfl, hk⟩
  have hb2 := hb.keep hk id
  have c0 := hb2.cell 0 (u := .string s) rfl
  have c1 := hb2.cell 1 (u := .int .i64 a) rfl
  have hl := hb2.lt
  have h0 : (0 : Int) ≤ (a : Int) := by omega
  have h1 : (a : Int) < (s.size : Int) := by omega
  go_wp2_with fail
  refine wp_region_x (by kernel_rfl) (by kernel_rfl) ?_; (repeat (go_big_quiet_step ((fail)))); refine wpQuiet_nil ?_; rintro w3 ⟨⟨_, hk3⟩, rfl⟩
  go_wp2_with fail
  go_ret
  exact ⟨rfl, hk.trans hk3 (fun _ _ h => h)⟩

theorem peek_end (p : Nat) (s : ByteArray) (w : World) (hb : LexAt w p s s.size) :
    Calls Tryd.prog 14 #[.pointer (some ⟨p, 0, none⟩)] w fun e w' => e = .returned (.int .u8 0) ∧ Keep Nb w w' := by
  have hr := end_any p s s.size w hb (Nat.le_refl _)
  rw [decide_eq_true rfl] at hr
  have HR := Lib.hid hr; clear hr
  go_enter Tryd.func14, Tryd.ntmps14
  go_wp2_with fail
  refine HR.out.mono ?_
  rintro e w2 ⟨rfl, hk⟩
  go_wp2_with fail
  go_ret
  exact ⟨rfl, hk⟩

theorem next_some (p : Nat) (s : ByteArray) (a : Nat) (w : World) (hb : LexAt w p s a) (ha : a < s.size) (hs : s.size ≤ 1000000) :
    Calls Tryd.prog 19 #[.pointer (some ⟨p, 0, none⟩)] w fun e w' => e = .returned (.int .u8 s[a].toNat) ∧ LexAt w' p s (a + 1) ∧ Keep (Ob p) w w' := by
  have hr := fun wx hx => peek_some p s a wx hx ha
  have he := fun wx hx => end_any p s a wx hx (Nat.le_of_lt ha)
  rw [decide_eq_false (by omega)] at he
  have HR := Lib.hid hr; clear hr
  have HE := Lib.hid he; clear he
  generalize s[a] = c at HR
  go_enter Tryd.func19, Tryd.ntmps19
  go_wp2_with fail
  refine (HR.out _ hb).mono ?_
  rintro e w2 ⟨rfl, hk⟩
  have hb2 := hb.keep hk id
  go_wp2_with fail
  refine (HE.out _ hb2).mono ?_
  rintro e w3 ⟨rfl, hk3⟩
  have hb3 := hb2.keep hk3 id
  have hk3' := hk.trans hk3 (fun _ _ h => h)
  have c0 := hb3.cell 0 (u := .string s) rfl
  have c1 := hb3.cell 1 (u := .int .i64 a) rfl
  have f1 := hb3.frozen 1
  have hl := hb3.lt
  go_wp2_with fail
  go_ret
  refine ⟨rfl, ?_, ?_⟩
  · exact LexAt.moved hb3 1
  · exact Keep.setCell (X := Ob p) (p := ⟨p, 1, none⟩) (hk3'.mono fun _ _ h => h.elim) (Or.inr rfl) _

theorem skip_any (p : Nat) (s : ByteArray) (a n : Nat) (w : World) (hb : LexAt w p s a) (ha : a ≤ 1000000) (hs : n ≤ 1000000) :
    Calls Tryd.prog 17 #[.pointer (some ⟨p, 0, none⟩), .int .i64 n] w fun e w' => e = .returned (.tuple #[]) ∧ LexAt w' p s (a + n) ∧ Keep (Ob p) w w' := by
  have c0 := hb.cell 0 (u := .string s) rfl
  have c1 := hb.cell 1 (u := .int .i64 a) rfl
  have f1 := hb.frozen 1
  have hl := hb.lt
  go_enter Tryd.func17, Tryd.ntmps17
  go_wp2_with fail
  go_end0
  refine ⟨rfl, ?_, ?_⟩
  · exact LexAt.moved hb n
  · exact Keep.setOb _ _ _ _

theorem at_any (p : Nat) (s : ByteArray) (a : Nat) (w : World) (hb : LexAt w p s a) :
    Calls Tryd.prog 10 #[.pointer (some ⟨p, 0, none⟩)] w fun e w' => e = .returned (.int .i64 a) ∧ Keep Nb w w' := by
  have c1 := hb.cell 1 (u := .int .i64 a) rfl
  go_enter Tryd.func10, Tryd.ntmps10
  go_wp2_with fail
  go_ret
  exact ⟨rfl, Keep.refl _ _⟩

theorem new_any (s : ByteArray) (w : World) :
    Calls Tryd.prog 8 #[.string s] w fun e w' => ∃ p, e = .returned (.pointer (some ⟨p, 0, none⟩)) ∧ w.heap.size ≤ p ∧ LexAt w' p s 0 ∧ Keep Nb w w' := by
  go_enter Tryd.func8, Tryd.ntmps8
  go_wp2_with fail
  go_ret
  exact ⟨w.heap.size, rfl, Nat.le_refl _, Blk.new w _ _, Keep.alloc (Keep.refl _ _) _⟩

end Go.Proofs.YtilnccjdbdcklaaDoor
