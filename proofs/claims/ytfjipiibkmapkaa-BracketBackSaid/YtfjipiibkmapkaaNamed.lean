/- A byte between two signs in brackets: named. -/
import Derived.Test.YtfjipiibkmapkaaSpec
namespace Go.Proofs.Ytfjipiibkmapkaa
set_option linter.unusedVariables false
set_option linter.unusedSimpArgs false
open Go.RowKit

theorem add_okk (x y : ByteArray) (h : x.size + y.size ≤ 1000000) : Op.stringOp .add x y = pure (.string (x ++ y)) := by
  have : ¬ (((x.size + y.size : Nat) : Int) > IntKind.i64.max) := by
    have : IntKind.i64.max = 9223372036854775807 := rfl
    omega
  simp only [Op.stringOp, this, if_false]
theorem two_toList (c d : UInt8) : (⟨#[c]⟩ ++ ⟨#[d]⟩ : ByteArray).toList = [c, d] := by
  rw [ByteArray.toList_eq]; simp
theorem ext_toList (s : ByteArray) (a b : Nat) : (s.extract a b).toList = (s.toList.drop a).take (b - a) := by
  rw [ByteArray.toList_eq, ByteArray.toList_eq]
  simp [ByteArray.data_extract]
theorem take_two {l : List UInt8} {n : Nat} {d e : UInt8} (h1 : l[n]? = some d) (h2 : l[n + 1]? = some e) : (l.drop n).take 2 = [d, e] := by
  obtain ⟨g1, e1⟩ := List.getElem?_eq_some_iff.1 h1
  obtain ⟨g2, e2⟩ := List.getElem?_eq_some_iff.1 h2
  rw [List.drop_eq_getElem_cons g1, List.drop_eq_getElem_cons g2, e1, e2]
  rfl

set_option maxRecDepth 100000 in
set_option maxHeartbeats 1000000 in
theorem named_ok (p : Nat) (s : ByteArray) (a : Nat) (c x : UInt8) (hf : namedF c (s.toList.drop a) = some x) (ha : a ≤ s.size) (hz : s.size ≤ 1000000) (w : World) (hb : RdAt w p s a) :
    Calls Try.prog 34 #[.pointer (some ⟨p, 0, none⟩), .string ⟨#[c]⟩] w fun e w' => e = .returned (.tuple #[.int .u8 x.toNat, .bool true]) ∧ RdAt w' p s (a + 5) ∧ Keep (Ob p) w w' := by
  obtain ⟨h5, h2, h10, h3, h4⟩ := namedF_some hf
  rw [List.length_drop, toList_len] at h5
  have hR : (s.extract a s.size).toList = s.toList.drop a := extract_toList s a
  have hS : (s.extract a s.size).size = s.size - a := extract_size s a
  rw [← hR] at h2 h3 h4
  have hbX := hb
  have c0 := hb.cell 0 (u := .string s) rfl
  have c1 := hb.cell 1 (u := .int .i64 a) rfl
  have hl := hb.lt
  have g0 : (0 : Int) ≤ (a : Int) := by omega
  have g1 : (a : Int) ≤ (s.size : Int) := by omega
  clear hf hR
  go_enter Try.func34, Try.ntmps34
  go_wp2_with fail
  refine wp_region_x (by kernel_rfl) (by kernel_rfl) ?_; (repeat (go_big_quiet_step ((fail)))); refine wpQuiet_nil ?_; rintro w3 ⟨⟨_, hk3⟩, rfl⟩
  generalize s.extract a s.size = R at *
  have hb3 := hbX.keep hk3 id
  clear c0 c1 hbX hb hl g0 g1
  have c0 := hb3.cell 0 (u := .string s) rfl
  have c1 := hb3.cell 1 (u := .int .i64 a) rfl
  have f1 := hb3.frozen 1
  have hl := hb3.lt
  obtain ⟨b2, e2⟩ := byte_at h2
  have m10 : ((x.toNat : Int) == 10) = false := u8_ne (n := 10) (by omega) h10
  have q1 : decide ((R.size : Int) < 5) = false := by simp; omega
  have q2 : decide (R.size < 5) = false := by simp; omega
  have q3 : (2 : Int) < (R.size : Int) := by omega
  have q4 : (5 : Int) ≤ (R.size : Int) := by omega
  have q5 : 5 ≤ R.size := by omega
  have ad := add_okk ⟨#[c]⟩ ⟨#[93]⟩ (by show 1 + 1 ≤ 1000000; decide)
  have eq : ((R.extract 3 5).toList == (⟨#[c]⟩ ++ ⟨#[93]⟩ : ByteArray).toList) = true := by
    rw [two_toList, ext_toList, take_two h3 h4]; simp
  have hb5 := RdAt.moved hb3 5
  have hK5 : Keep (Ob p) w (w3.setCell ⟨p, 1, none⟩ (.int .i64 ((a : Int) + ((5 : Nat) : Int)))) := Keep.setCell (X := Ob p) (p := ⟨p, 1, none⟩) (hk3.mono fun _ _ h => h.elim) (Or.inr rfl) _
  rw [show ((a : Int) + ((5 : Nat) : Int)) = (a : Int) + 5 from rfl] at hb5 hK5
  have HB5 := Lib.hid hb5
  have HK5 := Lib.hid hK5
  clear hb5 hK5 h2 h3 h4 hb3
  have wr : wrap64 ((a : Int) + 5) = (a : Int) + 5 := by unfold wrap64; omega
  go_wp2_with fail
  go_ret2
  exact ⟨rfl, HB5.out, HK5.out⟩

set_option maxRecDepth 100000 in
set_option maxHeartbeats 1000000 in
theorem named_bad (p : Nat) (s : ByteArray) (a : Nat) (c : UInt8) (hf : namedF c (s.toList.drop a) = none) (ha : a ≤ s.size) (hz : s.size ≤ 1000000) (w : World) (hb : RdAt w p s a) :
    Calls Try.prog 34 #[.pointer (some ⟨p, 0, none⟩), .string ⟨#[c]⟩] w fun e w' => e = .returned (.tuple #[.int .u8 0, .bool false]) ∧ Keep Nb w w' := by
  have hR : (s.extract a s.size).toList = s.toList.drop a := extract_toList s a
  have hS : (s.extract a s.size).size = s.size - a := extract_size s a
  have hbX := hb
  have c0 := hb.cell 0 (u := .string s) rfl
  have c1 := hb.cell 1 (u := .int .i64 a) rfl
  have hl := hb.lt
  have g0 : (0 : Int) ≤ (a : Int) := by omega
  have g1 : (a : Int) ≤ (s.size : Int) := by omega
  rcases namedF_none hf with h5 | h2 | ⟨x, d, e, h2, h10, h3, h4, h5, hne⟩
  · rw [List.length_drop, toList_len] at h5
    clear hf hR
    go_enter Try.func34, Try.ntmps34
    go_wp2_with fail
    refine wp_region_x (by kernel_rfl) (by kernel_rfl) ?_; (repeat (go_big_quiet_step ((fail)))); refine wpQuiet_nil ?_; rintro w3 ⟨⟨_, hk3⟩, rfl⟩
    generalize s.extract a s.size = R at *
    have q1 : decide ((R.size : Int) < 5) = true := by simp; omega
    have q2 : decide (R.size < 5) = true := by simp; omega
    clear c0 c1
    go_wp2_with fail
    go_ret2
    exact ⟨rfl, hk3⟩
  · rw [← hR] at h2
    by_cases h5 : (s.extract a s.size).size < 5
    · clear hf hR h2
      go_enter Try.func34, Try.ntmps34
      go_wp2_with fail
      refine wp_region_x (by kernel_rfl) (by kernel_rfl) ?_; (repeat (go_big_quiet_step ((fail)))); refine wpQuiet_nil ?_; rintro w3 ⟨⟨_, hk3⟩, rfl⟩
      generalize s.extract a s.size = R at *
      have q1 : decide ((R.size : Int) < 5) = true := by simp; omega
      have q2 : decide (R.size < 5) = true := by simp; omega
      clear c0 c1
      go_wp2_with fail
      go_ret2
      exact ⟨rfl, hk3⟩
    · clear hf hR
      go_enter Try.func34, Try.ntmps34
      go_wp2_with fail
      refine wp_region_x (by kernel_rfl) (by kernel_rfl) ?_; (repeat (go_big_quiet_step ((fail)))); refine wpQuiet_nil ?_; rintro w3 ⟨⟨_, hk3⟩, rfl⟩
      generalize s.extract a s.size = R at *
      obtain ⟨b2, e2⟩ := byte_at h2
      have q1 : decide ((R.size : Int) < 5) = false := by simp; omega
      have q2 : decide (R.size < 5) = false := by simp; omega
      have q3 : (2 : Int) < (R.size : Int) := by omega
      clear c0 c1
      go_wp2_with fail
      go_ret2
      exact ⟨rfl, hk3⟩
  · rw [List.length_drop, toList_len] at h5
    rw [← hR] at h2 h3 h4
    clear hf hR
    go_enter Try.func34, Try.ntmps34
    go_wp2_with fail
    refine wp_region_x (by kernel_rfl) (by kernel_rfl) ?_; (repeat (go_big_quiet_step ((fail)))); refine wpQuiet_nil ?_; rintro w3 ⟨⟨_, hk3⟩, rfl⟩
    generalize s.extract a s.size = R at *
    obtain ⟨b2, e2⟩ := byte_at h2
    have m10 : ((x.toNat : Int) == 10) = false := u8_ne (n := 10) (by omega) h10
    have q1 : decide ((R.size : Int) < 5) = false := by simp; omega
    have q2 : decide (R.size < 5) = false := by simp; omega
    have q3 : (2 : Int) < (R.size : Int) := by omega
    have q4 : (5 : Int) ≤ (R.size : Int) := by omega
    have q5 : 5 ≤ R.size := by omega
    have ad := add_okk ⟨#[c]⟩ ⟨#[93]⟩ (by show 1 + 1 ≤ 1000000; decide)
    have eq : ((R.extract 3 5).toList == (⟨#[c]⟩ ++ ⟨#[93]⟩ : ByteArray).toList) = false := by
      rw [two_toList, ext_toList, take_two h3 h4]
      refine beq_eq_false_iff_ne.2 fun e => hne ?_
      simp at e
      exact e
    clear c0 c1 h2 h3 h4 hne h10
    go_wp2_with fail
    go_ret2
    exact ⟨rfl, hk3⟩

end Go.Proofs.Ytfjipiibkmapkaa
