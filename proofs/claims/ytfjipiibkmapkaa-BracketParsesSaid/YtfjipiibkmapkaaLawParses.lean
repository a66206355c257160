/- For every input BracketParses returns true. -/
import Derived.Test.YtfjipiibkmapkaaPAny
import Derived.Test.YtfjipiibkmapkaaEqS
namespace Go.Proofs.Ytfjipiibkmapkaa
set_option linter.unusedVariables false
set_option linter.unusedSimpArgs false
open Go.RowKit
attribute [local go_sem] eqi24 eqi26 setEq_self

theorem parses_long (s : ByteArray) (a : Int) (h : 2000 < s.size) (w : World) :
    Calls Try.prog 5 #[.string s, .int .i64 a] w fun e w' => e = .returned (.bool true) ∧ Keep Nb w w' := by
  have m1 : decide (2000 < (s.size : Int)) = true := by simp; omega
  clear h
  go_enter Try.func5, Try.ntmps5
  go_wp2_with fail
  refine (awake_any _).mono ?_
  rintro e w2 ⟨rfl, hk2⟩
  go_wp2_with fail
  refine (awake_any _).mono ?_
  rintro e w3 ⟨rfl, hk3⟩
  go_wp2_with fail
  go_ret
  exact ⟨rfl, hk2.trans hk3 (fun _ _ h => h)⟩

set_option maxRecDepth 100000 in
set_option maxHeartbeats 1000000 in
theorem parses_short (s : ByteArray) (a : Int) (h : s.size ≤ 2000) (w : World) (hm : Laid0 w) :
    Calls Try.prog 5 #[.string s, .int .i64 a] w fun e w' => e = .returned (.bool true) ∧ Keep Nb w w' := by
  have m1 : decide (2000 < (s.size : Int)) = false := by simp; omega
  have HT := Lib.hid (fun wx (hx : Laid0 wx) => parse_t s a (by omega) wx hx)
  have HR := Lib.hid (fun wx => bracket_r s a (by omega) wx)
  obtain ⟨f, n, x, hv⟩ := parseV_of s.toList a
  rw [hv] at HT HR
  clear h hv
  have HL := Lib.hid hm
  clear hm
  simp only [setRow] at HT HR
  go_enter Try.func5, Try.ntmps5
  go_wp2_with fail
  refine (awake_any _).mono ?_
  rintro e w2 ⟨rfl, hk2⟩
  have HL2 := Lib.hid (HL.out.keep hk2 id)
  go_wp2_with fail
  refine (HT.out _ HL2.out).mono ?_
  rintro e w3 ⟨rfl, hk3⟩
  have hb3 : Blk (w3.alloc (.cells (setRow f) 26)) w3.heap.size (setRow f) 26 := Blk.new w3 _ _
  have hk3' : Keep Nb w (w3.alloc (.cells (setRow f) 26)) := Keep.alloc (hk2.trans hk3 (fun _ _ h => h)) _
  simp only [setRow] at hb3 hk3'
  go_wp2_with fail
  refine (HR.out _).mono ?_
  rintro e w4 ⟨rfl, hk4⟩
  have hb4 := (hb3.keep hk4 id).alloc (.cells (setRow f) 24)
  have hr4 : Blk (w4.alloc (.cells (setRow f) 24)) w4.heap.size (setRow f) 24 := Blk.new w4 _ _
  have hk5 : Keep Nb w (w4.alloc (.cells (setRow f) 24)) := Keep.alloc (hk3'.trans hk4 (fun _ _ h => h)) _
  have c0 := hb4.cell 0 (u := .int .u64 (f 0)) rfl
  have c1 := hb4.cell 1 (u := .int .u64 (f 1)) rfl
  have c2 := hb4.cell 2 (u := .int .u64 (f 2)) rfl
  have c3 := hb4.cell 3 (u := .int .u64 (f 3)) rfl
  have d0 := hr4.cell 0 (u := .int .u64 (f 0)) rfl
  have d1 := hr4.cell 1 (u := .int .u64 (f 1)) rfl
  have d2 := hr4.cell 2 (u := .int .u64 (f 2)) rfl
  have d3 := hr4.cell 3 (u := .int .u64 (f 3)) rfl
  simp only [setRow] at hk5 c0 c1 c2 c3 d0 d1 d2 d3
  clear hb3 hk3' hb4 hr4
  go_wp2_with fail
  go_ret
  exact ⟨rfl, hk5⟩

theorem lawparses_any (s : ByteArray) (a : Int) (w : World) (hm : Laid0 w) :
    Calls Try.prog 5 #[.string s, .int .i64 a] w fun e w' => e = .returned (.bool true) ∧ Keep Nb w w' := by
  by_cases h : s.size ≤ 2000
  · exact parses_short s a h w hm
  · exact parses_long s a (by omega) w

end Go.Proofs.Ytfjipiibkmapkaa
