/- A space that is no idle one: Print and Output of a fresh one; awake. -/
import Derived.Test.YtnjanpejmfkopaaDoorNx
namespace Go.Proofs.YtnjanpejmfkopaaDoor
set_option linter.unusedVariables false
set_option linter.unusedSimpArgs false
open Go.RowKit P8

theorem take_one (p : Nat) (v : Value) (n : Int) (w : World) (hp : SpAt w p v n) :
    Calls Tryd.prog 39 #[.pointer (some ⟨p, 0, none⟩), .string ⟨#[120]⟩] w fun e w' => e = .returned (.int .i64 0) ∧ Blk w' p (spRow v n (.pointer none) (.slice none 0 0) 1) 52 ∧ Keep (Ob p) w w' := by
  have HP := Lib.hid hp
  have c7 := hp.cell 7 (u := .int .i64 0) rfl
  have f7 := hp.frozen 7
  have lb := hp.lt
  clear hp
  go_enter Tryd.func39, Tryd.ntmps39
  go_wp2_with fail
  go_ret
  exact ⟨rfl, HP.out.set 7 _, Keep.setOb _ _ _ _⟩

theorem liesSp : LiesB 52 10 4 := ⟨by decide, by kernel_rfl, by decide⟩

/-- Behind Print: what is in the Builder. -/
theorem print_one (p : Nat) (v : Value) (n : Int) (w : World) (hp : SpAt w p v n) :
    Calls Tryd.prog 17 #[.pointer (some ⟨p, 0, none⟩), .string ⟨#[120]⟩] w fun e w' => e = .returned (.int .i64 0) ∧ (∃ cs q v', BoAt p p 4 cs 52 q v' (Lib.byteCells [120]) w') ∧ p < w'.heap.size ∧ KeepU p p w w' := by
  have H1 := Lib.hid (take_one p v n w hp)
  clear hp
  go_enter Tryd.func17, Tryd.ntmps17
  go_wp2_with fail
  refine H1.out.mono ?_
  rintro e w1 ⟨rfl, hb, hk⟩
  have HB := Lib.hid hb
  have HK := Lib.hid (KeepU.ob (base := p) hk (Nat.le_refl _))
  have lb := hb.lt
  have hbo : BoAt p p 4 (spRow v n (.pointer none) (.slice none 0 0) 1) 52 (.pointer none) (.slice none 0 0) [] w1 :=
    ⟨hb, rfl, rfl, .inl rfl, ⟨rfl, .inl ⟨rfl, rfl⟩⟩, by simp [Value.ownBlock], Nat.le_refl _⟩
  have HW := Lib.hid (writeStringO_any p p 4 _ _ _ _ [] ⟨#[120]⟩ w1 hbo liesSp (by decide) (Nat.le_of_lt lb))
  clear hb hk hbo
  go_wp2_with fail
  refine HW.out.mono ?_
  rintro e w2 ⟨rfl, v', hbo, hk2⟩
  have HBO := Lib.hid hbo
  have HK2 := Lib.hid hk2
  clear hbo hk2
  go_wp2_with fail
  go_ret
  refine ⟨rfl, ⟨_, _, _, HBO.out⟩, HBO.out.blk.lt, HK.out.trans HK2.out⟩

theorem output_one (p : Nat) (cs : Array Value) (q v : Value) (l : List UInt8) (w : World) (h : BoAt p p 4 cs 52 q v (Lib.byteCells l) w) (hp : p < w.heap.size) :
    Calls Tryd.prog 22 #[.pointer (some ⟨p, 0, none⟩)] w fun e w' => e = .returned (.string ⟨l.toArray⟩) ∧ KeepV p w w' := by
  have H := Lib.hid (stringO_any p p 4 cs _ q v l w h (Nat.le_of_lt hp))
  clear h
  go_enter Tryd.func22, Tryd.ntmps22
  go_wp2_with fail
  refine H.out.mono ?_
  rintro e w2 ⟨rfl, hk⟩
  go_wp2_with fail
  go_ret
  exact ⟨rfl, hk⟩

theorem bad_ab : newBad ⟨#[97, 10, 98]⟩ = false := by decide +kernel
theorem lines_ab : (linesP ⟨#[97, 10, 98]⟩).length = 2 := by decide +kernel

theorem awake_any (w : World) (hm : Laid0 w) : Calls Tryd.prog 6 #[] w fun e w' => e = .returned (.bool true) ∧ Keep Nb w w' := by
  have HN := Lib.hid (new_any ⟨#[97, 10, 98]⟩ (by decide) w hm)
  go_enter Tryd.func6, Tryd.ntmps6
  go_wp2_with fail
  refine HN.out.mono ?_
  rintro e w1 ⟨hk, _, h2⟩
  obtain ⟨p, v, rfl, hp, hb, hl⟩ := h2 bad_ab
  have HL := Lib.hid (lines_any p v 0 p _ w1 hb hl)
  rw [lines_ab] at HL
  have HP := Lib.hid (print_one p v 0 w1 hb)
  have HK := Lib.hid hk
  have HPW := Lib.hid hp
  clear h2 hb hl hk hp HN
  go_wp2_with fail
  refine HL.out.mono ?_
  rintro e w2 ⟨rfl, rfl⟩
  go_wp2_with fail
  refine HP.out.mono ?_
  rintro e w3 ⟨rfl, ⟨cs, q, v', hbo⟩, hp3, hk3⟩
  have HO := Lib.hid (output_one p cs q v' _ w3 hbo hp3)
  have HK3 := Lib.hid hk3
  clear hbo hp3 hk3
  go_wp2_with fail
  refine HO.out.mono ?_
  rintro e w4 ⟨rfl, hk4⟩
  have hkk : Keep Nb w w4 := HK.out.trans (HK3.out.low.trans hk4.low (fun _ _ h => h)) (fun b hb h => by have := HPW.out; omega)
  clear hk4
  go_wp2_with fail
  go_ret
  exact ⟨rfl, hkk⟩

end Go.Proofs.YtnjanpejmfkopaaDoor
