/- A space: Next. -/
import Derived.Test.YtnjanpejmfkopaaDoorSp
import Derived.Deep.DeepCutAuto
namespace Go.Proofs.YtnjanpejmfkopaaDoor
set_option linter.unusedVariables false
set_option linter.unusedSimpArgs false
open Go.RowKit P8

theorem next_end (p : Nat) (v : Value) (n : Nat) (B : Nat) (ls : List ByteArray) (w : World) (hp : SpAt w p v n) (hl : LnAt B w v ls) (hn : n = ls.length) :
    Calls Tryd.prog 9 #[.pointer (some ⟨p, 0, none⟩)] w fun e w' => e = .returned (.tuple #[.string ⟨#[]⟩, .bool false]) ∧ Keep Nb w w' := by
  have h := last_any p v n B ls w hp hl
  rw [decide_eq_true hn] at h
  have H := Lib.hid h
  clear h hp hl hn
  go_enter Tryd.func9, Tryd.ntmps9
  go_wp2_with fail
  refine H.out.mono ?_
  rintro e w2 ⟨rfl, hk⟩
  go_wp2_with fail
  go_ret2
  exact ⟨rfl, hk⟩

set_option maxHeartbeats 1000000 in
set_option maxRecDepth 100000 in
theorem next_some (p : Nat) (v : Value) (n : Nat) (B : Nat) (ls : List ByteArray) (w : World) (hp : SpAt w p v n) (hl : LnAt B w v ls) (hB : B ≤ p) (hn : n < ls.length) :
    Calls Tryd.prog 9 #[.pointer (some ⟨p, 0, none⟩)] w fun e w' => e = .returned (.tuple #[.string ls[n], .bool true]) ∧ SpAt w' p v ((n + 1 : Nat) : Int) ∧ Keep (Ob p) w w' := by
  obtain ⟨x, hx⟩ : ∃ x, x = ls[n] := ⟨_, rfl⟩
  rw [← hx]
  have HX := Lib.hid hx
  clear hx
  have h := last_any p v n B ls w hp hl
  rw [decide_eq_false (by omega)] at h
  have H := Lib.hid h
  have HP := Lib.hid hp
  have hm : n + 1 ≤ 100001 := by obtain ⟨_, _, h2, _⟩ := hl; omega
  have HL := Lib.hid hl
  clear h hp hl
  go_enter Tryd.func9, Tryd.ntmps9
  go_wp2_with fail
  refine H.out.mono ?_
  rintro e w2 ⟨rfl, hk⟩
  have hb2 := HP.out.keep hk id
  have c1 := hb2.cell 1 (u := .int .i64 n) rfl
  have f1 := hb2.frozen 1
  have lb := hb2.lt
  have HB2 := Lib.hid hb2
  have HL2 := Lib.hid (HL.out.keep hk (fun _ _ h => h))
  have HK := Lib.hid hk
  clear hk hb2
  go_upto_region 4 with fail
  have HB3 : Hid (SpAt (w2.setCell ⟨p, 1, none⟩ (.int .i64 ((n : Int) + 1))) p v ((n + 1 : Nat) : Int)) := Lib.hid (by
    have h1 := HB2.out.set 1 (.int .i64 ((n : Int) + 1))
    unfold SpAt
    rw [show ((n + 1 : Nat) : Int) = (n : Int) + 1 by omega]
    exact h1)
  have HK3 : Hid (Keep (Ob p) w (w2.setCell ⟨p, 1, none⟩ (.int .i64 ((n : Int) + 1)))) := Lib.hid (HK.out.ob.trans (Keep.setOb _ _ _ _) (fun _ _ h => h))
  have HL3 : Hid (LnAt B (w2.setCell ⟨p, 1, none⟩ (.int .i64 ((n : Int) + 1))) v ls) := Lib.hid (HL2.out.keep (Keep.setOb _ _ _ _) (fun b hb h => by simp only [Ob] at h; omega))
  generalize w2.setCell ⟨p, 1, none⟩ (.int .i64 ((n : Int) + 1)) = w3 at HB3 HK3 HL3 ⊢
  clear c1 f1 lb
  obtain ⟨A, rfl, _, h3⟩ := HL3.out
  obtain ⟨b, rfl, hb, hc⟩ := h3 n hn
  have c0 := HB3.out.cell 0 (u := .slice (some ⟨b, 0, none⟩) ls.length ls.length) rfl
  have c1 := HB3.out.cell 1 (u := .int .i64 ((n + 1 : Nat) : Int)) rfl
  have lb := HB3.out.lt
  have lc := cell_lt hc
  rw [← HX.out] at hc
  have hlt : (n : Int) < (ls.length : Int) := by omega
  have h0 : (0 : Int) ≤ (n : Int) := by omega
  clear h3 HL HL2 H
  go_wp2_with fail
  refine wp_region_x (by kernel_rfl) (by kernel_rfl) ?_; (repeat (go_big_quiet_step ((fail)))); refine wpQuiet_nil ?_; rintro w4 ⟨⟨_, hk4⟩, rfl⟩
  go_wp2_with fail
  go_ret2
  exact ⟨rfl, HB3.out.keep hk4 id, HK3.out.trans hk4.ob (fun _ _ h => h)⟩

end Go.Proofs.YtnjanpejmfkopaaDoor
