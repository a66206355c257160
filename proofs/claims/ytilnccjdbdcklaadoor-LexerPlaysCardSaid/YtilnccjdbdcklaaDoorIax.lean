/- strings.IndexAny at ASCII signs, for any text. -/
import Derived.Test.YtilnccjdbdcklaaDoorShl
import Derived.Test.YtilnccjdbdcklaaDoorEsc
import Derived.Laws.RangeAny
import Derived.Laws.Runes
import Derived.Lib.SpaceUEq
import Derived.Lib.DecodeN
import Derived.Deep.DeepCutAuto
import Derived.Deep.CutBlock
import Derived.Deep.LoopGhost
import Derived.WalkMore
namespace Go.Proofs.YtilnccjdbdcklaaDoor
set_option linter.unusedVariables false
set_option linter.unusedSimpArgs false
open Go.RowKit

set_option maxRecDepth 100000 in
theorem validrune_t (r : Int) (w : World) (h0 : 128 ≤ r) (h1 : r ≤ 1114111) :
    Calls Tryd.prog 61 #[.int .i32 r] w fun e w' => e = .returned (.bool (decide (r < 55296 ∨ 57343 < r))) ∧ w' = w := by
  have m0 : decide ((0 : Int) ≤ r) = true := decide_eq_true (by omega)
  have m9 : decide (r ≤ (1114111 : Int)) = true := decide_eq_true (by omega)
  by_cases h2 : r < 55296
  · have m1 : decide (r < (55296 : Int)) = true := decide_eq_true h2
    rw [decide_eq_true (.inl h2)]
    clear h2
    go_enter Tryd.func61, Tryd.ntmps61
    go_wp2_with fail
    go_ret
    exact ⟨rfl, rfl⟩
  · have m1 : decide (r < (55296 : Int)) = false := decide_eq_false h2
    by_cases h3 : 57343 < r
    · have m2 : decide ((57343 : Int) < r) = true := decide_eq_true h3
      rw [decide_eq_true (.inr h3)]
      clear h2 h3
      go_enter Tryd.func61, Tryd.ntmps61
      go_wp2_with fail
      go_ret
      exact ⟨rfl, rfl⟩
    · have m2 : decide ((57343 : Int) < r) = false := decide_eq_false h3
      rw [decide_eq_false (by omega)]
      clear h2 h3
      go_enter Tryd.func61, Tryd.ntmps61
      go_wp2_with fail
      go_ret
      exact ⟨rfl, rfl⟩

theorem indexByte_none (c : UInt8) (h : 128 ≤ c.toNat) : ∀ l : List UInt8, l.all (fun b => decide (b.toNat < 128)) = true → Lib.indexByte l c = -1
  | [], _ => rfl
  | b :: r, hl => by
    simp only [List.all_cons, Bool.and_eq_true, decide_eq_true_eq] at hl
    have hne : (b == c) = false := beq_eq_false_iff_ne.2 (fun e => by subst e; omega)
    rw [Lib.indexByte, hne, indexByte_none c h r hl.2]
    rfl
theorem ibyte_none (S : ByteArray) (c : UInt8) (w : World) (h : 128 ≤ c.toNat) (hS : S.data.toList.all (fun b => decide (b.toNat < 128)) = true) :
    Calls Tryd.prog 58 #[.string S, .int .u8 c.toNat] w fun e w' => e = .returned (.int .i64 (-1)) ∧ Keep Nb w w' := by
  refine (ibyte_t S c.toNat w).mono ?_
  rintro e w' ⟨rfl, rfl⟩
  have hback : ((c.toNat : Int)).toNat.toUInt8 = c := by simp
  exact ⟨by rw [hback, indexByte_none c h _ hS], Keep.refl _ _⟩
theorem all128 : ∀ (i : Nat) (hi : i < (⟨#[10, 59, 125]⟩ : ByteArray).size), ((⟨#[10, 59, 125]⟩ : ByteArray)[i]'hi).toNat < 128 := by
  intro i hi
  have h3 : i < 3 := hi
  have : i = 0 ∨ i = 1 ∨ i = 2 := by omega
  rcases this with rfl | rfl | rfl
  · exact (by decide : (10 : UInt8).toNat < 128)
  · exact (by decide : (59 : UInt8).toNat < 128)
  · exact (by decide : (125 : UInt8).toNat < 128)

set_option maxHeartbeats 4000000 in
set_option maxRecDepth 100000 in
theorem irune_high (r : Int) (w : World) (h0 : 128 ≤ r) (h1 : r ≤ 1114111) :
    Calls Tryd.prog 50 #[.string ⟨#[10, 59, 125]⟩, .int .i32 r] w fun e w' => e = .returned (.int .i64 (-1)) ∧ Keep Nb w w' := by
  have ma : decide ((0 : Int) ≤ r) = true := decide_eq_true (by omega)
  have mb : decide (r < (128 : Int)) = false := decide_eq_false (by omega)
  by_cases hE : r = 65533
  · have mc : (r == (65533 : Int)) = true := beq_iff_eq.2 hE
    subst hE
    clear h0 h1 mc
    go_enter Tryd.func50, Tryd.ntmps50
    go_wp2_with fail
    go_loopg [5, 6] 3 (fun g _ _ wx => ∃ i : Nat, i + g = 3 ∧ wx = w.iter ⟨#[10, 59, 125]⟩ i)
    case atStart => exact ⟨0, by omega, rfl⟩
    case round =>
      obtain ⟨i, hig, rfl⟩ := hrel
      cases gk with
      | zero =>
        obtain rfl : i = 3 := by omega
        have hnx := run_next_end (P := Tryd.prog) w ⟨#[10, 59, 125]⟩ 3
        go_wp2_with fail
        go_ret
        exact ⟨rfl, Keep.alloc (Keep.refl _ _) _⟩
      | succ g =>
        have hi : i < (⟨#[10, 59, 125]⟩ : ByteArray).size := by show i < 3; omega
        have h128 : ((⟨#[10, 59, 125]⟩ : ByteArray)[i]'hi).toNat < 128 := all128 i hi
        have hnx := fun ty => run_next_ascii (P := Tryd.prog) w ⟨#[10, 59, 125]⟩ i ty hi h128
        generalize (⟨#[10, 59, 125]⟩ : ByteArray)[i]'hi = x at hnx h128
        have hne : (((x.toNat : Nat) : Int) == 65533) = false := beq_eq_false_iff_ne.2 (by omega)
        go_wp2_with fail
        go_roundg g
        case measure => omega
        case rel => exact ⟨i + 1, by omega, rfl⟩
  · have mc : (r == (65533 : Int)) = false := beq_eq_false_iff_ne.2 hE
    have HV := Lib.hid (validrune_t r w h0 h1)
    by_cases hv : r < 55296 ∨ 57343 < r
    · rw [decide_eq_true hv] at HV
      have hval : Utf8.valid r = true := by
        unfold Utf8.valid; simp; omega
      obtain ⟨e1, e2, e3⟩ := encode_facts r hval h0
      clear hE hv hval
      have hcv : ∀ w', (convert 21 9 (.int .i32 r)).run Tryd.prog w' = .ok (.string (Utf8.encode r)) w' := fun w' => run_convert_int_string w' _ _ _ _ (by kernel_rfl) Tryd.underlying9
      generalize Utf8.encode r = E at *
      have hs : E.size = 2 ∨ E.size = 3 ∨ E.size = 4 := by omega
      rcases hs with hsz | hsz | hsz
      · obtain ⟨c, hc⟩ : ∃ c, c = E[1]'(by omega) := ⟨_, rfl⟩
        have hc1 : 128 ≤ c.toNat := by
          rw [hc]
          have := e3 (by omega)
          simpa [hsz] using this
        have hEi : E[1]'(by omega) = c := hc.symm
        have HI := Lib.hid (fun S wx hS => ibyte_none S c wx hc1 hS)
        have hne : ((((⟨#[10, 59, 125]⟩ : ByteArray)[1]'(by decide)).toNat : Int) != (c.toNat : Int)) = true := bne_iff_ne.2 (by show (59 : Int) ≠ _; omega)
        clear hc e1 e2 e3
        go_enter Tryd.func50, Tryd.ntmps50
        go_wp2_with fail
        refine HV.out.mono ?_
        rintro e w2 ⟨rfl, rfl⟩
        go_wp2_with fail
        go_step3
        go_wp2_with fail
        go_loopw [9] (fun i wr => i = .int .i64 1 ∧ wr = w2) (fun _ _ => 0)
        case atStart => exact ⟨rfl, rfl⟩
        case round =>
          obtain ⟨rfl, rfl⟩ := hrel
          go_wp2_with fail
          go_step3
          go_wp2_with fail
          refine wp_region_x (by kernel_rfl) (by kernel_rfl) ?_; (repeat (go_big_quiet_step ((fail)))); refine wpQuiet_nil ?_; rintro w3 ⟨⟨_, hk3⟩, rfl⟩
          go_wp2_with fail
          refine wp_region_x (by kernel_rfl) (by kernel_rfl) ?_; (repeat (go_big_quiet_step (((go_at_call 58; exact Calls.ext _ (HI.out _ _ (by decide))))))); refine wpQuiet_nil ?_; rintro w4 ⟨⟨_, hk4⟩, rfl⟩
          go_wp2_with fail
          rw [Exit.noGoto_ret]
          simp (config := { zetaDelta := true }) only [Exit.inBlock, Exit.then, Exit.noGoto_ret]
          go_ret
          exact ⟨rfl, hk3.trans hk4 (fun _ _ h => h)⟩
      · obtain ⟨c, hc⟩ : ∃ c, c = E[2]'(by omega) := ⟨_, rfl⟩
        have hc1 : 128 ≤ c.toNat := by
          rw [hc]
          have := e3 (by omega)
          simpa [hsz] using this
        have hEi : E[2]'(by omega) = c := hc.symm
        have HI := Lib.hid (fun S wx hS => ibyte_none S c wx hc1 hS)
        have hne : ((((⟨#[10, 59, 125]⟩ : ByteArray)[2]'(by decide)).toNat : Int) != (c.toNat : Int)) = true := bne_iff_ne.2 (by show (125 : Int) ≠ _; omega)
        clear hc e1 e2 e3
        go_enter Tryd.func50, Tryd.ntmps50
        go_wp2_with fail
        refine HV.out.mono ?_
        rintro e w2 ⟨rfl, rfl⟩
        go_wp2_with fail
        go_step3
        go_wp2_with fail
        go_loopw [9] (fun i wr => i = .int .i64 2 ∧ wr = w2) (fun _ _ => 0)
        case atStart => exact ⟨rfl, rfl⟩
        case round =>
          obtain ⟨rfl, rfl⟩ := hrel
          go_wp2_with fail
          go_step3
          go_wp2_with fail
          refine wp_region_x (by kernel_rfl) (by kernel_rfl) ?_; (repeat (go_big_quiet_step ((fail)))); refine wpQuiet_nil ?_; rintro w3 ⟨⟨_, hk3⟩, rfl⟩
          go_wp2_with fail
          refine wp_region_x (by kernel_rfl) (by kernel_rfl) ?_; (repeat (go_big_quiet_step (((go_at_call 58; exact Calls.ext _ (HI.out _ _ (by decide))))))); refine wpQuiet_nil ?_; rintro w4 ⟨⟨_, hk4⟩, rfl⟩
          go_wp2_with fail
          rw [Exit.noGoto_ret]
          simp (config := { zetaDelta := true }) only [Exit.inBlock, Exit.then, Exit.noGoto_ret]
          go_ret
          exact ⟨rfl, hk3.trans hk4 (fun _ _ h => h)⟩
      · obtain ⟨c, hc⟩ : ∃ c, c = E[3]'(by omega) := ⟨_, rfl⟩
        have hc1 : 128 ≤ c.toNat := by
          rw [hc]
          have := e3 (by omega)
          simpa [hsz] using this
        have hEi : E[3]'(by omega) = c := hc.symm
        have HI := Lib.hid (fun S wx hS => ibyte_none S c wx hc1 hS)
        skip
        clear hc e1 e2 e3
        go_enter Tryd.func50, Tryd.ntmps50
        go_wp2_with fail
        refine HV.out.mono ?_
        rintro e w2 ⟨rfl, rfl⟩
        go_wp2_with fail
        go_step3
        go_wp2_with fail
        go_loopw [9] (fun i wr => i = .int .i64 3 ∧ wr = w2) (fun _ _ => 0)
        case atStart => exact ⟨rfl, rfl⟩
        case round =>
          obtain ⟨rfl, rfl⟩ := hrel
          go_wp2_with fail
          rw [Exit.noGoto_ret]
          go_ret
          exact ⟨rfl, Keep.refl _ _⟩
    · rw [decide_eq_false hv] at HV
      clear hv hE
      go_enter Tryd.func50, Tryd.ntmps50
      go_wp2_with fail
      refine HV.out.mono ?_
      rintro e w2 ⟨rfl, rfl⟩
      go_wp2_with fail
      go_ret
      exact ⟨rfl, Keep.refl _ _⟩

end Go.Proofs.YtilnccjdbdcklaaDoor
