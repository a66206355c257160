/- What stands in a span of any floats: Text of the program and of the reference. -/
import Derived.Test.YtkidjbfapldmbaaTxf
import Derived.Deep.DeepCutAuto
namespace Go.Proofs.Ytkidjbfapldmbaa
set_option linter.unusedVariables false
set_option linter.unusedSimpArgs false
open Go.RowKit P8

/-- The place that a float is, in a text of n bytes. -/
noncomputable def placeO (x n : Nat) : Option Nat :=
  haveI := Classical.propDecidable (∃ i, i ≤ n ∧ ordF x (F i) = some .eq)
  if h : ∃ i, i ≤ n ∧ ordF x (F i) = some .eq then some h.choose else none
theorem placeO_some {x n i : Nat} (h : placeO x n = some i) : i ≤ n ∧ ordF x (F i) = some .eq := by
  unfold placeO at h
  split at h
  · rename_i hh; cases h; exact hh.choose_spec
  · cases h
theorem placeO_none {x n : Nat} (h : placeO x n = none) : ∀ i, i ≤ n → ordF x (F i) ≠ some .eq := by
  unfold placeO at h
  split at h
  · cases h
  · rename_i hh; exact fun i h1 h2 => hh ⟨i, h1, h2⟩
def placeI : Option Nat → Int
  | none => -1
  | some i => (i : Int)
def textV (T : ByteArray) : Option Nat → Option Nat → ByteArray
  | some i, some j => if i ≤ j then T.extract i j else ⟨#[]⟩
  | _, _ => ⟨#[]⟩
theorem num_of {x n : Nat} (hn : n < 701) (h0 : (ordF x (F 0) == some .gt || ordF x (F 0) == some .eq) = true) (h1 : (ordF x (F n) == some .lt || ordF x (F n) == some .eq) = true) : ∃ neg m e, FloatKind.f64.decode x = .number neg m e := by
  cases hd : FloatKind.f64.decode x with
  | nan s t =>
    have hd' : FloatKind.f64.format.read x = _ := hd
    rw [ordF, Ieee.Format.order, hd'] at h0
    simp [Ieee.Datum.order] at h0
  | infinity s =>
    have hd' : FloatKind.f64.format.read x = _ := hd
    have r0 : FloatKind.f64.format.read (F 0) = _ := F_read 0 (by omega)
    have rn : FloatKind.f64.format.read (F n) = _ := F_read n hn
    rw [ordF, Ieee.Format.order, hd', r0] at h0
    rw [ordF, Ieee.Format.order, hd', rn] at h1
    cases s <;> simp [Ieee.Datum.order] at h0 h1
  | number neg m e => exact ⟨neg, m, e, rfl⟩
theorem ord_swap (x y : Nat) : ordF x y = some .eq ↔ ordF y x = some .eq := by
  have key : ∀ a b : Ieee.Datum, Ieee.Datum.order a b = some .eq → Ieee.Datum.order b a = some .eq := by
    intro a b h
    cases a with
    | nan s t => simp [Ieee.Datum.order] at h
    | infinity s =>
      cases b with
      | nan s t => simp [Ieee.Datum.order] at h
      | infinity t => cases s <;> cases t <;> simp [Ieee.Datum.order] at h ⊢
      | number t n j => cases s <;> simp [Ieee.Datum.order] at h
    | number s m i =>
      cases b with
      | nan s t => simp [Ieee.Datum.order] at h
      | infinity t => cases t <;> simp [Ieee.Datum.order] at h
      | number t n j =>
        simp only [Ieee.Datum.order, Option.some.injEq] at h ⊢
        have := Int.compare_eq_eq.1 h
        rw [Int.min_comm]
        exact Int.compare_eq_eq.2 this.symm
  exact ⟨key _ _, key _ _⟩

section
attribute [local irreducible] FloatKind.decode FloatKind.encode
theorem trunc_run2 (x : Nat) {neg : Bool} {m : Nat} {e : Int} (h1 : FloatKind.f64.decode x = .number neg m e) (w : World) : (Extern.MathFloor.toIntegral "math.archTrunc" .zero #[.float .f64 x]).run Try.prog w = .ok (.float .f64 (truncF x)) w := by
  unfold Extern.MathFloor.toIntegral
  conv => lhs; arg 2; whnf
  rw [h1, truncF, h1]
  rfl
end
set_option maxRecDepth 100000 in
theorem trunc_gen (x : Nat) {neg : Bool} {m : Nat} {e : Int} (h1 : FloatKind.f64.decode x = .number neg m e) (w : World) :
    Calls Try.prog 93 #[.float .f64 x] w fun e w' => e = .returned (.float .f64 (truncF x)) ∧ w = w' := by
  have H1 := Lib.hid h1
  clear h1
  go_enter Try.func93, Try.ntmps93
  go_wp2_with fail
  rw [run_callFunc_extern Try.func109 (by kernel_rfl) (by kernel_rfl) (by kernel_rfl) (e := Extern.MathFloor.toIntegral "math.archTrunc" .zero) (by kernel_rfl)]
  rw [trunc_run2 x H1.out]
  simp only [Result.andThen]
  rw [Oper.upon_value]
  go_wp2_with fail
  go_ret
  exact ⟨rfl, rfl⟩

theorem ret_int12 {a b : Int} (h : a = b) : Ending.returned (.int .i64 a) = .returned (.int .i64 b) := by rw [h]
set_option maxRecDepth 100000 in
theorem place_gen (T : ByteArray) (x : Nat) (hT : T.size ≤ 600) (w : World) :
    Calls Try.prog 71 #[.string T, .float .f64 x] w fun e w' => e = .returned (.int .i64 (placeI (placeO x T.size))) ∧ w = w' := by
  have f1 := F_of T.size
  have hn : T.size < 701 := by omega
  cases hp : placeO x T.size with
  | some i =>
    obtain ⟨h1, h2⟩ := placeO_some hp
    obtain ⟨r1, r2, r3, r4, _⟩ := place_is hn h1 h2
    rw [F_zero] at r1
    obtain ⟨neg, m, e, hd⟩ := num_of hn (by rw [F_zero]; exact r1) r2
    have HTR := Lib.hid (fun wx => trunc_gen x hd wx)
    have q1 : ((FloatKind.f64.format.order x 0 == some .gt) || (FloatKind.f64.format.order x 0 == some .eq)) = true := r1
    have q2 : ((FloatKind.f64.format.order x (F T.size) == some .lt) || (FloatKind.f64.format.order x (F T.size) == some .eq)) = true := r2
    have q3 : (FloatKind.f64.format.order x (truncF x) != some .eq) = false := by rw [bne, show FloatKind.f64.format.order x (truncF x) = some .eq from r3]; rfl
    have hb : ∀ wx, (convert 61 3 (.float .f64 x)).run Try.prog wx = .ok (.int .i64 (i : Int)) wx := fun wx => run_convert_float_int wx _ _ _ _ _ _ (by kernel_rfl) Try.underlying3 r4
    clear r1 r2 r3 r4 hd h1 h2 hp hn
    go_enter Try.func71, Try.ntmps71
    go_wp2_with fail
    refine (HTR.out _).mono ?_
    rintro e w2 ⟨rfl, rfl⟩
    go_wp2_with fail
    go_ret
    exact ⟨rfl, rfl⟩
  | none =>
    have hno := placeO_none hp
    cases h0 : (FloatKind.f64.format.order x 0 == some .gt || FloatKind.f64.format.order x 0 == some .eq) with
    | false =>
      clear hno hp hn
      go_enter Try.func71, Try.ntmps71
      go_wp2_with fail
      go_ret
      exact ⟨rfl, rfl⟩
    | true =>
      cases h1 : (FloatKind.f64.format.order x (F T.size) == some .lt || FloatKind.f64.format.order x (F T.size) == some .eq) with
      | false =>
        clear hno hp hn
        go_enter Try.func71, Try.ntmps71
        go_wp2_with fail
        go_ret
        exact ⟨rfl, rfl⟩
      | true =>
        obtain ⟨neg, m, e, hd⟩ := num_of (x := x) hn (by rw [F_zero]; exact h0) h1
        have HTR := Lib.hid (fun wx => trunc_gen x hd wx)
        have q3 : (FloatKind.f64.format.order x (truncF x) != some .eq) = true := by
          rw [bne, Bool.not_eq_true', beq_eq_false_iff_ne]
          intro ht
          obtain ⟨i, i1, i2⟩ := place_yes (x := x) hn (by rw [F_zero]; exact h0) h1 ht
          exact hno i i1 i2
        clear hno hp hn hd
        go_enter Try.func71, Try.ntmps71
        go_wp2_with fail
        refine (HTR.out _).mono ?_
        rintro e w2 ⟨rfl, rfl⟩
        go_wp2_with fail
        go_ret
        exact ⟨rfl, rfl⟩

set_option maxRecDepth 100000 in
theorem text_gen (T : ByteArray) (x y : Nat) (hT : T.size ≤ 600) (w : World) :
    Calls Try.prog 45 #[.string T, .complex .f64 x y] w fun e w' => e = .returned (.string (textV T (placeO x T.size) (placeO y T.size))) ∧ w = w' := by
  have HX := Lib.hid (fun wx => place_gen T x hT wx)
  have HY := Lib.hid (fun wx => place_gen T y hT wx)
  cases hx : placeO x T.size with
  | none =>
    rw [hx] at HX
    simp only [placeI] at HX
    cases hy : placeO y T.size with
    | none =>
      rw [hy] at HY
      simp only [placeI] at HY
      clear hx hy
      go_enter Try.func45, Try.ntmps45
      go_wp2_with fail
      refine (HX.out _).mono ?_
      rintro e w2 ⟨rfl, rfl⟩
      go_wp2_with fail
      refine (HY.out _).mono ?_
      rintro e w2 ⟨rfl, rfl⟩
      go_wp2_with fail
      go_ret
      exact ⟨rfl, rfl⟩
    | some j =>
      rw [hy] at HY
      simp only [placeI] at HY
      clear hx hy
      go_enter Try.func45, Try.ntmps45
      go_wp2_with fail
      refine (HX.out _).mono ?_
      rintro e w2 ⟨rfl, rfl⟩
      go_wp2_with fail
      refine (HY.out _).mono ?_
      rintro e w2 ⟨rfl, rfl⟩
      go_wp2_with fail
      go_ret
      exact ⟨rfl, rfl⟩
  | some i =>
    have hi := (placeO_some hx).1
    rw [hx] at HX
    simp only [placeI] at HX
    have g0 : decide ((i : Int) < 0) = false := by simp
    cases hy : placeO y T.size with
    | none =>
      rw [hy] at HY
      simp only [placeI] at HY
      have g1 : decide ((-1 : Int) < (i : Int)) = true := by simp; omega
      clear hx hy
      go_enter Try.func45, Try.ntmps45
      go_wp2_with fail
      refine (HX.out _).mono ?_
      rintro e w2 ⟨rfl, rfl⟩
      go_wp2_with fail
      refine (HY.out _).mono ?_
      rintro e w2 ⟨rfl, rfl⟩
      go_wp2_with fail
      go_ret
      exact ⟨rfl, rfl⟩
    | some j =>
      have hj := (placeO_some hy).1
      rw [hy] at HY
      simp only [placeI] at HY
      clear hx hy
      by_cases hij : i ≤ j
      · have HV := Lib.hid (show textV T (some i) (some j) = T.extract i j by rw [textV, if_pos hij])
        have g1 : decide ((j : Int) < (i : Int)) = false := by simp; omega
        have g2 : decide (j < i) = false := by simp; omega
        have g4 : (0 : Int) ≤ (i : Int) := by omega
        have g5 : (i : Int) ≤ (j : Int) := by omega
        have g6 : (j : Int) ≤ (T.size : Int) := by omega
        clear hij hi hj
        go_enter Try.func45, Try.ntmps45
        go_wp2_with fail
        refine (HX.out _).mono ?_
        rintro e w2 ⟨rfl, rfl⟩
        go_wp2_with fail
        refine (HY.out _).mono ?_
        rintro e w2 ⟨rfl, rfl⟩
        go_wp2_with fail
        go_ret
        exact ⟨by rw [HV.out]; rfl, rfl⟩
      · have HV := Lib.hid (show textV T (some i) (some j) = ⟨#[]⟩ by rw [textV, if_neg hij])
        have g1 : decide ((j : Int) < (i : Int)) = true := by simp; omega
        have g2 : decide (j < i) = true := by simp; omega
        clear hij hi hj
        go_enter Try.func45, Try.ntmps45
        go_wp2_with fail
        refine (HX.out _).mono ?_
        rintro e w2 ⟨rfl, rfl⟩
        go_wp2_with fail
        refine (HY.out _).mono ?_
        rintro e w2 ⟨rfl, rfl⟩
        go_wp2_with fail
        go_ret
        exact ⟨by rw [HV.out]; rfl, rfl⟩

theorem txt_up {t : Nat} (h : t ≤ 3000) : wrap64 ((t : Int) + 1) = (t : Int) + 1 ∧ IntKind.i64.wrap ((t : Int) + 1) = (t : Int) + 1 := ⟨by unfold wrap64; omega, by rw [IntKind.wrap_i64]; omega⟩
theorem txt_meas {n j : Nat} (h : j ≤ n) : n + 2 - (intOf (.int .i64 ((j : Int) + 1))).toNat < n + 2 - (intOf (.int .i64 (j : Int))).toNat := by
  simp only [intOf]; omega
/-- Nothing is answered ahead of a place. -/
def Ahead (n x y i k : Nat) : Prop := ∀ a b, placeO x n = some a → placeO y n = some b → a ≤ b → i < a ∨ (i = a ∧ k ≤ b)
theorem textV_no {T : ByteArray} {x y : Nat} (h : ∀ a b, placeO x T.size = some a → placeO y T.size = some b → a ≤ b → False) : textV T (placeO x T.size) (placeO y T.size) = ⟨#[]⟩ := by
  cases hx : placeO x T.size with
  | none => cases placeO y T.size <;> rfl
  | some a => cases hy : placeO y T.size with
    | none => rfl
    | some b => rw [textV, if_neg (fun hab => h a b hx hy hab)]
theorem placeO_is {x n i : Nat} (hn : n < 701) (hi : i ≤ n) (h : ordF x (F i) = some .eq) : placeO x n = some i := by
  cases hp : placeO x n with
  | none => exact absurd h (placeO_none hp i hi)
  | some a =>
    obtain ⟨h1, h2⟩ := placeO_some hp
    have := (place_is hn h1 h2).2.2.2.2 i (by omega)
    rw [this.1 h]
set_option maxRecDepth 100000 in
set_option maxHeartbeats 4000000 in
theorem rtext_gen (T : ByteArray) (x y : Nat) (hT : T.size ≤ 600) (w : World) :
    Calls Try.prog 46 #[.string T, .complex .f64 x y] w fun e w' => e = .returned (.string (textV T (placeO x T.size) (placeO y T.size))) ∧ w = w' := by
  have H6 := Lib.hid hT
  obtain ⟨R, hR⟩ : ∃ R, R = textV T (placeO x T.size) (placeO y T.size) := ⟨_, rfl⟩
  rw [← hR]
  have HR := Lib.hid hR
  clear hR hT
  go_enter Try.func46, Try.ntmps46
  go_wp2_with fail
  go_loopw [7] (fun o wr => ∃ i : Nat, o = .int .i64 (i : Int) ∧ Hid (i ≤ T.size + 1) ∧ Hid (Ahead T.size x y i i) ∧ w = wr) (fun o _ => T.size + 2 - (intOf o).toNat)
  case atStart => exact ⟨0, rfl, Lib.hid (Nat.zero_le _), Lib.hid (fun a b _ _ h => by omega), rfl⟩
  case round =>
    obtain ⟨i, rfl, hi, hA, rfl⟩ := hrel
    by_cases hle : i ≤ T.size
    · have g1 : decide ((i : Int) ≤ (T.size : Int)) = true := by simp; omega
      have g2 : decide (i ≤ T.size) = true := by simp; omega
      have HLE := Lib.hid hle
      have hi3 : i ≤ 3000 := by have := H6.out; omega
      have HU1 := Lib.hid (txt_up hi3).1
      have HU9 := Lib.hid (txt_up hi3).2
      have f1 := F_of i
      clear hi3
      go_wp2_with fail
      clear g1 g2
      go_loopw [8] (fun o wr => ∃ k : Nat, o = .int .i64 (k : Int) ∧ Hid (i ≤ k) ∧ Hid (k ≤ T.size + 1) ∧ Hid (Ahead T.size x y i k) ∧ w = wr) (fun o _ => T.size + 2 - (intOf o).toNat)
      case atStart => exact ⟨i, rfl, Lib.hid (Nat.le_refl _), hi, hA, rfl⟩
      case round =>
        obtain ⟨k, rfl, hik, hk, hAk, rfl⟩ := hrel
        by_cases hkle : k ≤ T.size
        · have g1 : decide ((k : Int) ≤ (T.size : Int)) = true := by simp; omega
          have g2 : decide (k ≤ T.size) = true := by simp; omega
          have HKLE := Lib.hid hkle
          have hk3 : k ≤ 3000 := by have := H6.out; omega
          have HV1 := Lib.hid (txt_up hk3).1
          have HV9 := Lib.hid (txt_up hk3).2
          have f2 := F_of k
          clear hk3 hkle
          by_cases hx : ordF (F i) x = some .eq
          · have e1 : (FloatKind.f64.format.order (F i) x == some .eq) = true := by rw [show FloatKind.f64.format.order (F i) x = some .eq from hx]; rfl
            have HX := Lib.hid ((ord_swap _ _).1 hx)
            clear hx
            by_cases hy : ordF (F k) y = some .eq
            · have e2 : (FloatKind.f64.format.order (F k) y == some .eq) = true := by rw [show FloatKind.f64.format.order (F k) y = some .eq from hy]; rfl
              have hn : T.size < 701 := by have := H6.out; omega
              have px := placeO_is hn HLE.out HX.out
              have py := placeO_is hn HKLE.out ((ord_swap _ _).1 hy)
              have HRR := Lib.hid (show R = T.extract i k by rw [HR.out, px, py, textV, if_pos hik.out])
              have g4 : (0 : Int) ≤ (i : Int) := by omega
              have g5 : (i : Int) ≤ (k : Int) := by have := hik.out; omega
              have g6 : (k : Int) ≤ (T.size : Int) := by have := HKLE.out; omega
              clear hy px py hn hle
              go_wp2_with fail
              go_ret
              exact ⟨by rw [HRR.out]; rfl, rfl⟩
            · have e2 : (FloatKind.f64.format.order (F k) y == some .eq) = false := beq_eq_false_iff_ne.2 hy
              have HAN := Lib.hid (show Ahead T.size x y i (k + 1) from fun a b h1 h2 h3 => by
                rcases hAk.out a b h1 h2 h3 with h | ⟨h, h4⟩
                · exact .inl h
                · refine .inr ⟨h, ?_⟩
                  rcases Nat.lt_or_ge k b with h5 | h5
                  · exact h5
                  · have : k = b := by omega
                    exact absurd ((ord_swap _ _).1 (this ▸ (placeO_some h2).2)) hy)
              clear hy hle
              have hv1 := HV1.out
              have hv9 := HV9.out
              go_wp2_with fail
              go_roundw
              case rel => exact ⟨k + 1, by first | rfl | (rw [hv1]; rfl) | go_num, Lib.hid (Nat.le_succ_of_le hik.out), Lib.hid (Nat.succ_le_succ HKLE.out), HAN, trivial⟩
              case measure => first | exact txt_meas HKLE.out | (rw [hv1]; exact txt_meas HKLE.out)
          · have e1 : (FloatKind.f64.format.order (F i) x == some .eq) = false := beq_eq_false_iff_ne.2 hx
            have HAN := Lib.hid (show Ahead T.size x y (i + 1) (i + 1) from fun a b h1 h2 h3 => by
              rcases hA.out a b h1 h2 h3 with h | ⟨h, h4⟩
              · rcases Nat.lt_or_ge (i + 1) a with h5 | h5
                · exact .inl h5
                · have : i + 1 = a := by omega
                  exact .inr ⟨this, by omega⟩
              · exact absurd ((ord_swap _ _).1 (h ▸ (placeO_some h1).2)) hx)
            clear hx hle
            have hu1 := HU1.out
            have hu9 := HU9.out
            go_wp2_with fail
            go_roundw
            case rel => exact ⟨i + 1, by first | rfl | (rw [hu1]; rfl) | go_num, Lib.hid (Nat.succ_le_succ HLE.out), HAN, trivial⟩
            case measure => first | exact txt_meas HLE.out | (rw [hu1]; exact txt_meas HLE.out)
        · have g1 : decide ((k : Int) ≤ (T.size : Int)) = false := by simp; omega
          have g2 : decide (k ≤ T.size) = false := by simp; omega
          have HAN := Lib.hid (show Ahead T.size x y (i + 1) (i + 1) from fun a b h1 h2 h3 => by
            rcases hAk.out a b h1 h2 h3 with h | ⟨h, h4⟩
            · rcases Nat.lt_or_ge (i + 1) a with h5 | h5
              · exact .inl h5
              · have : i + 1 = a := by omega
                exact .inr ⟨this, by omega⟩
            · have := (placeO_some h2).1; omega)
          clear hkle hle
          have hu1 := HU1.out
          have hu9 := HU9.out
          go_wp2_with fail
          go_roundw
          case rel => exact ⟨i + 1, by first | rfl | (rw [hu1]; rfl) | go_num, Lib.hid (Nat.succ_le_succ HLE.out), HAN, trivial⟩
          case measure => first | exact txt_meas HLE.out | (rw [hu1]; exact txt_meas HLE.out)
    · have g1 : decide ((i : Int) ≤ (T.size : Int)) = false := by simp; omega
      have g2 : decide (i ≤ T.size) = false := by simp; omega
      have HRR := Lib.hid (show R = ⟨#[]⟩ by
        rw [HR.out]
        exact textV_no (fun a b h1 h2 h3 => by
          have := (placeO_some h1).1
          rcases hA.out a b h1 h2 h3 with h | ⟨h, _⟩ <;> omega))
      clear hle
      go_wp2_with fail
      go_ret
      exact ⟨by rw [HRR.out]; rfl, rfl⟩

end Go.Proofs.Ytkidjbfapldmbaa
