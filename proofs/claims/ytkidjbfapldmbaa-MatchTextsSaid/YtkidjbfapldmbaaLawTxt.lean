/- MatchTexts. -/
import Derived.Test.YtkidjbfapldmbaaTxw
import Derived.Deep.DeepCutAuto
namespace Go.Proofs.Ytkidjbfapldmbaa
set_option linter.unusedVariables false
set_option linter.unusedSimpArgs false
open Go.RowKit P8

theorem place_F {x n : Nat} (hx : x < 701) (hn : n < 701) : placeO (F x) n = if x ≤ n then some x else none := by
  have hs : ordF (F x) (F x) = some .eq := by
    have := F_order hx hx
    rw [ordF, this, Int.compare_eq_eq.2 rfl]
  by_cases h : x ≤ n
  · rw [if_pos h]
    exact placeO_is hn h hs
  · rw [if_neg h]
    cases hp : placeO (F x) n with
    | none => rfl
    | some i =>
      obtain ⟨h1, h2⟩ := placeO_some hp
      rw [ordF, F_order hx (by omega)] at h2
      have := Int.compare_eq_eq.1 (Option.some.inj h2)
      omega
theorem want_eq (T : ByteArray) {x y : Nat} (hx : x < 701) (hy : y < 701) (hn : T.size < 701) : textV T (placeO (F x) T.size) (placeO (F y) T.size) = if x ≤ y ∧ y ≤ T.size then T.extract x y else ⟨#[]⟩ := by
  rw [place_F hx hn, place_F hy hn]
  by_cases h : x ≤ y ∧ y ≤ T.size
  · rw [if_pos h, if_pos (by omega), if_pos h.2, textV, if_pos h.1]
  · rw [if_neg h]
    by_cases h1 : x ≤ T.size
    · by_cases h2 : y ≤ T.size
      · rw [if_pos h1, if_pos h2, textV, if_neg (fun h3 => h ⟨h3, h2⟩)]
      · rw [if_neg h2]; split <;> rfl
    · rw [if_neg h1]; rfl

set_option maxRecDepth 100000 in
set_option maxHeartbeats 1000000 in
theorem txt_long (T : ByteArray) (a b : Nat) (p q : Int) (w : World) (h6 : 600 < T.size) :
    Calls Try.prog 11 #[.string T, .float .f64 a, .float .f64 b, .agg #[.int .u16 p, .int .u16 q]] w fun e w' => e = .returned (.bool true) ∧ Keep Nb w w' := by
  have m1 : decide (600 < (T.size : Int)) = true := by simp; omega
  have m2 : decide (600 < T.size) = true := by simp; omega
  clear h6
  have hb0 : Blk (w.alloc (.cells #[.int .u16 p, .int .u16 q] 65)) w.heap.size #[.int .u16 p, .int .u16 q] 65 := Blk.new w _ _
  have hk0 : Keep Nb w (w.alloc (.cells #[.int .u16 p, .int .u16 q] 65)) := Keep.alloc (Keep.refl _ _) _
  have HB := Lib.hid hb0
  have HK := Lib.hid hk0
  clear hb0 hk0
  go_enter Try.func11, Try.ntmps11
  go_upto_region 1 with fail
  generalize w.alloc (.cells #[.int .u16 p, .int .u16 q] 65) = w1 at HB HK ⊢
  go_wp2_with fail
  refine (awake12 _).mono ?_
  rintro e w2 ⟨rfl, hk2⟩
  have HB := Lib.hid (HB.out.keep hk2 id)
  have HK := Lib.hid (HK.out.trans hk2 (fun _ _ h => h))
  clear hk2
  go_wp2_with fail
  refine (awake12 _).mono ?_
  rintro e w9 ⟨rfl, hk9⟩
  go_wp2_with fail
  go_ret
  exact ⟨rfl, HK.out.trans hk9 (fun _ _ h => h)⟩

set_option maxRecDepth 100000 in
set_option maxHeartbeats 4000000 in
theorem txt_true (T : ByteArray) (a b : Nat) (p q : Int) (w : World) (h6 : T.size ≤ 600) (hp : 0 ≤ p ∧ p ≤ 65535) (hq : 0 ≤ q ∧ q ≤ 65535) :
    Calls Try.prog 11 #[.string T, .float .f64 a, .float .f64 b, .agg #[.int .u16 p, .int .u16 q]] w fun e w' => e = .returned (.bool true) ∧ Keep Nb w w' := by
  have m1 : decide (600 < (T.size : Int)) = false := by simp; omega
  have m2 : decide (600 < T.size) = false := by simp; omega
  obtain ⟨R, hR⟩ : ∃ R, R = textV T (placeO a T.size) (placeO b T.size) := ⟨_, rfl⟩
  have hA := fun wx => text_gen T a b h6 wx
  have hB := fun wx => rtext_gen T a b h6 wx
  rw [← hR] at hA hB
  have HA := Lib.hid hA
  have HR := Lib.hid hB
  clear hA hB hR
  obtain ⟨x, hx⟩ : ∃ x : Nat, (x : Int) = p.tmod 700 := ⟨(p.tmod 700).toNat, by rw [Int.tmod_eq_emod_of_nonneg hp.1]; omega⟩
  obtain ⟨y, hy⟩ : ∃ y : Nat, (y : Int) = q.tmod 700 := ⟨(q.tmod 700).toNat, by rw [Int.tmod_eq_emod_of_nonneg hq.1]; omega⟩
  have hx7 : x < 700 := by rw [Int.tmod_eq_emod_of_nonneg hp.1] at hx; omega
  have hy7 : y < 700 := by rw [Int.tmod_eq_emod_of_nonneg hq.1] at hy; omega
  have hwant := want_eq T (x := x) (y := y) (by omega) (by omega) (by omega)
  have hW := fun wx => text_gen T (F x) (F y) h6 wx
  rw [hwant] at hW
  have r1 : p.tmod 700 = (x : Int) := hx.symm
  have r2 : q.tmod 700 = (y : Int) := hy.symm
  have u1 : IntKind.u16.wrap (x : Int) = (x : Int) := by simp [IntKind.wrap, IntKind.bits, IntKind.signed]; omega
  have u2 : IntKind.u16.wrap (y : Int) = (y : Int) := by simp [IntKind.wrap, IntKind.bits, IntKind.signed]; omega
  have v1 : IntKind.i64.wrap (x : Int) = (x : Int) := by rw [IntKind.wrap_i64]; omega
  have v2 : IntKind.i64.wrap (y : Int) = (y : Int) := by rw [IntKind.wrap_i64]; omega
  have V1 := Lib.hid v1
  have V2 := Lib.hid v2
  have U1 := Lib.hid u1
  have U2 := Lib.hid u2
  have R1 := Lib.hid r1
  have R2 := Lib.hid r2
  have HX7 := Lib.hid hx7
  have HY7 := Lib.hid hy7
  have H6 := Lib.hid h6
  clear hx hy hwant r1 r2 u1 u2 v1 v2 hp hq h6
  have hb0 : Blk (w.alloc (.cells #[.int .u16 p, .int .u16 q] 65)) w.heap.size #[.int .u16 p, .int .u16 q] 65 := Blk.new w _ _
  have hk0 : Keep Nb w (w.alloc (.cells #[.int .u16 p, .int .u16 q] 65)) := Keep.alloc (Keep.refl _ _) _
  have HB := Lib.hid hb0
  have HK := Lib.hid hk0
  clear hb0 hk0
  go_enter Try.func11, Try.ntmps11
  go_upto_region 1 with fail
  generalize w.alloc (.cells #[.int .u16 p, .int .u16 q] 65) = w1 at HB HK ⊢
  go_wp2_with fail
  refine (awake12 _).mono ?_
  rintro e w2 ⟨rfl, hk2⟩
  have HB := Lib.hid (HB.out.keep hk2 id)
  have HK := Lib.hid (HK.out.trans hk2 (fun _ _ h => h))
  clear hk2
  have c0 := HB.out.cell 0 (u := .int .u16 p) rfl
  have c1 := HB.out.cell 1 (u := .int .u16 q) rfl
  have lc := HB.out.lt
  have r1 := R1.out
  have r2 := R2.out
  have u1 := U1.out
  have u2 := U2.out
  have v1 := V1.out
  have v2 := V2.out
  go_upto_region 3 with fail
  (refine wp_region_f [9] (InX Nb _) (by kernel_rfl) (InX.mk (Keep.drew (Keep.refl _ _))) (fun hI => ?_))
  have xx : ∀ k, ¬ Nb k := fun _ h => h
  have hK0 : Keep Nb w2 w2.drew := (Keep.refl _ _).drew
  generalize w2.drew = x0 at hK0 hI ⊢
  (refine wpF_take2 (v := ?_) 0 rfl (by kernel_rfl) (fun _ _ _ h => h) hI rfl ?_ ?_; rotate_left; (focus (rintro _ ⟨E, rfl⟩; go_simp; (try with_reducible rfl))); simp only [Act.put, tk])
  (refine wpF_take2 (v := ?_) 1 rfl (by kernel_rfl) (fun _ _ _ h => h) hI rfl ?_ ?_; rotate_left; (focus (rintro _ ⟨E, rfl⟩; go_simp; (try with_reducible rfl))); simp only [Act.put, tk])
  (refine wpF_take2 (v := ?_) 2 rfl (by kernel_rfl) (fun _ _ _ h => h) hI rfl ?_ ?_; rotate_left; (focus (rintro _ ⟨E, rfl⟩; go_simp; (try with_reducible rfl))); simp only [Act.put, tk])
  (refine wpF_take2 (v := ?_) 3 rfl (by kernel_rfl) (fun _ _ _ h => h) hI rfl ?_ ?_; rotate_left; (focus (rintro _ ⟨E, rfl⟩; go_simp; (try with_reducible rfl))); simp only [Act.put, tk])
  (refine wpF_take2 (v := ?_) 4 rfl (by kernel_rfl) (fun _ _ _ h => h) hI rfl ?_ ?_; rotate_left; (focus (rintro _ ⟨E, rfl⟩; go_simp; (try with_reducible rfl))); simp only [Act.put, tk])
  (refine wpF_take2 (v := ?_) 5 rfl (by kernel_rfl) (fun _ _ _ h => h) hI rfl ?_ ?_; rotate_left; (focus (rintro _ ⟨E, rfl⟩; go_simp; (try with_reducible rfl))); simp only [Act.put, tk])
  (refine wpF_take2 (v := ?_) 6 rfl (by kernel_rfl) (fun _ _ _ h => h) hI rfl ?_ ?_; rotate_left; (focus (rintro _ ⟨E, rfl⟩; go_simp; (try with_reducible rfl))); simp only [Act.put, tk])
  (refine wpF_take2 (v := ?_) 7 rfl (by kernel_rfl) (fun _ _ _ h => h) hI rfl ?_ ?_; rotate_left; (focus (rintro _ ⟨E, rfl⟩; go_simp; (try with_reducible rfl))); simp only [Act.put, tk])
  (refine wpF_take2 (v := ?_) 8 rfl (by kernel_rfl) (fun _ _ _ h => h) hI rfl ?_ ?_; rotate_left; (focus (rintro _ ⟨E, rfl⟩; go_simp; (try with_reducible rfl))); simp only [Act.put, tk])
  (refine wpF_one 9 rfl (by kernel_rfl) rfl (fun K hK => ?_))
  go_simp
  (refine hK _ _ (fun h => absurd (by simp) h) (fun _ => ?_); clear hK K; try simp only [Act.put, tk])
  (refine wpF_done (by kernel_rfl) ?_ _)
  clear c0 c1 lc r1 r2 u1 u2 v1 v2 m1 m2
  by_cases h1 : x ≤ y
  · have g1 : decide ((x : Int) ≤ (y : Int)) = true := by simp; omega
    have g2 : decide (x ≤ y) = true := by simp; omega
    by_cases h2 : y ≤ T.size
    · have g3 : decide ((y : Int) ≤ (T.size : Int)) = true := by simp; omega
      have g4 : decide (y ≤ T.size) = true := by simp; omega
      rw [if_pos ⟨h1, h2⟩] at hW
      have HW := Lib.hid hW
      have i0 : (0 : Int) ≤ (x : Int) := by omega
      have i1 : (x : Int) ≤ (y : Int) := by omega
      have i2 : (y : Int) ≤ (T.size : Int) := by omega
      have hss : ((T.extract x y).toList == (T.extract x y).toList) = true := by simp
      clear hW h1 h2 hx7 hy7
      have f1 := F_of x
      have f2 := F_of y
      clear hss
      go_wp2_with fail
      refine (HA.out _).mono ?_
      rintro e w3 ⟨rfl, rfl⟩
      go_wp2_with fail
      refine (HR.out _).mono ?_
      rintro e w3 ⟨rfl, rfl⟩
      have hrr : (R.toList == R.toList) = true := by simp
      go_wp2_with fail
      refine (HW.out _).mono ?_
      rintro e w3 ⟨rfl, rfl⟩
      go_wp2_with fail
      go_ret
      exact ⟨by first | rfl | simp, HK.out.trans hK0 (fun _ _ h => h)⟩
    · have g3 : decide ((y : Int) ≤ (T.size : Int)) = false := by simp; omega
      have g4 : decide (y ≤ T.size) = false := by simp; omega
      rw [if_neg (fun h => h2 h.2)] at hW
      have HW := Lib.hid hW
      clear hW h1 h2 hx7 hy7
      have f1 := F_of x
      have f2 := F_of y
      skip
      go_wp2_with fail
      refine (HA.out _).mono ?_
      rintro e w3 ⟨rfl, rfl⟩
      go_wp2_with fail
      refine (HR.out _).mono ?_
      rintro e w3 ⟨rfl, rfl⟩
      have hrr : (R.toList == R.toList) = true := by simp
      go_wp2_with fail
      refine (HW.out _).mono ?_
      rintro e w3 ⟨rfl, rfl⟩
      go_wp2_with fail
      go_ret
      exact ⟨by first | rfl | simp, HK.out.trans hK0 (fun _ _ h => h)⟩
  · have g1 : decide ((x : Int) ≤ (y : Int)) = false := by simp; omega
    have g2 : decide (x ≤ y) = false := by simp; omega
    rw [if_neg (fun h => h1 h.1)] at hW
    have HW := Lib.hid hW
    clear hW h1 hx7 hy7
    have f1 := F_of x
    have f2 := F_of y
    skip
    go_wp2_with fail
    refine (HA.out _).mono ?_
    rintro e w3 ⟨rfl, rfl⟩
    go_wp2_with fail
    refine (HR.out _).mono ?_
    rintro e w3 ⟨rfl, rfl⟩
    have hrr : (R.toList == R.toList) = true := by simp
    go_wp2_with fail
    refine (HW.out _).mono ?_
    rintro e w3 ⟨rfl, rfl⟩
    go_wp2_with fail
    go_ret
    exact ⟨by first | rfl | simp, HK.out.trans hK0 (fun _ _ h => h)⟩

theorem txt_any (T : ByteArray) (a b : Nat) (p q : Int) (w : World) (hp : 0 ≤ p ∧ p ≤ 65535) (hq : 0 ≤ q ∧ q ≤ 65535) :
    Calls Try.prog 11 #[.string T, .float .f64 a, .float .f64 b, .agg #[.int .u16 p, .int .u16 q]] w fun e w' => e = .returned (.bool true) ∧ Keep Nb w w' := by
  by_cases h6 : T.size ≤ 600
  · exact txt_true T a b p q w h6 hp hq
  · exact txt_long T a b p q w (by omega)

end Go.Proofs.Ytkidjbfapldmbaa
