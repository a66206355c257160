/- For every input BracketRange returns true. -/
import Derived.Test.YtfjipiibkmapkaaEqS
import Derived.Laws.Bits64b
import Derived.Laws.IdiomStrings
namespace Go.Proofs.Ytfjipiibkmapkaa
set_option linter.unusedVariables false
set_option linter.unusedSimpArgs false
open Go.RowKit
attribute [local go_sem] eqi24 eqi26 setEq_self

/-! The plain law -/
def inU (f : Nat → Int) : Prop := ∀ i, 0 ≤ f i ∧ f i < 18446744073709551616
theorem or_in (x y : Int) : 0 ≤ bits .or .u64 x y ∧ bits .or .u64 x y < 18446744073709551616 := by
  show 0 ≤ IntKind.u64.wrap _ ∧ IntKind.u64.wrap _ < _
  rw [IntKind.wrap_u64]
  omega
theorem setBit_in {f : Nat → Int} (h : inU f) (c : Nat) : inU (setBit f c) := fun i => by
  unfold setBit
  split
  · exact or_in _ _
  · exact h i
theorem withN_in : ∀ (n : Nat) {f : Nat → Int} (_ : inU f) (a : Nat), inU (withN f a n)
  | 0, _, h, _ => h
  | n + 1, _, h, a => withN_in n (setBit_in h a) (a + 1)
theorem or_zero {f : Nat → Int} (h : inU f) : orF zeroF f = f := by
  funext i
  have hi := h i
  have e : f i = ((f i).toNat : Int) := by omega
  show bits .or .u64 0 (f i) = f i
  rw [e]
  have := bits_or_u64_nat 0 (f i).toNat (by omega) (by omega)
  rw [Nat.zero_or] at this
  exact this

theorem add_ok (x y : ByteArray) (h : x.size + y.size ≤ 1000000) : Op.stringOp .add x y = pure (.string (x ++ y)) := by
  have : ¬ (((x.size + y.size : Nat) : Int) > IntKind.i64.max) := by
    have : IntKind.i64.max = 9223372036854775807 := rfl
    omega
  simp only [Op.stringOp, this, if_false]
theorem app_toList (x y : ByteArray) : (x ++ y).toList = x.toList ++ y.toList := by
  rw [ByteArray.toList_eq, ByteArray.toList_eq, ByteArray.toList_eq]; simp

theorem conv3 (w : World) (a b : UInt8) : (convert 45 9 (.slice (some ⟨w.heap.size, 0, none⟩) 3 3)).run Try.prog (w.alloc (.cells #[.int .u8 a.toNat, .int .u8 45, .int .u8 b.toNat] 5)) = .ok (.string ⟨#[a, 45, b]⟩) (w.alloc (.cells #[.int .u8 a.toNat, .int .u8 45, .int .u8 b.toNat] 5)) := by
  have h := run_convert_bytes_back (P := Try.prog) (w.alloc (.cells #[.int .u8 a.toNat, .int .u8 45, .int .u8 b.toNat] 5)) 45 9 5 ⟨w.heap.size, 0, none⟩ 3 [a, 45, b] Try.underlying45 Try.underlying5 Try.underlying9 (fun j hj => by
    have hB := Blk.new w #[.int .u8 a.toNat, .int .u8 45, .int .u8 b.toNat] 5
    have : j = 0 ∨ j = 1 ∨ j = 2 := by simp at hj; omega
    rw [Addr.add_lit]
    rcases this with rfl | rfl | rfl
    · exact Blk.cell hB 0 rfl
    · exact Blk.cell hB 1 rfl
    · exact Blk.cell hB 2 rfl)
  exact h

theorem special_yes (c : UInt8) (h : ¬ plainB c) (w : World) :
    Calls Try.prog 22 #[.int .u8 c.toNat] w fun e w' => e = .returned (.bool true) ∧ Keep Nb w w' := by
  by_cases e0 : c = 91
  · have m0 : ((c.toNat : Int) == 91) = true := by rw [e0]; rfl
    clear h e0
    go_enter Try.func22, Try.ntmps22
    go_wp2_with fail
    go_ret
    exact ⟨rfl, Keep.refl _ _⟩
  have m0 : ((c.toNat : Int) == 91) = false := u8_ne (n := 91) (by omega) e0
  by_cases e1 : c = 93
  · have m1 : ((c.toNat : Int) == 93) = true := by rw [e1]; rfl
    clear h e0 e1
    go_enter Try.func22, Try.ntmps22
    go_wp2_with fail
    go_ret
    exact ⟨rfl, Keep.refl _ _⟩
  have m1 : ((c.toNat : Int) == 93) = false := u8_ne (n := 93) (by omega) e1
  by_cases e2 : c = 94
  · have m2 : ((c.toNat : Int) == 94) = true := by rw [e2]; rfl
    clear h e0 e1 e2
    go_enter Try.func22, Try.ntmps22
    go_wp2_with fail
    go_ret
    exact ⟨rfl, Keep.refl _ _⟩
  have m2 : ((c.toNat : Int) == 94) = false := u8_ne (n := 94) (by omega) e2
  by_cases e3 : c = 45
  · have m3 : ((c.toNat : Int) == 45) = true := by rw [e3]; rfl
    clear h e0 e1 e2 e3
    go_enter Try.func22, Try.ntmps22
    go_wp2_with fail
    go_ret
    exact ⟨rfl, Keep.refl _ _⟩
  have m3 : ((c.toNat : Int) == 45) = false := u8_ne (n := 45) (by omega) e3
  by_cases e4 : c = 92
  · have m4 : ((c.toNat : Int) == 92) = true := by rw [e4]; rfl
    clear h e0 e1 e2 e3 e4
    go_enter Try.func22, Try.ntmps22
    go_wp2_with fail
    go_ret
    exact ⟨rfl, Keep.refl _ _⟩
  have m4 : ((c.toNat : Int) == 92) = false := u8_ne (n := 92) (by omega) e4
  by_cases e5 : c = 10
  · have m5 : ((c.toNat : Int) == 10) = true := by rw [e5]; rfl
    clear h e0 e1 e2 e3 e4 e5
    go_enter Try.func22, Try.ntmps22
    go_wp2_with fail
    go_ret
    exact ⟨rfl, Keep.refl _ _⟩
  have m5 : ((c.toNat : Int) == 10) = false := u8_ne (n := 10) (by omega) e5
  exact absurd ⟨e0, e1, e2, e3, e4, e5⟩ h

theorem special_no (c : UInt8) (h : plainB c) (w : World) :
    Calls Try.prog 22 #[.int .u8 c.toNat] w fun e w' => e = .returned (.bool false) ∧ Keep Nb w w' := by
  obtain ⟨e0, e1, e2, e3, e4, e5⟩ := h
  have m0 : ((c.toNat : Int) == 91) = false := u8_ne (n := 91) (by omega) e0
  have m1 : ((c.toNat : Int) == 93) = false := u8_ne (n := 93) (by omega) e1
  have m2 : ((c.toNat : Int) == 94) = false := u8_ne (n := 94) (by omega) e2
  have m3 : ((c.toNat : Int) == 45) = false := u8_ne (n := 45) (by omega) e3
  have m4 : ((c.toNat : Int) == 92) = false := u8_ne (n := 92) (by omega) e4
  have m5 : ((c.toNat : Int) == 10) = false := u8_ne (n := 10) (by omega) e5
  clear e0 e1 e2 e3 e4 e5
  go_enter Try.func22, Try.ntmps22
  go_wp2_with fail
  go_ret
  exact ⟨rfl, Keep.refl _ _⟩

theorem range_special (a b : UInt8) (h : ¬ (plainB a ∧ plainB b)) (w : World) :
    Calls Try.prog 7 #[.int .u8 a.toNat, .int .u8 b.toNat] w fun e w' => e = .returned (.bool true) ∧ Keep Nb w w' := by
  by_cases ha : plainB a
  · have hb : ¬ plainB b := fun hb => h ⟨ha, hb⟩
    have HA := Lib.hid (fun wx => special_no a ha wx)
    have HB := Lib.hid (fun wx => special_yes b hb wx)
    clear h ha hb
    go_enter Try.func7, Try.ntmps7
    go_wp2_with fail
    refine (awake_any _).mono ?_
    rintro e w2 ⟨rfl, hk2⟩
    go_wp2_with fail
    refine (HA.out _).mono ?_
    rintro e w3 ⟨rfl, hk3⟩
    go_wp2_with fail
    refine (HB.out _).mono ?_
    rintro e w4 ⟨rfl, hk4⟩
    go_wp2_with fail
    refine (awake_any _).mono ?_
    rintro e w5 ⟨rfl, hk5⟩
    go_wp2_with fail
    go_ret
    exact ⟨rfl, ((hk2.trans hk3 (fun _ _ h => h)).trans hk4 (fun _ _ h => h)).trans hk5 (fun _ _ h => h)⟩
  · have HA := Lib.hid (fun wx => special_yes a ha wx)
    clear h ha
    go_enter Try.func7, Try.ntmps7
    go_wp2_with fail
    refine (awake_any _).mono ?_
    rintro e w2 ⟨rfl, hk2⟩
    go_wp2_with fail
    refine (HA.out _).mono ?_
    rintro e w3 ⟨rfl, hk3⟩
    go_wp2_with fail
    refine (awake_any _).mono ?_
    rintro e w5 ⟨rfl, hk5⟩
    go_wp2_with fail
    go_ret
    exact ⟨rfl, (hk2.trans hk3 (fun _ _ h => h)).trans hk5 (fun _ _ h => h)⟩

set_option maxRecDepth 100000 in
set_option maxHeartbeats 2000000 in
theorem range_ok (a b : UInt8) (ha : plainB a) (hb : plainB b) (hab : a.toNat ≤ b.toNat) (w : World) :
    Calls Try.prog 7 #[.int .u8 a.toNat, .int .u8 b.toNat] w fun e w' => e = .returned (.bool true) ∧ Keep Nb w w' := by
  have HA := Lib.hid (fun wx => special_no a ha wx)
  have HB := Lib.hid (fun wx => special_no b hb wx)
  have hsz : ((⟨#[91]⟩ ++ ⟨#[a, 45, b]⟩ ++ ⟨#[93]⟩ : ByteArray)).toList = [91, a, 45, b, 93] := by
    rw [app_toList, app_toList, ByteArray.toList_eq, ByteArray.toList_eq, ByteArray.toList_eq]; rfl
  have HP := Lib.hid (fun wx => parse_ok (⟨#[91]⟩ ++ ⟨#[a, 45, b]⟩ ++ ⟨#[93]⟩) a b hsz ha hb hab wx)
  rw [or_zero (f := withF zeroF a.toNat b.toNat) (withN_in _ (fun _ => by simp [zeroF]) _)] at HP
  have HW := Lib.hid (fun wx => with_r zeroF a.toNat b.toNat (UInt8.toNat_lt a) (UInt8.toNat_lt b) wx)
  generalize withF zeroF a.toNat b.toNat = f at *
  have a1 := add_ok ⟨#[91]⟩ ⟨#[a, 45, b]⟩ (by show 1 + 3 ≤ 1000000; decide)
  have a2 := add_ok (⟨#[91]⟩ ++ ⟨#[a, 45, b]⟩) ⟨#[93]⟩ (by rw [ByteArray.size_append]; show 1 + 3 + 1 ≤ 1000000; decide)
  have g1 : decide ((b.toNat : Int) < (a.toNat : Int)) = false := by simp; omega
  have g2 : decide (b.toNat < a.toNat) = false := by simp; omega
  clear ha hb hab hsz
  simp only [setRow, zeroF] at HP HW
  go_enter Try.func7, Try.ntmps7
  go_wp2_with fail
  refine (awake_any _).mono ?_
  rintro e w2 ⟨rfl, hk2⟩
  go_wp2_with fail
  refine (HA.out _).mono ?_
  rintro e w3 ⟨rfl, hk3⟩
  go_wp2_with fail
  refine (HB.out _).mono ?_
  rintro e w4 ⟨rfl, hk4⟩
  have hcv := conv3 w4 a b
  have hk4' : Keep Nb w (w4.alloc (.cells #[.int .u8 a.toNat, .int .u8 45, .int .u8 b.toNat] 5)) := Keep.alloc ((hk2.trans hk3 (fun _ _ h => h)).trans hk4 (fun _ _ h => h)) _
  go_wp2_with fail
  refine (HP.out _).mono ?_
  rintro e w5 ⟨rfl, hk5⟩
  have hk5' := hk4'.trans hk5 (fun _ _ h => h)
  have hb6 : Blk (w5.alloc (.cells #[.int .u64 (f 0), .int .u64 (f 1), .int .u64 (f 2), .int .u64 (f 3)] 26)) w5.heap.size #[.int .u64 (f 0), .int .u64 (f 1), .int .u64 (f 2), .int .u64 (f 3)] 26 := Blk.new w5 _ _
  have hk6 : Keep Nb w (w5.alloc (.cells #[.int .u64 (f 0), .int .u64 (f 1), .int .u64 (f 2), .int .u64 (f 3)] 26)) := Keep.alloc hk5' _
  have c0 := hb6.cell 0 (u := .int .u64 (f 0)) rfl
  have c1 := hb6.cell 1 (u := .int .u64 (f 1)) rfl
  have c2 := hb6.cell 2 (u := .int .u64 (f 2)) rfl
  have c3 := hb6.cell 3 (u := .int .u64 (f 3)) rfl
  have l6 := hb6.lt
  clear hb6 hk5 hk5' hk4'
  go_wp2_with fail
  (refine wp_region_f [14] (InX Nb _) (by kernel_rfl) (InX.mk (Keep.drew (Keep.refl _ _))) (fun hI => ?_))
  have xx : ∀ k, ¬ Nb k := fun _ h => h
  have hK0 := hk6.drew
  have hI0 := hI
  (refine wpF_take (v := ?_) 0 rfl (by kernel_rfl) (by kernel_rfl) (by kernel_rfl) (by kernel_rfl) (fun _ _ _ h => h) (by assumption) rfl ?_ ?_; rotate_left; (focus (rintro _ ⟨E, rfl⟩; go_simp; (try with_reducible rfl))); simp only [Act.put, List.getElem_toArray, List.getElem_cons_succ, List.getElem_cons_zero, List.setIfInBounds_toArray, List.set_cons_zero, List.set_cons_succ])
  (refine wpF_take (v := ?_) 1 rfl (by kernel_rfl) (by kernel_rfl) (by kernel_rfl) (by kernel_rfl) (fun _ _ _ h => h) (by assumption) rfl ?_ ?_; rotate_left; (focus (rintro _ ⟨E, rfl⟩; go_simp; (try with_reducible rfl))); simp only [Act.put, List.getElem_toArray, List.getElem_cons_succ, List.getElem_cons_zero, List.setIfInBounds_toArray, List.set_cons_zero, List.set_cons_succ])
  (refine wpF_take (v := ?_) 2 rfl (by kernel_rfl) (by kernel_rfl) (by kernel_rfl) (by kernel_rfl) (fun _ _ _ h => h) (by assumption) rfl ?_ ?_; rotate_left; (focus (rintro _ ⟨E, rfl⟩; go_simp; (try with_reducible rfl))); simp only [Act.put, List.getElem_toArray, List.getElem_cons_succ, List.getElem_cons_zero, List.setIfInBounds_toArray, List.set_cons_zero, List.set_cons_succ])
  (refine wpF_take (v := ?_) 3 rfl (by kernel_rfl) (by kernel_rfl) (by kernel_rfl) (by kernel_rfl) (fun _ _ _ h => h) (by assumption) rfl ?_ ?_; rotate_left; (focus (rintro _ ⟨E, rfl⟩; go_simp; (try with_reducible rfl))); simp only [Act.put, List.getElem_toArray, List.getElem_cons_succ, List.getElem_cons_zero, List.setIfInBounds_toArray, List.set_cons_zero, List.set_cons_succ])
  (refine wpF_take (v := ?_) 4 rfl (by kernel_rfl) (by kernel_rfl) (by kernel_rfl) (by kernel_rfl) (fun _ _ _ h => h) (by assumption) rfl ?_ ?_; rotate_left; (focus (rintro _ ⟨E, rfl⟩; go_simp; (try with_reducible rfl))); simp only [Act.put, List.getElem_toArray, List.getElem_cons_succ, List.getElem_cons_zero, List.setIfInBounds_toArray, List.set_cons_zero, List.set_cons_succ])
  (refine wpF_take (v := ?_) 5 rfl (by kernel_rfl) (by kernel_rfl) (by kernel_rfl) (by kernel_rfl) (fun _ _ _ h => h) (by assumption) rfl ?_ ?_; rotate_left; (focus (rintro _ ⟨E, rfl⟩; go_simp; (try with_reducible rfl))); simp only [Act.put, List.getElem_toArray, List.getElem_cons_succ, List.getElem_cons_zero, List.setIfInBounds_toArray, List.set_cons_zero, List.set_cons_succ])
  (refine wpF_take (v := ?_) 6 rfl (by kernel_rfl) (by kernel_rfl) (by kernel_rfl) (by kernel_rfl) (fun _ _ _ h => h) (by assumption) rfl ?_ ?_; rotate_left; (focus (rintro _ ⟨E, rfl⟩; go_simp; (try with_reducible rfl))); simp only [Act.put, List.getElem_toArray, List.getElem_cons_succ, List.getElem_cons_zero, List.setIfInBounds_toArray, List.set_cons_zero, List.set_cons_succ])
  (refine wpF_take (v := ?_) 7 rfl (by kernel_rfl) (by kernel_rfl) (by kernel_rfl) (by kernel_rfl) (fun _ _ _ h => h) (by assumption) rfl ?_ ?_; rotate_left; (focus (rintro _ ⟨E, rfl⟩; go_simp; (try with_reducible rfl))); simp only [Act.put, List.getElem_toArray, List.getElem_cons_succ, List.getElem_cons_zero, List.setIfInBounds_toArray, List.set_cons_zero, List.set_cons_succ])
  (refine wpF_take (v := ?_) 8 rfl (by kernel_rfl) (by kernel_rfl) (by kernel_rfl) (by kernel_rfl) (fun _ _ _ h => h) (by assumption) rfl ?_ ?_; rotate_left; (focus (rintro _ ⟨E, rfl⟩; go_simp; (try with_reducible rfl))); simp only [Act.put, List.getElem_toArray, List.getElem_cons_succ, List.getElem_cons_zero, List.setIfInBounds_toArray, List.set_cons_zero, List.set_cons_succ])
  (refine wpF_take (v := ?_) 9 rfl (by kernel_rfl) (by kernel_rfl) (by kernel_rfl) (by kernel_rfl) (fun _ _ _ h => h) (by assumption) rfl ?_ ?_; rotate_left; (focus (rintro _ ⟨E, rfl⟩; go_simp; (try with_reducible rfl))); simp only [Act.put, List.getElem_toArray, List.getElem_cons_succ, List.getElem_cons_zero, List.setIfInBounds_toArray, List.set_cons_zero, List.set_cons_succ])
  (refine wpF_take (v := ?_) 10 rfl (by kernel_rfl) (by kernel_rfl) (by kernel_rfl) (by kernel_rfl) (fun _ _ _ h => h) (by assumption) rfl ?_ ?_; rotate_left; (focus (rintro _ ⟨E, rfl⟩; go_simp; (try with_reducible rfl))); simp only [Act.put, List.getElem_toArray, List.getElem_cons_succ, List.getElem_cons_zero, List.setIfInBounds_toArray, List.set_cons_zero, List.set_cons_succ])
  (refine wpF_one 11 rfl (by kernel_rfl) rfl (fun K hK => ?_))
  go_simp
  refine (HW.out _).mono ?_
  rintro e w7 ⟨rfl, hk7⟩
  have hk7' := hK0.trans hk7 (fun _ _ h => h)
  (refine hK _ _ (fun _ => InX.mk (Keep.trans (Keep.drew (Keep.refl _ _)) hk7 (fun _ _ h => h))) (fun hI => ?_); have hI := hI (by simp); clear hK K; try simp only [Act.put, List.getElem_toArray, List.getElem_cons_succ, List.getElem_cons_zero, List.setIfInBounds_toArray, List.set_cons_zero, List.set_cons_succ])
  (refine wpF_take (v := ?_) 12 rfl (by kernel_rfl) (by kernel_rfl) (by kernel_rfl) (by kernel_rfl) (fun _ _ _ h => h) (by assumption) rfl ?_ ?_; rotate_left; (focus (rintro _ ⟨E, rfl⟩; go_simp; (try with_reducible rfl))); simp only [Act.put, List.getElem_toArray, List.getElem_cons_succ, List.getElem_cons_zero, List.setIfInBounds_toArray, List.set_cons_zero, List.set_cons_succ])
  (refine wpF_take (v := ?_) 13 rfl (by kernel_rfl) (by kernel_rfl) (by kernel_rfl) (by kernel_rfl) (fun _ _ _ h => h) (by assumption) rfl ?_ ?_; rotate_left; (focus (rintro _ ⟨E, rfl⟩; go_simp; (try with_reducible rfl))); simp only [Act.put, List.getElem_toArray, List.getElem_cons_succ, List.getElem_cons_zero, List.setIfInBounds_toArray, List.set_cons_zero, List.set_cons_succ])
  (refine wpF_one 14 rfl (by kernel_rfl) rfl (fun K hK => ?_))
  go_simp
  (refine hK _ _ (fun h => absurd (by simp) h) (fun _ => ?_); clear hK K; try simp only [Act.put, List.getElem_toArray, List.getElem_cons_succ, List.getElem_cons_zero, List.setIfInBounds_toArray, List.set_cons_zero, List.set_cons_succ])
  (refine wpF_done (by kernel_rfl) ?_ _)
  go_wp2_with fail
  go_ret
  exact ⟨rfl, hk7'⟩

set_option maxRecDepth 100000 in
set_option maxHeartbeats 2000000 in
theorem range_bad (a b : UInt8) (ha : plainB a) (hb : plainB b) (hab : b.toNat < a.toNat) (w : World) :
    Calls Try.prog 7 #[.int .u8 a.toNat, .int .u8 b.toNat] w fun e w' => e = .returned (.bool true) ∧ Keep Nb w w' := by
  have HA := Lib.hid (fun wx => special_no a ha wx)
  have HB := Lib.hid (fun wx => special_no b hb wx)
  have hsz : ((⟨#[91]⟩ ++ ⟨#[a, 45, b]⟩ ++ ⟨#[93]⟩ : ByteArray)).toList = [91, a, 45, b, 93] := by
    rw [app_toList, app_toList, ByteArray.toList_eq, ByteArray.toList_eq, ByteArray.toList_eq]; rfl
  have HP := Lib.hid (fun wx => parse_bad (⟨#[91]⟩ ++ ⟨#[a, 45, b]⟩ ++ ⟨#[93]⟩) a b hsz ha hb hab wx)
  have a1 := add_ok ⟨#[91]⟩ ⟨#[a, 45, b]⟩ (by show 1 + 3 ≤ 1000000; decide)
  have a2 := add_ok (⟨#[91]⟩ ++ ⟨#[a, 45, b]⟩) ⟨#[93]⟩ (by rw [ByteArray.size_append]; show 1 + 3 + 1 ≤ 1000000; decide)
  have g1 : decide ((b.toNat : Int) < (a.toNat : Int)) = true := by simp; omega
  have g2 : decide (b.toNat < a.toNat) = true := by simp; omega
  clear ha hb hab hsz
  simp only [setRow, zeroF] at HP
  go_enter Try.func7, Try.ntmps7
  go_wp2_with fail
  refine (awake_any _).mono ?_
  rintro e w2 ⟨rfl, hk2⟩
  go_wp2_with fail
  refine (HA.out _).mono ?_
  rintro e w3 ⟨rfl, hk3⟩
  go_wp2_with fail
  refine (HB.out _).mono ?_
  rintro e w4 ⟨rfl, hk4⟩
  have hcv := conv3 w4 a b
  have hk4' : Keep Nb w (w4.alloc (.cells #[.int .u8 a.toNat, .int .u8 45, .int .u8 b.toNat] 5)) := Keep.alloc ((hk2.trans hk3 (fun _ _ h => h)).trans hk4 (fun _ _ h => h)) _
  go_wp2_with fail
  refine (HP.out _).mono ?_
  rintro e w5 ⟨rfl, hk5⟩
  have hk5' := hk4'.trans hk5 (fun _ _ h => h)
  have hb6 : Blk (w5.alloc (.cells #[.int .u64 (0), .int .u64 (0), .int .u64 (0), .int .u64 (0)] 26)) w5.heap.size #[.int .u64 (0), .int .u64 (0), .int .u64 (0), .int .u64 (0)] 26 := Blk.new w5 _ _
  have hk6 : Keep Nb w (w5.alloc (.cells #[.int .u64 (0), .int .u64 (0), .int .u64 (0), .int .u64 (0)] 26)) := Keep.alloc hk5' _
  have c0 := hb6.cell 0 (u := .int .u64 (0)) rfl
  have c1 := hb6.cell 1 (u := .int .u64 (0)) rfl
  have c2 := hb6.cell 2 (u := .int .u64 (0)) rfl
  have c3 := hb6.cell 3 (u := .int .u64 (0)) rfl
  have l6 := hb6.lt
  clear hb6 hk5 hk5' hk4'
  go_wp2_with fail
  go_ret
  exact ⟨rfl, hk6⟩

theorem lawrange_any (a b : UInt8) (w : World) :
    Calls Try.prog 7 #[.int .u8 a.toNat, .int .u8 b.toNat] w fun e w' => e = .returned (.bool true) ∧ Keep Nb w w' := by
  by_cases h : plainB a ∧ plainB b
  · by_cases hab : a.toNat ≤ b.toNat
    · exact range_ok a b h.1 h.2 hab w
    · exact range_bad a b h.1 h.2 (by omega) w
  · exact range_special a b h w

end Go.Proofs.Ytfjipiibkmapkaa
