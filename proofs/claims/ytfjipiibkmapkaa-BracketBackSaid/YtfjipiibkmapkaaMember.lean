/- The member of a range between two plain bytes: member. -/
import Derived.Test.YtfjipiibkmapkaaSign
namespace Go.Proofs.Ytfjipiibkmapkaa
set_option linter.unusedVariables false
set_option linter.unusedSimpArgs false
open Go.RowKit

theorem pre_one {t l : List UInt8} {x : UInt8} (ht : t = [x]) (hc : l[0]? = some x) : preB t l = true := by
  subst ht
  cases l with
  | nil => simp at hc
  | cons y q => simp at hc; subst hc; simp [preB]
theorem pre_two {t l : List UInt8} {x z c : UInt8} {r : List UInt8} (ht : t = x :: z :: r) (hc : l[1]? = some c) (h : c ≠ z) : preB t l = false := by
  subst ht
  cases l with
  | nil => simp at hc
  | cons y q =>
    cases q with
    | nil => simp at hc
    | cons y2 q2 =>
      simp at hc
      subst hc
      refine beq_eq_false_iff_ne.2 fun e => h ?_
      simp at e
      exact e.2.1

set_option maxRecDepth 100000 in
set_option maxHeartbeats 4000000 in
theorem member_ok (p : Nat) (s : ByteArray) (a : Nat) (x y : UInt8) (hx : s.toList[a]? = some x) (hd : s.toList[a + 1]? = some 45) (hy : s.toList[a + 2]? = some y) (hx' : plainB x) (hy' : plainB y) (hxy : x.toNat ≤ y.toNat) (hlen : a + 3 < s.size) (hz : s.size ≤ 1000000) (w : World) (hb : RdAt w p s a) :
    Calls Try.prog 27 #[.pointer (some ⟨p, 0, none⟩)] w fun e w' => e = .returned (.tuple #[.agg (setRow (withF zeroF x.toNat y.toNat)), .bool true]) ∧ RdAt w' p s (a + 3) ∧ Keep (Ob p) w w' := by
  have hl := hb.lt
  have P1 : preB (⟨#[91, 58]⟩ : ByteArray).toList (s.toList.drop a) = false := pre_ne (x := 91) (by rw [ByteArray.toList_eq]) (by rw [List.getElem?_drop]; exact hx) hx'.1
  have P2 : preB (⟨#[91, 61]⟩ : ByteArray).toList (s.toList.drop a) = false := pre_ne (x := 91) (by rw [ByteArray.toList_eq]) (by rw [List.getElem?_drop]; exact hx) hx'.1
  have P3 : preB (⟨#[45]⟩ : ByteArray).toList (s.toList.drop (a + 1)) = true := pre_one (by rw [ByteArray.toList_eq]) (by rw [List.getElem?_drop]; exact hd)
  have P4 : preB (⟨#[45, 93]⟩ : ByteArray).toList (s.toList.drop (a + 1)) = false := pre_two (x := 45) (z := 93) (by rw [ByteArray.toList_eq]) (by rw [List.getElem?_drop]; exact hy) hy'.2.1
  have P5 : preB (⟨#[45]⟩ : ByteArray).toList (s.toList.drop (a + 2)) = false := pre_ne (x := 45) (by rw [ByteArray.toList_eq]) (by rw [List.getElem?_drop]; exact hy) hy'.2.2.2.1
  have HH := Lib.hid (fun (q : Nat) (t : ByteArray) wx (hx : RdAt wx p s q) (hq : q ≤ s.size) => has_any p s q t wx hx hq)
  have HX := Lib.hid (fun wx (h : RdAt wx p s a) => sign_plain p s a x hx hx' hz wx h)
  have HY := Lib.hid (fun wx (h : RdAt wx p s (a + 2)) => sign_plain p s (a + 2) y hy hy' hz wx h)
  have Q1 := Lib.hid P1; have Q2 := Lib.hid P2; have Q3 := Lib.hid P3; have Q4 := Lib.hid P4; have Q5 := Lib.hid P5
  have g1 : decide ((y.toNat : Int) < (x.toNat : Int)) = false := by simp; omega
  have g2 : decide (y.toNat < x.toNat) = false := by simp; omega
  have HXY := Lib.hid hxy
  clear P1 P2 P3 P4 P5 hx hd hy hx' hy' hxy
  go_enter Try.func27, Try.ntmps27
  go_wp2_with fail
  have hr0 : Blk (w.alloc (.cells (setRow zeroF) 26)) w.heap.size (setRow zeroF) 26 := Blk.new w _ _
  have hk0 : Keep Nb w (w.alloc (.cells (setRow zeroF) 26)) := Keep.alloc (Keep.refl _ _) _
  have hb0 : RdAt (w.alloc (.cells (setRow zeroF) 26)) p s a := hb.keep hk0 id
  refine (HH.out a ⟨#[91, 58]⟩ _ hb0 (by omega)).mono ?_
  rintro e w1 ⟨he, hkn⟩
  rw [Q1.out] at he
  subst he
  have hb1 := hb0.keep hkn id
  have hr1 := hr0.keep hkn id
  have hk1 := hk0.trans hkn (fun _ _ h => h)
  clear hkn hb0 hr0 hk0
  go_wp2_with fail
  refine (HH.out a ⟨#[91, 61]⟩ _ hb1 (by omega)).mono ?_
  rintro e w2 ⟨he, hkn⟩
  rw [Q2.out] at he
  subst he
  have hb2 := hb1.keep hkn id
  have hr2 := hr1.keep hkn id
  have hk2 := hk1.trans hkn (fun _ _ h => h)
  clear hkn hb1 hr1 hk1
  go_wp2_with fail
  refine (HX.out _ hb2).mono ?_
  rintro e w3 ⟨rfl, hb3, hkn⟩
  have hr3 := hr2.keep hkn (by simp only [Ob]; omega)
  have hk3 : Keep (Ob p) w w3 := (hk2.mono fun _ _ h => h.elim).trans hkn (fun _ _ h => h)
  clear hkn hb2 hr2 hk2
  have c0 := hb3.cell 0 (u := .string s) rfl
  have c1 := hb3.cell 1 (u := .int .i64 ((a + 1 : Nat) : Int)) rfl
  have hl3 := hb3.lt
  have j1 : decide ((s.size : Int) ≤ (a : Int) + 1 + 1) = false := by simp; omega
  have j2 : decide (s.size ≤ a + 1 + 1) = false := by simp; omega
  have hw : IntKind.i64.wrap ((a : Int) + 1 + 1) = (a : Int) + 1 + 1 := by rw [IntKind.wrap_i64]; omega
  go_wp2_with fail
  (refine wp_region_f [] (InX Nb _) (by kernel_rfl) (InX.mk (Keep.drew (Keep.refl _ _))) (fun hI => ?_))
  have xx : ∀ k, ¬ Nb k := fun _ h => h
  have hK0 : Keep Nb w3 w3.drew := (Keep.refl _ _).drew
  have hbX := hb3.drew
  generalize w3.drew = x0 at hK0 hbX hI ⊢
  (refine wpF_take (v := ?_) 0 rfl (by kernel_rfl) (by kernel_rfl) (by kernel_rfl) (by kernel_rfl) (fun _ _ _ h => h) (by assumption) rfl ?_ ?_; rotate_left; (focus (rintro _ ⟨E, rfl⟩; go_simp; (try with_reducible rfl))); simp only [Act.put, List.getElem_toArray, List.getElem_cons_succ, List.getElem_cons_zero, List.setIfInBounds_toArray, List.set_cons_zero, List.set_cons_succ])
  (refine wpF_one 1 rfl (by kernel_rfl) rfl (fun K hK => ?_))
  go_simp
  refine (HH.out (a + 1) ⟨#[45]⟩ _ hbX (by omega)).mono ?_
  rintro e y1 ⟨he, hkn⟩
  rw [Q3.out] at he
  subst he
  replace hbX := hbX.keep hkn id
  replace hK0 := Keep.trans hK0 hkn (fun _ _ h => h)
  clear hkn
  (refine hK _ _ (fun _ => InX.mk hK0) (fun hI => ?_); have hI := hI (by simp); clear hK K; try simp only [Act.put, List.getElem_toArray, List.getElem_cons_succ, List.getElem_cons_zero, List.setIfInBounds_toArray, List.set_cons_zero, List.set_cons_succ])
  (refine wpF_take (v := ?_) 2 rfl (by kernel_rfl) (by kernel_rfl) (by kernel_rfl) (by kernel_rfl) (fun _ _ _ h => h) (by assumption) rfl ?_ ?_; rotate_left; (focus (rintro _ ⟨E, rfl⟩; go_simp; (try with_reducible rfl))); simp only [Act.put, List.getElem_toArray, List.getElem_cons_succ, List.getElem_cons_zero, List.setIfInBounds_toArray, List.set_cons_zero, List.set_cons_succ])
  (refine wpF_take (v := ?_) 3 rfl (by kernel_rfl) (by kernel_rfl) (by kernel_rfl) (by kernel_rfl) (fun _ _ _ h => h) (by assumption) rfl ?_ ?_; rotate_left; (focus (rintro _ ⟨E, rfl⟩; go_simp; (try with_reducible rfl))); simp only [Act.put, List.getElem_toArray, List.getElem_cons_succ, List.getElem_cons_zero, List.setIfInBounds_toArray, List.set_cons_zero, List.set_cons_succ])
  (refine wpF_take (v := ?_) 4 rfl (by kernel_rfl) (by kernel_rfl) (by kernel_rfl) (by kernel_rfl) (fun _ _ _ h => h) (by assumption) rfl ?_ ?_; rotate_left; (focus (rintro _ ⟨E, rfl⟩; go_simp; (try with_reducible rfl))); simp only [Act.put, List.getElem_toArray, List.getElem_cons_succ, List.getElem_cons_zero, List.setIfInBounds_toArray, List.set_cons_zero, List.set_cons_succ])
  (refine wpF_one 5 rfl (by kernel_rfl) rfl (fun K hK => ?_))
  go_simp
  refine (HH.out (a + 1) ⟨#[45, 93]⟩ _ hbX (by omega)).mono ?_
  rintro e y2 ⟨he, hkn⟩
  rw [Q4.out] at he
  subst he
  replace hbX := hbX.keep hkn id
  replace hK0 := Keep.trans hK0 hkn (fun _ _ h => h)
  clear hkn
  (refine hK _ _ (fun _ => InX.mk hK0) (fun hI => ?_); have hI := hI (by simp); clear hK K; try simp only [Act.put, List.getElem_toArray, List.getElem_cons_succ, List.getElem_cons_zero, List.setIfInBounds_toArray, List.set_cons_zero, List.set_cons_succ])
  (refine wpF_take (v := ?_) 6 rfl (by kernel_rfl) (by kernel_rfl) (by kernel_rfl) (by kernel_rfl) (fun _ _ _ h => h) (by assumption) rfl ?_ ?_; rotate_left; (focus (rintro _ ⟨E, rfl⟩; go_simp; (try with_reducible rfl))); simp only [Act.put, List.getElem_toArray, List.getElem_cons_succ, List.getElem_cons_zero, List.setIfInBounds_toArray, List.set_cons_zero, List.set_cons_succ])
  (refine wpF_take (v := ?_) 7 rfl (by kernel_rfl) (by kernel_rfl) (by kernel_rfl) (by kernel_rfl) (fun _ _ _ h => h) (by assumption) rfl ?_ ?_; rotate_left; (focus (rintro _ ⟨E, rfl⟩; go_simp; (try with_reducible rfl))); simp only [Act.put, List.getElem_toArray, List.getElem_cons_succ, List.getElem_cons_zero, List.setIfInBounds_toArray, List.set_cons_zero, List.set_cons_succ])
  (refine wpF_take (v := ?_) 8 rfl (by kernel_rfl) (by kernel_rfl) (by kernel_rfl) (by kernel_rfl) (fun _ _ _ h => h) (by assumption) rfl ?_ ?_; rotate_left; (focus (rintro _ ⟨E, rfl⟩; go_simp; (try with_reducible rfl))); simp only [Act.put, List.getElem_toArray, List.getElem_cons_succ, List.getElem_cons_zero, List.setIfInBounds_toArray, List.set_cons_zero, List.set_cons_succ])
  (refine wpF_take (v := ?_) 9 rfl (by kernel_rfl) (by kernel_rfl) (by kernel_rfl) (by kernel_rfl) (fun _ _ _ h => h) (by assumption) rfl ?_ ?_; rotate_left; (focus (rintro _ ⟨E, rfl⟩; go_simp; (try with_reducible rfl))); simp only [Act.put, List.getElem_toArray, List.getElem_cons_succ, List.getElem_cons_zero, List.setIfInBounds_toArray, List.set_cons_zero, List.set_cons_succ])
  (refine wpF_take (v := ?_) 10 rfl (by kernel_rfl) (by kernel_rfl) (by kernel_rfl) (by kernel_rfl) (fun _ _ _ h => h) (by assumption) rfl ?_ ?_; rotate_left; (focus (rintro _ ⟨E, rfl⟩; go_simp; (try with_reducible rfl))); simp only [Act.put, List.getElem_toArray, List.getElem_cons_succ, List.getElem_cons_zero, List.setIfInBounds_toArray, List.set_cons_zero, List.set_cons_succ])
  (refine wpF_take (v := ?_) 11 rfl (by kernel_rfl) (by kernel_rfl) (by kernel_rfl) (by kernel_rfl) (fun _ _ _ h => h) (by assumption) rfl ?_ ?_; rotate_left; (focus (rintro _ ⟨E, rfl⟩; go_simp; (try with_reducible rfl))); simp only [Act.put, List.getElem_toArray, List.getElem_cons_succ, List.getElem_cons_zero, List.setIfInBounds_toArray, List.set_cons_zero, List.set_cons_succ])
  (refine wpF_take (v := ?_) 12 rfl (by kernel_rfl) (by kernel_rfl) (by kernel_rfl) (by kernel_rfl) (fun _ _ _ h => h) (by assumption) rfl ?_ ?_; rotate_left; (focus (rintro _ ⟨E, rfl⟩; go_simp; (try with_reducible rfl))); simp only [Act.put, List.getElem_toArray, List.getElem_cons_succ, List.getElem_cons_zero, List.setIfInBounds_toArray, List.set_cons_zero, List.set_cons_succ])
  (refine wpF_take (v := ?_) 13 rfl (by kernel_rfl) (by kernel_rfl) (by kernel_rfl) (by kernel_rfl) (fun _ _ _ h => h) (by assumption) rfl ?_ ?_; rotate_left; (focus (rintro _ ⟨E, rfl⟩; go_simp; (try with_reducible rfl))); simp only [Act.put, List.getElem_toArray, List.getElem_cons_succ, List.getElem_cons_zero, List.setIfInBounds_toArray, List.set_cons_zero, List.set_cons_succ])
  (refine wpF_take (v := ?_) 14 rfl (by kernel_rfl) (by kernel_rfl) (by kernel_rfl) (by kernel_rfl) (fun _ _ _ h => h) (by assumption) rfl ?_ ?_; rotate_left; (focus (rintro _ ⟨E, rfl⟩; go_simp; (try with_reducible rfl))); simp only [Act.put, List.getElem_toArray, List.getElem_cons_succ, List.getElem_cons_zero, List.setIfInBounds_toArray, List.set_cons_zero, List.set_cons_succ])
  (refine wpF_take (v := ?_) 15 rfl (by kernel_rfl) (by kernel_rfl) (by kernel_rfl) (by kernel_rfl) (fun _ _ _ h => h) (by assumption) rfl ?_ ?_; rotate_left; (focus (rintro _ ⟨E, rfl⟩; go_simp; (try with_reducible rfl))); simp only [Act.put, List.getElem_toArray, List.getElem_cons_succ, List.getElem_cons_zero, List.setIfInBounds_toArray, List.set_cons_zero, List.set_cons_succ])
  (refine wpF_take (v := ?_) 16 rfl (by kernel_rfl) (by kernel_rfl) (by kernel_rfl) (by kernel_rfl) (fun _ _ _ h => h) (by assumption) rfl ?_ ?_; rotate_left; (focus (rintro _ ⟨E, rfl⟩; go_simp; (try with_reducible rfl))); simp only [Act.put, List.getElem_toArray, List.getElem_cons_succ, List.getElem_cons_zero, List.setIfInBounds_toArray, List.set_cons_zero, List.set_cons_succ])
  (refine wpF_take (v := ?_) 17 rfl (by kernel_rfl) (by kernel_rfl) (by kernel_rfl) (by kernel_rfl) (fun _ _ _ h => h) (by assumption) rfl ?_ ?_; rotate_left; (focus (rintro _ ⟨E, rfl⟩; go_simp; (try with_reducible rfl))); simp only [Act.put, List.getElem_toArray, List.getElem_cons_succ, List.getElem_cons_zero, List.setIfInBounds_toArray, List.set_cons_zero, List.set_cons_succ])
  (refine wpF_take (v := ?_) 18 rfl (by kernel_rfl) (by kernel_rfl) (by kernel_rfl) (by kernel_rfl) (fun _ _ _ h => h) (by assumption) rfl ?_ ?_; rotate_left; (focus (rintro _ ⟨E, rfl⟩; go_simp; (try with_reducible rfl))); simp only [Act.put, List.getElem_toArray, List.getElem_cons_succ, List.getElem_cons_zero, List.setIfInBounds_toArray, List.set_cons_zero, List.set_cons_succ])
  (refine wpF_take (v := ?_) 19 rfl (by kernel_rfl) (by kernel_rfl) (by kernel_rfl) (by kernel_rfl) (fun _ _ _ h => h) (by assumption) rfl ?_ ?_; rotate_left; (focus (rintro _ ⟨E, rfl⟩; go_simp; (try with_reducible rfl))); simp only [Act.put, List.getElem_toArray, List.getElem_cons_succ, List.getElem_cons_zero, List.setIfInBounds_toArray, List.set_cons_zero, List.set_cons_succ])
  (refine wpF_done (by kernel_rfl) ?_ _)
  clear hw
  have hr4 := hr3.keep hK0 id
  have hk4 : Keep (Ob p) w y2 := hk3.trans hK0 (fun _ _ h => h.elim)
  clear hI c0 c1 hb3 hr3 hk3 hK0
  have c1 := hbX.cell 1 (u := .int .i64 ((a + 1 : Nat) : Int)) rfl
  have f1 := hbX.frozen 1
  have l4 := hbX.lt
  have hb5 := RdAt.moved hbX 1
  have hr5 := hr4.setOther (p := ⟨p, 1, none⟩) (by simp; omega) (.int .i64 (((a + 1 : Nat) : Int) + ((1 : Nat) : Int)))
  have hk5 : Keep (Ob p) w (y2.setCell ⟨p, 1, none⟩ (.int .i64 (((a + 1 : Nat) : Int) + ((1 : Nat) : Int)))) := Keep.setCell (X := Ob p) (p := ⟨p, 1, none⟩) hk4 (Or.inr rfl) _
  have ec : (((a + 1 : Nat) : Int) + ((1 : Nat) : Int)) = (a : Int) + 1 + 1 := by omega
  rw [ec] at hb5 hr5 hk5
  have HB5 := Lib.hid hb5
  have HR5 := Lib.hid hr5
  have HK5 := Lib.hid hk5
  clear hb5 hr5 hk5 ec hbX hr4 hk4
  go_wp2_with fail
  refine (HH.out (a + 2) ⟨#[45]⟩ _ HB5.out (by omega)).mono ?_
  rintro e w5 ⟨he, hkn⟩
  rw [Q5.out] at he
  subst he
  have hb6 := HB5.out.keep hkn id
  have hr6 := HR5.out.keep hkn id
  have hk6 := HK5.out.trans hkn (fun _ _ h => h.elim)
  clear hkn HB5 HR5 HK5 c1 f1 l4
  go_wp2_with fail
  refine (HY.out _ hb6).mono ?_
  rintro e w7 ⟨rfl, hb7, hkn⟩
  have hr7 := hr6.keep hkn (by simp only [Ob]; omega)
  have hk7 : Keep (Ob p) w w7 := hk6.trans hkn (fun _ _ h => h)
  clear hkn hb6 hr6 hk6
  go_wp2_with fail
  refine (with_t zeroF x.toNat y.toNat (UInt8.toNat_lt x) (UInt8.toNat_lt y) _).mono ?_
  rintro e w8 ⟨rfl, hkn⟩
  have hb8 := hb7.keep hkn id
  have hr8 := hr7.keep hkn id
  have hk8 := hk7.trans hkn (fun _ _ h => h.elim)
  clear hkn hb7 hr7 hk7
  simp only [setRow]
  go_wp2_with (refine wpList_store_row rfl 26 (.tmp 2) (.tmp 95) rfl w.heap.size _ rfl rfl 26 _ hr8 sizeS1 rfl (by simp [Value.oneCell']) ?_)
  have hr9 : Blk (w8.setRow w.heap.size (setRow (withF zeroF x.toNat y.toNat))) w.heap.size (setRow (withF zeroF x.toNat y.toNat)) 26 := hr8.setRow _
  refine bodyPost_ret (results_ct Try.results27 _ _ w.heap.size 26 _ (0, 0) _ rfl hr9 Try.underlying26 rfl sizeS1) rfl ⟨rfl, hb8.setRowOther (by omega) _, Keep.setRow hk8 (Or.inl (Nat.le_refl _)) _⟩

set_option maxRecDepth 100000 in
set_option maxHeartbeats 4000000 in
theorem member_bad (p : Nat) (s : ByteArray) (a : Nat) (x y : UInt8) (hx : s.toList[a]? = some x) (hd : s.toList[a + 1]? = some 45) (hy : s.toList[a + 2]? = some y) (hx' : plainB x) (hy' : plainB y) (hxy : y.toNat < x.toNat) (hlen : a + 3 < s.size) (hz : s.size ≤ 1000000) (w : World) (hb : RdAt w p s a) :
    Calls Try.prog 27 #[.pointer (some ⟨p, 0, none⟩)] w fun e w' => e = .returned (.tuple #[.agg (setRow zeroF), .bool false]) ∧ RdAt w' p s (a + 3) ∧ Keep (Ob p) w w' := by
  have hl := hb.lt
  have P1 : preB (⟨#[91, 58]⟩ : ByteArray).toList (s.toList.drop a) = false := pre_ne (x := 91) (by rw [ByteArray.toList_eq]) (by rw [List.getElem?_drop]; exact hx) hx'.1
  have P2 : preB (⟨#[91, 61]⟩ : ByteArray).toList (s.toList.drop a) = false := pre_ne (x := 91) (by rw [ByteArray.toList_eq]) (by rw [List.getElem?_drop]; exact hx) hx'.1
  have P3 : preB (⟨#[45]⟩ : ByteArray).toList (s.toList.drop (a + 1)) = true := pre_one (by rw [ByteArray.toList_eq]) (by rw [List.getElem?_drop]; exact hd)
  have P4 : preB (⟨#[45, 93]⟩ : ByteArray).toList (s.toList.drop (a + 1)) = false := pre_two (x := 45) (z := 93) (by rw [ByteArray.toList_eq]) (by rw [List.getElem?_drop]; exact hy) hy'.2.1
  have P5 : preB (⟨#[45]⟩ : ByteArray).toList (s.toList.drop (a + 2)) = false := pre_ne (x := 45) (by rw [ByteArray.toList_eq]) (by rw [List.getElem?_drop]; exact hy) hy'.2.2.2.1
  have HH := Lib.hid (fun (q : Nat) (t : ByteArray) wx (hx : RdAt wx p s q) (hq : q ≤ s.size) => has_any p s q t wx hx hq)
  have HX := Lib.hid (fun wx (h : RdAt wx p s a) => sign_plain p s a x hx hx' hz wx h)
  have HY := Lib.hid (fun wx (h : RdAt wx p s (a + 2)) => sign_plain p s (a + 2) y hy hy' hz wx h)
  have Q1 := Lib.hid P1; have Q2 := Lib.hid P2; have Q3 := Lib.hid P3; have Q4 := Lib.hid P4; have Q5 := Lib.hid P5
  have g1 : decide ((y.toNat : Int) < (x.toNat : Int)) = true := by simp; omega
  have g2 : decide (y.toNat < x.toNat) = true := by simp; omega
  have HXY := Lib.hid hxy
  clear P1 P2 P3 P4 P5 hx hd hy hx' hy' hxy
  go_enter Try.func27, Try.ntmps27
  go_wp2_with fail
  have hr0 : Blk (w.alloc (.cells (setRow zeroF) 26)) w.heap.size (setRow zeroF) 26 := Blk.new w _ _
  have hk0 : Keep Nb w (w.alloc (.cells (setRow zeroF) 26)) := Keep.alloc (Keep.refl _ _) _
  have hb0 : RdAt (w.alloc (.cells (setRow zeroF) 26)) p s a := hb.keep hk0 id
  refine (HH.out a ⟨#[91, 58]⟩ _ hb0 (by omega)).mono ?_
  rintro e w1 ⟨he, hkn⟩
  rw [Q1.out] at he
  subst he
  have hb1 := hb0.keep hkn id
  have hr1 := hr0.keep hkn id
  have hk1 := hk0.trans hkn (fun _ _ h => h)
  clear hkn hb0 hr0 hk0
  go_wp2_with fail
  refine (HH.out a ⟨#[91, 61]⟩ _ hb1 (by omega)).mono ?_
  rintro e w2 ⟨he, hkn⟩
  rw [Q2.out] at he
  subst he
  have hb2 := hb1.keep hkn id
  have hr2 := hr1.keep hkn id
  have hk2 := hk1.trans hkn (fun _ _ h => h)
  clear hkn hb1 hr1 hk1
  go_wp2_with fail
  refine (HX.out _ hb2).mono ?_
  rintro e w3 ⟨rfl, hb3, hkn⟩
  have hr3 := hr2.keep hkn (by simp only [Ob]; omega)
  have hk3 : Keep (Ob p) w w3 := (hk2.mono fun _ _ h => h.elim).trans hkn (fun _ _ h => h)
  clear hkn hb2 hr2 hk2
  have c0 := hb3.cell 0 (u := .string s) rfl
  have c1 := hb3.cell 1 (u := .int .i64 ((a + 1 : Nat) : Int)) rfl
  have hl3 := hb3.lt
  have j1 : decide ((s.size : Int) ≤ (a : Int) + 1 + 1) = false := by simp; omega
  have j2 : decide (s.size ≤ a + 1 + 1) = false := by simp; omega
  have hw : IntKind.i64.wrap ((a : Int) + 1 + 1) = (a : Int) + 1 + 1 := by rw [IntKind.wrap_i64]; omega
  go_wp2_with fail
  (refine wp_region_f [] (InX Nb _) (by kernel_rfl) (InX.mk (Keep.drew (Keep.refl _ _))) (fun hI => ?_))
  have xx : ∀ k, ¬ Nb k := fun _ h => h
  have hK0 : Keep Nb w3 w3.drew := (Keep.refl _ _).drew
  have hbX := hb3.drew
  generalize w3.drew = x0 at hK0 hbX hI ⊢
  (refine wpF_take (v := ?_) 0 rfl (by kernel_rfl) (by kernel_rfl) (by kernel_rfl) (by kernel_rfl) (fun _ _ _ h => h) (by assumption) rfl ?_ ?_; rotate_left; (focus (rintro _ ⟨E, rfl⟩; go_simp; (try with_reducible rfl))); simp only [Act.put, List.getElem_toArray, List.getElem_cons_succ, List.getElem_cons_zero, List.setIfInBounds_toArray, List.set_cons_zero, List.set_cons_succ])
  (refine wpF_one 1 rfl (by kernel_rfl) rfl (fun K hK => ?_))
  go_simp
  refine (HH.out (a + 1) ⟨#[45]⟩ _ hbX (by omega)).mono ?_
  rintro e y1 ⟨he, hkn⟩
  rw [Q3.out] at he
  subst he
  replace hbX := hbX.keep hkn id
  replace hK0 := Keep.trans hK0 hkn (fun _ _ h => h)
  clear hkn
  (refine hK _ _ (fun _ => InX.mk hK0) (fun hI => ?_); have hI := hI (by simp); clear hK K; try simp only [Act.put, List.getElem_toArray, List.getElem_cons_succ, List.getElem_cons_zero, List.setIfInBounds_toArray, List.set_cons_zero, List.set_cons_succ])
  (refine wpF_take (v := ?_) 2 rfl (by kernel_rfl) (by kernel_rfl) (by kernel_rfl) (by kernel_rfl) (fun _ _ _ h => h) (by assumption) rfl ?_ ?_; rotate_left; (focus (rintro _ ⟨E, rfl⟩; go_simp; (try with_reducible rfl))); simp only [Act.put, List.getElem_toArray, List.getElem_cons_succ, List.getElem_cons_zero, List.setIfInBounds_toArray, List.set_cons_zero, List.set_cons_succ])
  (refine wpF_take (v := ?_) 3 rfl (by kernel_rfl) (by kernel_rfl) (by kernel_rfl) (by kernel_rfl) (fun _ _ _ h => h) (by assumption) rfl ?_ ?_; rotate_left; (focus (rintro _ ⟨E, rfl⟩; go_simp; (try with_reducible rfl))); simp only [Act.put, List.getElem_toArray, List.getElem_cons_succ, List.getElem_cons_zero, List.setIfInBounds_toArray, List.set_cons_zero, List.set_cons_succ])
  (refine wpF_take (v := ?_) 4 rfl (by kernel_rfl) (by kernel_rfl) (by kernel_rfl) (by kernel_rfl) (fun _ _ _ h => h) (by assumption) rfl ?_ ?_; rotate_left; (focus (rintro _ ⟨E, rfl⟩; go_simp; (try with_reducible rfl))); simp only [Act.put, List.getElem_toArray, List.getElem_cons_succ, List.getElem_cons_zero, List.setIfInBounds_toArray, List.set_cons_zero, List.set_cons_succ])
  (refine wpF_one 5 rfl (by kernel_rfl) rfl (fun K hK => ?_))
  go_simp
  refine (HH.out (a + 1) ⟨#[45, 93]⟩ _ hbX (by omega)).mono ?_
  rintro e y2 ⟨he, hkn⟩
  rw [Q4.out] at he
  subst he
  replace hbX := hbX.keep hkn id
  replace hK0 := Keep.trans hK0 hkn (fun _ _ h => h)
  clear hkn
  (refine hK _ _ (fun _ => InX.mk hK0) (fun hI => ?_); have hI := hI (by simp); clear hK K; try simp only [Act.put, List.getElem_toArray, List.getElem_cons_succ, List.getElem_cons_zero, List.setIfInBounds_toArray, List.set_cons_zero, List.set_cons_succ])
  (refine wpF_take (v := ?_) 6 rfl (by kernel_rfl) (by kernel_rfl) (by kernel_rfl) (by kernel_rfl) (fun _ _ _ h => h) (by assumption) rfl ?_ ?_; rotate_left; (focus (rintro _ ⟨E, rfl⟩; go_simp; (try with_reducible rfl))); simp only [Act.put, List.getElem_toArray, List.getElem_cons_succ, List.getElem_cons_zero, List.setIfInBounds_toArray, List.set_cons_zero, List.set_cons_succ])
  (refine wpF_take (v := ?_) 7 rfl (by kernel_rfl) (by kernel_rfl) (by kernel_rfl) (by kernel_rfl) (fun _ _ _ h => h) (by assumption) rfl ?_ ?_; rotate_left; (focus (rintro _ ⟨E, rfl⟩; go_simp; (try with_reducible rfl))); simp only [Act.put, List.getElem_toArray, List.getElem_cons_succ, List.getElem_cons_zero, List.setIfInBounds_toArray, List.set_cons_zero, List.set_cons_succ])
  (refine wpF_take (v := ?_) 8 rfl (by kernel_rfl) (by kernel_rfl) (by kernel_rfl) (by kernel_rfl) (fun _ _ _ h => h) (by assumption) rfl ?_ ?_; rotate_left; (focus (rintro _ ⟨E, rfl⟩; go_simp; (try with_reducible rfl))); simp only [Act.put, List.getElem_toArray, List.getElem_cons_succ, List.getElem_cons_zero, List.setIfInBounds_toArray, List.set_cons_zero, List.set_cons_succ])
  (refine wpF_take (v := ?_) 9 rfl (by kernel_rfl) (by kernel_rfl) (by kernel_rfl) (by kernel_rfl) (fun _ _ _ h => h) (by assumption) rfl ?_ ?_; rotate_left; (focus (rintro _ ⟨E, rfl⟩; go_simp; (try with_reducible rfl))); simp only [Act.put, List.getElem_toArray, List.getElem_cons_succ, List.getElem_cons_zero, List.setIfInBounds_toArray, List.set_cons_zero, List.set_cons_succ])
  (refine wpF_take (v := ?_) 10 rfl (by kernel_rfl) (by kernel_rfl) (by kernel_rfl) (by kernel_rfl) (fun _ _ _ h => h) (by assumption) rfl ?_ ?_; rotate_left; (focus (rintro _ ⟨E, rfl⟩; go_simp; (try with_reducible rfl))); simp only [Act.put, List.getElem_toArray, List.getElem_cons_succ, List.getElem_cons_zero, List.setIfInBounds_toArray, List.set_cons_zero, List.set_cons_succ])
  (refine wpF_take (v := ?_) 11 rfl (by kernel_rfl) (by kernel_rfl) (by kernel_rfl) (by kernel_rfl) (fun _ _ _ h => h) (by assumption) rfl ?_ ?_; rotate_left; (focus (rintro _ ⟨E, rfl⟩; go_simp; (try with_reducible rfl))); simp only [Act.put, List.getElem_toArray, List.getElem_cons_succ, List.getElem_cons_zero, List.setIfInBounds_toArray, List.set_cons_zero, List.set_cons_succ])
  (refine wpF_take (v := ?_) 12 rfl (by kernel_rfl) (by kernel_rfl) (by kernel_rfl) (by kernel_rfl) (fun _ _ _ h => h) (by assumption) rfl ?_ ?_; rotate_left; (focus (rintro _ ⟨E, rfl⟩; go_simp; (try with_reducible rfl))); simp only [Act.put, List.getElem_toArray, List.getElem_cons_succ, List.getElem_cons_zero, List.setIfInBounds_toArray, List.set_cons_zero, List.set_cons_succ])
  (refine wpF_take (v := ?_) 13 rfl (by kernel_rfl) (by kernel_rfl) (by kernel_rfl) (by kernel_rfl) (fun _ _ _ h => h) (by assumption) rfl ?_ ?_; rotate_left; (focus (rintro _ ⟨E, rfl⟩; go_simp; (try with_reducible rfl))); simp only [Act.put, List.getElem_toArray, List.getElem_cons_succ, List.getElem_cons_zero, List.setIfInBounds_toArray, List.set_cons_zero, List.set_cons_succ])
  (refine wpF_take (v := ?_) 14 rfl (by kernel_rfl) (by kernel_rfl) (by kernel_rfl) (by kernel_rfl) (fun _ _ _ h => h) (by assumption) rfl ?_ ?_; rotate_left; (focus (rintro _ ⟨E, rfl⟩; go_simp; (try with_reducible rfl))); simp only [Act.put, List.getElem_toArray, List.getElem_cons_succ, List.getElem_cons_zero, List.setIfInBounds_toArray, List.set_cons_zero, List.set_cons_succ])
  (refine wpF_take (v := ?_) 15 rfl (by kernel_rfl) (by kernel_rfl) (by kernel_rfl) (by kernel_rfl) (fun _ _ _ h => h) (by assumption) rfl ?_ ?_; rotate_left; (focus (rintro _ ⟨E, rfl⟩; go_simp; (try with_reducible rfl))); simp only [Act.put, List.getElem_toArray, List.getElem_cons_succ, List.getElem_cons_zero, List.setIfInBounds_toArray, List.set_cons_zero, List.set_cons_succ])
  (refine wpF_take (v := ?_) 16 rfl (by kernel_rfl) (by kernel_rfl) (by kernel_rfl) (by kernel_rfl) (fun _ _ _ h => h) (by assumption) rfl ?_ ?_; rotate_left; (focus (rintro _ ⟨E, rfl⟩; go_simp; (try with_reducible rfl))); simp only [Act.put, List.getElem_toArray, List.getElem_cons_succ, List.getElem_cons_zero, List.setIfInBounds_toArray, List.set_cons_zero, List.set_cons_succ])
  (refine wpF_take (v := ?_) 17 rfl (by kernel_rfl) (by kernel_rfl) (by kernel_rfl) (by kernel_rfl) (fun _ _ _ h => h) (by assumption) rfl ?_ ?_; rotate_left; (focus (rintro _ ⟨E, rfl⟩; go_simp; (try with_reducible rfl))); simp only [Act.put, List.getElem_toArray, List.getElem_cons_succ, List.getElem_cons_zero, List.setIfInBounds_toArray, List.set_cons_zero, List.set_cons_succ])
  (refine wpF_take (v := ?_) 18 rfl (by kernel_rfl) (by kernel_rfl) (by kernel_rfl) (by kernel_rfl) (fun _ _ _ h => h) (by assumption) rfl ?_ ?_; rotate_left; (focus (rintro _ ⟨E, rfl⟩; go_simp; (try with_reducible rfl))); simp only [Act.put, List.getElem_toArray, List.getElem_cons_succ, List.getElem_cons_zero, List.setIfInBounds_toArray, List.set_cons_zero, List.set_cons_succ])
  (refine wpF_take (v := ?_) 19 rfl (by kernel_rfl) (by kernel_rfl) (by kernel_rfl) (by kernel_rfl) (fun _ _ _ h => h) (by assumption) rfl ?_ ?_; rotate_left; (focus (rintro _ ⟨E, rfl⟩; go_simp; (try with_reducible rfl))); simp only [Act.put, List.getElem_toArray, List.getElem_cons_succ, List.getElem_cons_zero, List.setIfInBounds_toArray, List.set_cons_zero, List.set_cons_succ])
  (refine wpF_done (by kernel_rfl) ?_ _)
  clear hw
  have hr4 := hr3.keep hK0 id
  have hk4 : Keep (Ob p) w y2 := hk3.trans hK0 (fun _ _ h => h.elim)
  clear hI c0 c1 hb3 hr3 hk3 hK0
  have c1 := hbX.cell 1 (u := .int .i64 ((a + 1 : Nat) : Int)) rfl
  have f1 := hbX.frozen 1
  have l4 := hbX.lt
  have hb5 := RdAt.moved hbX 1
  have hr5 := hr4.setOther (p := ⟨p, 1, none⟩) (by simp; omega) (.int .i64 (((a + 1 : Nat) : Int) + ((1 : Nat) : Int)))
  have hk5 : Keep (Ob p) w (y2.setCell ⟨p, 1, none⟩ (.int .i64 (((a + 1 : Nat) : Int) + ((1 : Nat) : Int)))) := Keep.setCell (X := Ob p) (p := ⟨p, 1, none⟩) hk4 (Or.inr rfl) _
  have ec : (((a + 1 : Nat) : Int) + ((1 : Nat) : Int)) = (a : Int) + 1 + 1 := by omega
  rw [ec] at hb5 hr5 hk5
  have HB5 := Lib.hid hb5
  have HR5 := Lib.hid hr5
  have HK5 := Lib.hid hk5
  clear hb5 hr5 hk5 ec hbX hr4 hk4
  go_wp2_with fail
  refine (HH.out (a + 2) ⟨#[45]⟩ _ HB5.out (by omega)).mono ?_
  rintro e w5 ⟨he, hkn⟩
  rw [Q5.out] at he
  subst he
  have hb6 := HB5.out.keep hkn id
  have hr6 := HR5.out.keep hkn id
  have hk6 := HK5.out.trans hkn (fun _ _ h => h.elim)
  clear hkn HB5 HR5 HK5 c1 f1 l4
  go_wp2_with fail
  refine (HY.out _ hb6).mono ?_
  rintro e w7 ⟨rfl, hb7, hkn⟩
  have hr7 := hr6.keep hkn (by simp only [Ob]; omega)
  have hk7 : Keep (Ob p) w w7 := hk6.trans hkn (fun _ _ h => h)
  clear hkn hb6 hr6 hk6
  go_wp2_with (refine wpList_store_row rfl 26 (.tmp 2) (.tmp 91) rfl w.heap.size _ rfl rfl 26 _ hr7 sizeS1 rfl (by simp [setRow, Value.oneCell']) ?_)
  refine bodyPost_ret (results_ct Try.results27 _ _ w.heap.size 26 _ (0, 0) _ rfl (hr7.setRow (setRow zeroF)) Try.underlying26 rfl sizeS1) rfl ⟨rfl, hb7.setRowOther (by omega) _, Keep.setRow hk7 (Or.inl (Nat.le_refl _)) _⟩

end Go.Proofs.Ytfjipiibkmapkaa
