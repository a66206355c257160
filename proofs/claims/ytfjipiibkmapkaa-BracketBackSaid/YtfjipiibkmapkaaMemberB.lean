/- What the reader's member reads: part 2. -/
import Derived.Test.YtfjipiibkmapkaaClassM
namespace Go.Proofs.Ytfjipiibkmapkaa
set_option linter.unusedVariables false
set_option linter.unusedSimpArgs false
open Go.RowKit

set_option maxRecDepth 100000 in
set_option maxHeartbeats 2000000 in
theorem mg_one2 (p : Nat) (s : ByteArray) (a : Nat) (p1 : preB [91, 58] (s.toList.drop a) = false) (p2 : preB [91, 61] (s.toList.drop a) = false) (x : UInt8) (n : Nat) (hn : signF (s.toList.drop a) = some (x, n)) (p3 : preB [45] (s.toList.drop (a + n)) = true) (p4 : preB [45, 93] (s.toList.drop (a + n)) = true) (ha : a ≤ s.size) (hz : s.size ≤ 1000000) (hp0 : p ≠ 0) (w : World) (hb : RdAt w p s a) (hm : Laid0 w) :
    Calls Try.prog 27 #[.pointer (some ⟨p, 0, none⟩)] w fun e w' => e = .returned (.tuple #[.agg (setRow (withF zeroF x.toNat x.toNat)), .bool true]) ∧ RdAt w' p s (a + n) ∧ Keep (Ob p) w w' := by
  have HH := Lib.hid (fun (q : Nat) (t : ByteArray) wx (hx : RdAt wx p s q) (hq : q ≤ s.size) => has_any p s q t wx hx hq)
  have hl := hb.lt
  have P1 : preB (⟨#[91, 58]⟩ : ByteArray).toList (s.toList.drop a) = false := by rw [ByteArray.toList_eq]; exact p1
  have Q1 := Lib.hid P1
  clear P1 p1
  have P2 : preB (⟨#[91, 61]⟩ : ByteArray).toList (s.toList.drop a) = false := by rw [ByteArray.toList_eq]; exact p2
  have Q2 := Lib.hid P2
  clear P2 p2
  have P3 : preB (⟨#[45]⟩ : ByteArray).toList (s.toList.drop (a + n)) = true := by rw [ByteArray.toList_eq]; exact p3
  have Q3 := Lib.hid P3
  clear P3 p3
  have P4 : preB (⟨#[45, 93]⟩ : ByteArray).toList (s.toList.drop (a + n)) = true := by rw [ByteArray.toList_eq]; exact p4
  have Q4 := Lib.hid P4
  clear P4 p4
  have hnl := signF_len hn
  rw [List.length_drop, toList_len] at hnl
  have I1 := Lib.hid (show a + n ≤ s.size by omega)
  have HX := Lib.hid (fun wx (hx : RdAt wx p s a) => sign_ok p s a x n hn hz wx hx)
  clear hn
  go_enter Try.func27, Try.ntmps27
  go_wp2_with fail
  have hr0 : Blk (w.alloc (.cells (setRow zeroF) 26)) w.heap.size (setRow zeroF) 26 := Blk.new w _ _
  have hk0 : Keep Nb w (w.alloc (.cells (setRow zeroF) 26)) := Keep.alloc (Keep.refl _ _) _
  have hb0 : RdAt (w.alloc (.cells (setRow zeroF) 26)) p s a := hb.keep hk0 id
  refine (HH.out a ⟨#[91, 58]⟩ _ hb0 (by omega)).mono ?_
  rintro e w1 ⟨he, hkn⟩
  rw [Q1.out] at he
  subst he
  have hb1 := hb0.keep hkn id
  have hr1 := hr0.keep hkn id
  have hk1 := hk0.trans hkn (fun _ _ h => h)
  clear hkn hb0 hr0 hk0
  go_wp2_with fail
  refine (HH.out a ⟨#[91, 61]⟩ _ hb1 (by omega)).mono ?_
  rintro e w2 ⟨he, hkn⟩
  rw [Q2.out] at he
  subst he
  have hb2 := hb1.keep hkn id
  have hr2 := hr1.keep hkn id
  have hk2 := hk1.trans hkn (fun _ _ h => h)
  clear hkn hb1 hr1 hk1
  go_wp2_with fail
  refine (HX.out _ hb2).mono ?_
  rintro e w3 ⟨rfl, hb3, hkn⟩
  have hr3 := hr2.keep hkn (by simp only [Ob]; omega)
  have hk3 : Keep (Ob p) w w3 := (hk2.mono fun _ _ h => h.elim).trans hkn (fun _ _ h => h)
  clear hkn hb2 hr2 hk2
  have c0 := hb3.cell 0 (u := .string s) rfl
  have c1 := hb3.cell 1 (u := .int .i64 ((a + n : Nat) : Int)) rfl
  have hl3 := hb3.lt
  have hw : IntKind.i64.wrap ((a : Int) + (n : Int) + 1) = (a : Int) + (n : Int) + 1 := by rw [IntKind.wrap_i64]; omega
  have hw' : IntKind.i64.wrap (((a + n : Nat) : Int) + 1) = ((a + n : Nat) : Int) + 1 := by rw [IntKind.wrap_i64]; omega
  go_wp2_with fail
  (refine wp_region_f [] (InX Nb _) (by kernel_rfl) (InX.mk (Keep.drew (Keep.refl _ _))) (fun hI => ?_))
  have xx : ∀ k, ¬ Nb k := fun _ h => h
  have hK0 : Keep Nb w3 w3.drew := (Keep.refl _ _).drew
  have hbX := hb3.drew
  generalize w3.drew = x0 at hK0 hbX hI ⊢
  (refine wpF_take (v := ?_) 0 rfl (by kernel_rfl) (by kernel_rfl) (by kernel_rfl) (by kernel_rfl) (fun _ _ _ h => h) (by assumption) rfl ?_ ?_; rotate_left; (focus (rintro _ ⟨E, rfl⟩; go_simp; (try with_reducible rfl))); simp only [Act.put, List.getElem_toArray, List.getElem_cons_succ, List.getElem_cons_zero, List.setIfInBounds_toArray, List.set_cons_zero, List.set_cons_succ])
  (refine wpF_one 1 rfl (by kernel_rfl) rfl (fun K hK => ?_))
  go_simp
  refine (HH.out (a + n) ⟨#[45]⟩ _ hbX I1.out).mono ?_
  rintro e y1 ⟨he, hkn⟩
  rw [Q3.out] at he
  subst he
  replace hbX := hbX.keep hkn id
  replace hK0 := Keep.trans hK0 hkn (fun _ _ h => h)
  clear hkn
  (refine hK _ _ (fun _ => InX.mk hK0) (fun hI => ?_); have hI := hI (by simp); clear hK K; try simp only [Act.put, List.getElem_toArray, List.getElem_cons_succ, List.getElem_cons_zero, List.setIfInBounds_toArray, List.set_cons_zero, List.set_cons_succ])
  (refine wpF_take (v := ?_) 2 rfl (by kernel_rfl) (by kernel_rfl) (by kernel_rfl) (by kernel_rfl) (fun _ _ _ h => h) (by assumption) rfl ?_ ?_; rotate_left; (focus (rintro _ ⟨E, rfl⟩; go_simp; (try with_reducible rfl))); simp only [Act.put, List.getElem_toArray, List.getElem_cons_succ, List.getElem_cons_zero, List.setIfInBounds_toArray, List.set_cons_zero, List.set_cons_succ])
  (refine wpF_take (v := ?_) 3 rfl (by kernel_rfl) (by kernel_rfl) (by kernel_rfl) (by kernel_rfl) (fun _ _ _ h => h) (by assumption) rfl ?_ ?_; rotate_left; (focus (rintro _ ⟨E, rfl⟩; go_simp; (try with_reducible rfl))); simp only [Act.put, List.getElem_toArray, List.getElem_cons_succ, List.getElem_cons_zero, List.setIfInBounds_toArray, List.set_cons_zero, List.set_cons_succ])
  (refine wpF_take (v := ?_) 4 rfl (by kernel_rfl) (by kernel_rfl) (by kernel_rfl) (by kernel_rfl) (fun _ _ _ h => h) (by assumption) rfl ?_ ?_; rotate_left; (focus (rintro _ ⟨E, rfl⟩; go_simp; (try with_reducible rfl))); simp only [Act.put, List.getElem_toArray, List.getElem_cons_succ, List.getElem_cons_zero, List.setIfInBounds_toArray, List.set_cons_zero, List.set_cons_succ])
  (refine wpF_one 5 rfl (by kernel_rfl) rfl (fun K hK => ?_))
  go_simp
  refine (HH.out (a + n) ⟨#[45, 93]⟩ _ hbX I1.out).mono ?_
  rintro e y2 ⟨he, hkn⟩
  rw [Q4.out] at he
  subst he
  replace hbX := hbX.keep hkn id
  replace hK0 := Keep.trans hK0 hkn (fun _ _ h => h)
  clear hkn
  (refine hK _ _ (fun _ => InX.mk hK0) (fun hI => ?_); have hI := hI (by simp); clear hK K; try simp only [Act.put, List.getElem_toArray, List.getElem_cons_succ, List.getElem_cons_zero, List.setIfInBounds_toArray, List.set_cons_zero, List.set_cons_succ])
  (refine wpF_take (v := ?_) 6 rfl (by kernel_rfl) (by kernel_rfl) (by kernel_rfl) (by kernel_rfl) (fun _ _ _ h => h) (by assumption) rfl ?_ ?_; rotate_left; (focus (rintro _ ⟨E, rfl⟩; go_simp; (try with_reducible rfl))); simp only [Act.put, List.getElem_toArray, List.getElem_cons_succ, List.getElem_cons_zero, List.setIfInBounds_toArray, List.set_cons_zero, List.set_cons_succ])
  (refine wpF_take (v := ?_) 7 rfl (by kernel_rfl) (by kernel_rfl) (by kernel_rfl) (by kernel_rfl) (fun _ _ _ h => h) (by assumption) rfl ?_ ?_; rotate_left; (focus (rintro _ ⟨E, rfl⟩; go_simp; (try with_reducible rfl))); simp only [Act.put, List.getElem_toArray, List.getElem_cons_succ, List.getElem_cons_zero, List.setIfInBounds_toArray, List.set_cons_zero, List.set_cons_succ])
  (refine wpF_skip 8 rfl (by kernel_rfl) (by kernel_rfl) (by kernel_rfl) (by kernel_rfl) (fun _ _ _ h => h) (by assumption) rfl ?_; simp only [Act.put, List.getElem_toArray, List.getElem_cons_succ, List.getElem_cons_zero, List.setIfInBounds_toArray, List.set_cons_zero, List.set_cons_succ])
  (refine wpF_skip 9 rfl (by kernel_rfl) (by kernel_rfl) (by kernel_rfl) (by kernel_rfl) (fun _ _ _ h => h) (by assumption) rfl ?_; simp only [Act.put, List.getElem_toArray, List.getElem_cons_succ, List.getElem_cons_zero, List.setIfInBounds_toArray, List.set_cons_zero, List.set_cons_succ])
  (refine wpF_skip 10 rfl (by kernel_rfl) (by kernel_rfl) (by kernel_rfl) (by kernel_rfl) (fun _ _ _ h => h) (by assumption) rfl ?_; simp only [Act.put, List.getElem_toArray, List.getElem_cons_succ, List.getElem_cons_zero, List.setIfInBounds_toArray, List.set_cons_zero, List.set_cons_succ])
  (refine wpF_skip 11 rfl (by kernel_rfl) (by kernel_rfl) (by kernel_rfl) (by kernel_rfl) (fun _ _ _ h => h) (by assumption) rfl ?_; simp only [Act.put, List.getElem_toArray, List.getElem_cons_succ, List.getElem_cons_zero, List.setIfInBounds_toArray, List.set_cons_zero, List.set_cons_succ])
  (refine wpF_skip 12 rfl (by kernel_rfl) (by kernel_rfl) (by kernel_rfl) (by kernel_rfl) (fun _ _ _ h => h) (by assumption) rfl ?_; simp only [Act.put, List.getElem_toArray, List.getElem_cons_succ, List.getElem_cons_zero, List.setIfInBounds_toArray, List.set_cons_zero, List.set_cons_succ])
  (refine wpF_skip 13 rfl (by kernel_rfl) (by kernel_rfl) (by kernel_rfl) (by kernel_rfl) (fun _ _ _ h => h) (by assumption) rfl ?_; simp only [Act.put, List.getElem_toArray, List.getElem_cons_succ, List.getElem_cons_zero, List.setIfInBounds_toArray, List.set_cons_zero, List.set_cons_succ])
  (refine wpF_skip 14 rfl (by kernel_rfl) (by kernel_rfl) (by kernel_rfl) (by kernel_rfl) (fun _ _ _ h => h) (by assumption) rfl ?_; simp only [Act.put, List.getElem_toArray, List.getElem_cons_succ, List.getElem_cons_zero, List.setIfInBounds_toArray, List.set_cons_zero, List.set_cons_succ])
  (refine wpF_skip 15 rfl (by kernel_rfl) (by kernel_rfl) (by kernel_rfl) (by kernel_rfl) (fun _ _ _ h => h) (by assumption) rfl ?_; simp only [Act.put, List.getElem_toArray, List.getElem_cons_succ, List.getElem_cons_zero, List.setIfInBounds_toArray, List.set_cons_zero, List.set_cons_succ])
  (refine wpF_skip 16 rfl (by kernel_rfl) (by kernel_rfl) (by kernel_rfl) (by kernel_rfl) (fun _ _ _ h => h) (by assumption) rfl ?_; simp only [Act.put, List.getElem_toArray, List.getElem_cons_succ, List.getElem_cons_zero, List.setIfInBounds_toArray, List.set_cons_zero, List.set_cons_succ])
  (refine wpF_skip 17 rfl (by kernel_rfl) (by kernel_rfl) (by kernel_rfl) (by kernel_rfl) (fun _ _ _ h => h) (by assumption) rfl ?_; simp only [Act.put, List.getElem_toArray, List.getElem_cons_succ, List.getElem_cons_zero, List.setIfInBounds_toArray, List.set_cons_zero, List.set_cons_succ])
  (refine wpF_skip 18 rfl (by kernel_rfl) (by kernel_rfl) (by kernel_rfl) (by kernel_rfl) (fun _ _ _ h => h) (by assumption) rfl ?_; simp only [Act.put, List.getElem_toArray, List.getElem_cons_succ, List.getElem_cons_zero, List.setIfInBounds_toArray, List.set_cons_zero, List.set_cons_succ])
  (refine wpF_take (v := ?_) 19 rfl (by kernel_rfl) (by kernel_rfl) (by kernel_rfl) (by kernel_rfl) (fun _ _ _ h => h) (by assumption) rfl ?_ ?_; rotate_left; (focus (rintro _ ⟨E, rfl⟩; go_simp; (try with_reducible rfl))); simp only [Act.put, List.getElem_toArray, List.getElem_cons_succ, List.getElem_cons_zero, List.setIfInBounds_toArray, List.set_cons_zero, List.set_cons_succ])
  (refine wpF_done (by kernel_rfl) ?_ _)
  clear hw hw'
  have hr4 := hr3.keep hK0 id
  have hk4 : Keep (Ob p) w _ := hk3.trans hK0 (fun _ _ h => h.elim)
  clear hI c0 c1 hb3 hr3 hk3 hK0
  go_wp2_with fail
  refine (with_t zeroF x.toNat x.toNat (UInt8.toNat_lt x) (UInt8.toNat_lt x) _).mono ?_
  rintro e w8 ⟨rfl, hkn⟩
  have hb8 := hbX.keep hkn id
  have hr8 := hr4.keep hkn id
  have hk8 := hk4.trans hkn (fun _ _ h => h.elim)
  clear hkn hbX hr4 hk4
  simp only [setRow]
  go_wp2_with (refine wpList_store_row rfl 26 (.tmp 2) (.tmp 61) rfl w.heap.size _ rfl rfl 26 _ hr8 sizeS1 rfl (by simp [Value.oneCell']) ?_)
  have hr9 : Blk (w8.setRow w.heap.size (setRow (withF zeroF x.toNat x.toNat))) w.heap.size (setRow (withF zeroF x.toNat x.toNat)) 26 := hr8.setRow _
  refine bodyPost_ret (results_ct Try.results27 _ _ w.heap.size 26 _ (0, 0) _ rfl hr9 Try.underlying26 rfl sizeS1) rfl ⟨rfl, hb8.setRowOther (by omega) _, Keep.setRow hk8 (Or.inl (Nat.le_refl _)) _⟩

set_option maxRecDepth 100000 in
set_option maxHeartbeats 2000000 in
theorem mg_one3 (p : Nat) (s : ByteArray) (a : Nat) (p1 : preB [91, 58] (s.toList.drop a) = false) (p2 : preB [91, 61] (s.toList.drop a) = false) (x : UInt8) (n : Nat) (hn : signF (s.toList.drop a) = some (x, n)) (p3 : preB [45] (s.toList.drop (a + n)) = true) (p4 : preB [45, 93] (s.toList.drop (a + n)) = false) (hle : s.size ≤ a + n + 1) (ha : a ≤ s.size) (hz : s.size ≤ 1000000) (hp0 : p ≠ 0) (w : World) (hb : RdAt w p s a) (hm : Laid0 w) :
    Calls Try.prog 27 #[.pointer (some ⟨p, 0, none⟩)] w fun e w' => e = .returned (.tuple #[.agg (setRow (withF zeroF x.toNat x.toNat)), .bool true]) ∧ RdAt w' p s (a + n) ∧ Keep (Ob p) w w' := by
  have HH := Lib.hid (fun (q : Nat) (t : ByteArray) wx (hx : RdAt wx p s q) (hq : q ≤ s.size) => has_any p s q t wx hx hq)
  have hl := hb.lt
  have P1 : preB (⟨#[91, 58]⟩ : ByteArray).toList (s.toList.drop a) = false := by rw [ByteArray.toList_eq]; exact p1
  have Q1 := Lib.hid P1
  clear P1 p1
  have P2 : preB (⟨#[91, 61]⟩ : ByteArray).toList (s.toList.drop a) = false := by rw [ByteArray.toList_eq]; exact p2
  have Q2 := Lib.hid P2
  clear P2 p2
  have P3 : preB (⟨#[45]⟩ : ByteArray).toList (s.toList.drop (a + n)) = true := by rw [ByteArray.toList_eq]; exact p3
  have Q3 := Lib.hid P3
  clear P3 p3
  have P4 : preB (⟨#[45, 93]⟩ : ByteArray).toList (s.toList.drop (a + n)) = false := by rw [ByteArray.toList_eq]; exact p4
  have Q4 := Lib.hid P4
  clear P4 p4
  have j1 : decide ((s.size : Int) ≤ (a : Int) + (n : Int) + 1) = true := by simp; omega
  have j2 : decide (s.size ≤ a + n + 1) = true := by simp; omega
  have hnl := signF_len hn
  rw [List.length_drop, toList_len] at hnl
  have I1 := Lib.hid (show a + n ≤ s.size by omega)
  have HX := Lib.hid (fun wx (hx : RdAt wx p s a) => sign_ok p s a x n hn hz wx hx)
  clear hn
  go_enter Try.func27, Try.ntmps27
  go_wp2_with fail
  have hr0 : Blk (w.alloc (.cells (setRow zeroF) 26)) w.heap.size (setRow zeroF) 26 := Blk.new w _ _
  have hk0 : Keep Nb w (w.alloc (.cells (setRow zeroF) 26)) := Keep.alloc (Keep.refl _ _) _
  have hb0 : RdAt (w.alloc (.cells (setRow zeroF) 26)) p s a := hb.keep hk0 id
  refine (HH.out a ⟨#[91, 58]⟩ _ hb0 (by omega)).mono ?_
  rintro e w1 ⟨he, hkn⟩
  rw [Q1.out] at he
  subst he
  have hb1 := hb0.keep hkn id
  have hr1 := hr0.keep hkn id
  have hk1 := hk0.trans hkn (fun _ _ h => h)
  clear hkn hb0 hr0 hk0
  go_wp2_with fail
  refine (HH.out a ⟨#[91, 61]⟩ _ hb1 (by omega)).mono ?_
  rintro e w2 ⟨he, hkn⟩
  rw [Q2.out] at he
  subst he
  have hb2 := hb1.keep hkn id
  have hr2 := hr1.keep hkn id
  have hk2 := hk1.trans hkn (fun _ _ h => h)
  clear hkn hb1 hr1 hk1
  go_wp2_with fail
  refine (HX.out _ hb2).mono ?_
  rintro e w3 ⟨rfl, hb3, hkn⟩
  have hr3 := hr2.keep hkn (by simp only [Ob]; omega)
  have hk3 : Keep (Ob p) w w3 := (hk2.mono fun _ _ h => h.elim).trans hkn (fun _ _ h => h)
  clear hkn hb2 hr2 hk2
  have c0 := hb3.cell 0 (u := .string s) rfl
  have c1 := hb3.cell 1 (u := .int .i64 ((a + n : Nat) : Int)) rfl
  have hl3 := hb3.lt
  have hw : IntKind.i64.wrap ((a : Int) + (n : Int) + 1) = (a : Int) + (n : Int) + 1 := by rw [IntKind.wrap_i64]; omega
  have hw' : IntKind.i64.wrap (((a + n : Nat) : Int) + 1) = ((a + n : Nat) : Int) + 1 := by rw [IntKind.wrap_i64]; omega
  go_wp2_with fail
  (refine wp_region_f [] (InX Nb _) (by kernel_rfl) (InX.mk (Keep.drew (Keep.refl _ _))) (fun hI => ?_))
  have xx : ∀ k, ¬ Nb k := fun _ h => h
  have hK0 : Keep Nb w3 w3.drew := (Keep.refl _ _).drew
  have hbX := hb3.drew
  generalize w3.drew = x0 at hK0 hbX hI ⊢
  (refine wpF_take (v := ?_) 0 rfl (by kernel_rfl) (by kernel_rfl) (by kernel_rfl) (by kernel_rfl) (fun _ _ _ h => h) (by assumption) rfl ?_ ?_; rotate_left; (focus (rintro _ ⟨E, rfl⟩; go_simp; (try with_reducible rfl))); simp only [Act.put, List.getElem_toArray, List.getElem_cons_succ, List.getElem_cons_zero, List.setIfInBounds_toArray, List.set_cons_zero, List.set_cons_succ])
  (refine wpF_one 1 rfl (by kernel_rfl) rfl (fun K hK => ?_))
  go_simp
  refine (HH.out (a + n) ⟨#[45]⟩ _ hbX I1.out).mono ?_
  rintro e y1 ⟨he, hkn⟩
  rw [Q3.out] at he
  subst he
  replace hbX := hbX.keep hkn id
  replace hK0 := Keep.trans hK0 hkn (fun _ _ h => h)
  clear hkn
  (refine hK _ _ (fun _ => InX.mk hK0) (fun hI => ?_); have hI := hI (by simp); clear hK K; try simp only [Act.put, List.getElem_toArray, List.getElem_cons_succ, List.getElem_cons_zero, List.setIfInBounds_toArray, List.set_cons_zero, List.set_cons_succ])
  (refine wpF_take (v := ?_) 2 rfl (by kernel_rfl) (by kernel_rfl) (by kernel_rfl) (by kernel_rfl) (fun _ _ _ h => h) (by assumption) rfl ?_ ?_; rotate_left; (focus (rintro _ ⟨E, rfl⟩; go_simp; (try with_reducible rfl))); simp only [Act.put, List.getElem_toArray, List.getElem_cons_succ, List.getElem_cons_zero, List.setIfInBounds_toArray, List.set_cons_zero, List.set_cons_succ])
  (refine wpF_take (v := ?_) 3 rfl (by kernel_rfl) (by kernel_rfl) (by kernel_rfl) (by kernel_rfl) (fun _ _ _ h => h) (by assumption) rfl ?_ ?_; rotate_left; (focus (rintro _ ⟨E, rfl⟩; go_simp; (try with_reducible rfl))); simp only [Act.put, List.getElem_toArray, List.getElem_cons_succ, List.getElem_cons_zero, List.setIfInBounds_toArray, List.set_cons_zero, List.set_cons_succ])
  (refine wpF_take (v := ?_) 4 rfl (by kernel_rfl) (by kernel_rfl) (by kernel_rfl) (by kernel_rfl) (fun _ _ _ h => h) (by assumption) rfl ?_ ?_; rotate_left; (focus (rintro _ ⟨E, rfl⟩; go_simp; (try with_reducible rfl))); simp only [Act.put, List.getElem_toArray, List.getElem_cons_succ, List.getElem_cons_zero, List.setIfInBounds_toArray, List.set_cons_zero, List.set_cons_succ])
  (refine wpF_one 5 rfl (by kernel_rfl) rfl (fun K hK => ?_))
  go_simp
  refine (HH.out (a + n) ⟨#[45, 93]⟩ _ hbX I1.out).mono ?_
  rintro e y2 ⟨he, hkn⟩
  rw [Q4.out] at he
  subst he
  replace hbX := hbX.keep hkn id
  replace hK0 := Keep.trans hK0 hkn (fun _ _ h => h)
  clear hkn
  (refine hK _ _ (fun _ => InX.mk hK0) (fun hI => ?_); have hI := hI (by simp); clear hK K; try simp only [Act.put, List.getElem_toArray, List.getElem_cons_succ, List.getElem_cons_zero, List.setIfInBounds_toArray, List.set_cons_zero, List.set_cons_succ])
  (refine wpF_take (v := ?_) 6 rfl (by kernel_rfl) (by kernel_rfl) (by kernel_rfl) (by kernel_rfl) (fun _ _ _ h => h) (by assumption) rfl ?_ ?_; rotate_left; (focus (rintro _ ⟨E, rfl⟩; go_simp; (try with_reducible rfl))); simp only [Act.put, List.getElem_toArray, List.getElem_cons_succ, List.getElem_cons_zero, List.setIfInBounds_toArray, List.set_cons_zero, List.set_cons_succ])
  (refine wpF_take (v := ?_) 7 rfl (by kernel_rfl) (by kernel_rfl) (by kernel_rfl) (by kernel_rfl) (fun _ _ _ h => h) (by assumption) rfl ?_ ?_; rotate_left; (focus (rintro _ ⟨E, rfl⟩; go_simp; (try with_reducible rfl))); simp only [Act.put, List.getElem_toArray, List.getElem_cons_succ, List.getElem_cons_zero, List.setIfInBounds_toArray, List.set_cons_zero, List.set_cons_succ])
  (refine wpF_take (v := ?_) 8 rfl (by kernel_rfl) (by kernel_rfl) (by kernel_rfl) (by kernel_rfl) (fun _ _ _ h => h) (by assumption) rfl ?_ ?_; rotate_left; (focus (rintro _ ⟨E, rfl⟩; go_simp; (try with_reducible rfl))); simp only [Act.put, List.getElem_toArray, List.getElem_cons_succ, List.getElem_cons_zero, List.setIfInBounds_toArray, List.set_cons_zero, List.set_cons_succ])
  (refine wpF_take (v := ?_) 9 rfl (by kernel_rfl) (by kernel_rfl) (by kernel_rfl) (by kernel_rfl) (fun _ _ _ h => h) (by assumption) rfl ?_ ?_; rotate_left; (focus (rintro _ ⟨E, rfl⟩; go_simp; (try with_reducible rfl))); simp only [Act.put, List.getElem_toArray, List.getElem_cons_succ, List.getElem_cons_zero, List.setIfInBounds_toArray, List.set_cons_zero, List.set_cons_succ])
  (refine wpF_take (v := ?_) 10 rfl (by kernel_rfl) (by kernel_rfl) (by kernel_rfl) (by kernel_rfl) (fun _ _ _ h => h) (by assumption) rfl ?_ ?_; rotate_left; (focus (rintro _ ⟨E, rfl⟩; go_simp; (try with_reducible rfl))); simp only [Act.put, List.getElem_toArray, List.getElem_cons_succ, List.getElem_cons_zero, List.setIfInBounds_toArray, List.set_cons_zero, List.set_cons_succ])
  (refine wpF_take (v := ?_) 11 rfl (by kernel_rfl) (by kernel_rfl) (by kernel_rfl) (by kernel_rfl) (fun _ _ _ h => h) (by assumption) rfl ?_ ?_; rotate_left; (focus (rintro _ ⟨E, rfl⟩; go_simp; (try with_reducible rfl))); simp only [Act.put, List.getElem_toArray, List.getElem_cons_succ, List.getElem_cons_zero, List.setIfInBounds_toArray, List.set_cons_zero, List.set_cons_succ])
  (refine wpF_take (v := ?_) 12 rfl (by kernel_rfl) (by kernel_rfl) (by kernel_rfl) (by kernel_rfl) (fun _ _ _ h => h) (by assumption) rfl ?_ ?_; rotate_left; (focus (rintro _ ⟨E, rfl⟩; go_simp; (try with_reducible rfl))); simp only [Act.put, List.getElem_toArray, List.getElem_cons_succ, List.getElem_cons_zero, List.setIfInBounds_toArray, List.set_cons_zero, List.set_cons_succ])
  (refine wpF_take (v := ?_) 13 rfl (by kernel_rfl) (by kernel_rfl) (by kernel_rfl) (by kernel_rfl) (fun _ _ _ h => h) (by assumption) rfl ?_ ?_; rotate_left; (focus (rintro _ ⟨E, rfl⟩; go_simp; (try with_reducible rfl))); simp only [Act.put, List.getElem_toArray, List.getElem_cons_succ, List.getElem_cons_zero, List.setIfInBounds_toArray, List.set_cons_zero, List.set_cons_succ])
  (refine wpF_take (v := ?_) 14 rfl (by kernel_rfl) (by kernel_rfl) (by kernel_rfl) (by kernel_rfl) (fun _ _ _ h => h) (by assumption) rfl ?_ ?_; rotate_left; (focus (rintro _ ⟨E, rfl⟩; go_simp; (try with_reducible rfl))); simp only [Act.put, List.getElem_toArray, List.getElem_cons_succ, List.getElem_cons_zero, List.setIfInBounds_toArray, List.set_cons_zero, List.set_cons_succ])
  (refine wpF_take (v := ?_) 15 rfl (by kernel_rfl) (by kernel_rfl) (by kernel_rfl) (by kernel_rfl) (fun _ _ _ h => h) (by assumption) rfl ?_ ?_; rotate_left; (focus (rintro _ ⟨E, rfl⟩; go_simp; (try with_reducible rfl))); simp only [Act.put, List.getElem_toArray, List.getElem_cons_succ, List.getElem_cons_zero, List.setIfInBounds_toArray, List.set_cons_zero, List.set_cons_succ])
  (refine wpF_take (v := ?_) 16 rfl (by kernel_rfl) (by kernel_rfl) (by kernel_rfl) (by kernel_rfl) (fun _ _ _ h => h) (by assumption) rfl ?_ ?_; rotate_left; (focus (rintro _ ⟨E, rfl⟩; go_simp; (try with_reducible rfl))); simp only [Act.put, List.getElem_toArray, List.getElem_cons_succ, List.getElem_cons_zero, List.setIfInBounds_toArray, List.set_cons_zero, List.set_cons_succ])
  (refine wpF_take (v := ?_) 17 rfl (by kernel_rfl) (by kernel_rfl) (by kernel_rfl) (by kernel_rfl) (fun _ _ _ h => h) (by assumption) rfl ?_ ?_; rotate_left; (focus (rintro _ ⟨E, rfl⟩; go_simp; (try with_reducible rfl))); simp only [Act.put, List.getElem_toArray, List.getElem_cons_succ, List.getElem_cons_zero, List.setIfInBounds_toArray, List.set_cons_zero, List.set_cons_succ])
  (refine wpF_take (v := ?_) 18 rfl (by kernel_rfl) (by kernel_rfl) (by kernel_rfl) (by kernel_rfl) (fun _ _ _ h => h) (by assumption) rfl ?_ ?_; rotate_left; (focus (rintro _ ⟨E, rfl⟩; go_simp; (try with_reducible rfl))); simp only [Act.put, List.getElem_toArray, List.getElem_cons_succ, List.getElem_cons_zero, List.setIfInBounds_toArray, List.set_cons_zero, List.set_cons_succ])
  (refine wpF_take (v := ?_) 19 rfl (by kernel_rfl) (by kernel_rfl) (by kernel_rfl) (by kernel_rfl) (fun _ _ _ h => h) (by assumption) rfl ?_ ?_; rotate_left; (focus (rintro _ ⟨E, rfl⟩; go_simp; (try with_reducible rfl))); simp only [Act.put, List.getElem_toArray, List.getElem_cons_succ, List.getElem_cons_zero, List.setIfInBounds_toArray, List.set_cons_zero, List.set_cons_succ])
  (refine wpF_done (by kernel_rfl) ?_ _)
  clear hw hw'
  have hr4 := hr3.keep hK0 id
  have hk4 : Keep (Ob p) w _ := hk3.trans hK0 (fun _ _ h => h.elim)
  clear hI c0 c1 hb3 hr3 hk3 hK0
  go_wp2_with fail
  refine (with_t zeroF x.toNat x.toNat (UInt8.toNat_lt x) (UInt8.toNat_lt x) _).mono ?_
  rintro e w8 ⟨rfl, hkn⟩
  have hb8 := hbX.keep hkn id
  have hr8 := hr4.keep hkn id
  have hk8 := hk4.trans hkn (fun _ _ h => h.elim)
  clear hkn hbX hr4 hk4
  simp only [setRow]
  go_wp2_with (refine wpList_store_row rfl 26 (.tmp 2) (.tmp 61) rfl w.heap.size _ rfl rfl 26 _ hr8 sizeS1 rfl (by simp [Value.oneCell']) ?_)
  have hr9 : Blk (w8.setRow w.heap.size (setRow (withF zeroF x.toNat x.toNat))) w.heap.size (setRow (withF zeroF x.toNat x.toNat)) 26 := hr8.setRow _
  refine bodyPost_ret (results_ct Try.results27 _ _ w.heap.size 26 _ (0, 0) _ rfl hr9 Try.underlying26 rfl sizeS1) rfl ⟨rfl, hb8.setRowOther (by omega) _, Keep.setRow hk8 (Or.inl (Nat.le_refl _)) _⟩

end Go.Proofs.Ytfjipiibkmapkaa
