/- A class that is named: the reader's class. -/
import Derived.Test.YtfjipiibkmapkaaSignG
namespace Go.Proofs.Ytfjipiibkmapkaa
set_option linter.unusedVariables false
set_option linter.unusedSimpArgs false
open Go.RowKit

set_option maxRecDepth 100000 in
set_option maxHeartbeats 2000000 in
theorem class_ok (p : Nat) (s : ByteArray) (a : Nat) (i : Nat) (hi : cutF (s.toList.drop (a + 2)) = some i) (ha : a + 2 ≤ s.size) (hz : s.size ≤ 1000000) (hp0 : p ≠ 0) (w : World) (hb : RdAt w p s a) (hm : Laid0 w) :
    Calls Try.prog 33 #[.pointer (some ⟨p, 0, none⟩)] w fun e w' => e = .returned (.tuple #[.agg (setRow (foldC zeroF (clsP ((s.toList.drop (a + 2)).take i)))), .bool (decide (clsP ((s.toList.drop (a + 2)).take i) ≠ []))]) ∧ RdAt w' p s (a + (i + 4)) ∧ Keep (Ob p) w w' := by
  have hR : (s.extract (a + 2) s.size).toList = s.toList.drop (a + 2) := extract_toList s (a + 2)
  have hS : (s.extract (a + 2) s.size).size = s.size - (a + 2) := extract_size s (a + 2)
  have hi2 := cutF_len hi
  rw [List.length_drop, toList_len] at hi2
  rw [← hR] at hi
  have HC := Lib.hid (fun wx hx => cut_some (s.extract (a + 2) s.size) i hi (by omega) wx hx)
  rw [hR] at HC
  generalize hT : (s.toList.drop (a + 2)).take i = TT at HC ⊢
  have hTl : TT.length = i := by rw [← hT, List.length_take, List.length_drop, toList_len]; omega
  have hcl : ∀ (N : ByteArray), N.toList = TT → ∀ wx, Calls Try.prog 18 #[.string N] wx fun e w' => e = .returned (.tuple #[.agg (setRow (foldC zeroF (clsP TT))), .bool (decide (clsP TT ≠ []))]) ∧ Keep Nb wx w' := fun N hN wx => by have h := class_t N wx; rw [hN] at h; exact h
  generalize decide (clsP TT ≠ []) = bb at hcl ⊢
  generalize foldC zeroF (clsP TT) = ff at hcl ⊢
  have HCL := Lib.hid hcl
  clear hcl
  have HTL := Lib.hid hTl
  clear hi hR hT hTl
  have HSX := Lib.hid hS; clear hS
  have h0 : (0 : Int) ≤ (a : Int) + 2 := by omega
  have h1 : (a : Int) + 2 ≤ (s.size : Int) := by omega
  have hw2 : IntKind.i64.wrap ((a : Int) + 2) = (a : Int) + 2 := by rw [IntKind.wrap_i64]; omega
  have hw3 : wrap64 ((a : Int) + 2) = (a : Int) + 2 := by unfold wrap64; omega
  have hl := hb.lt
  go_enter Try.func33, Try.ntmps33
  go_wp2_with fail
  have hr0 : Blk (w.alloc (.cells (setRow zeroF) 26)) w.heap.size (setRow zeroF) 26 := Blk.new w _ _
  have hk0 : Keep Nb w (w.alloc (.cells (setRow zeroF) 26)) := Keep.alloc (Keep.refl _ _) _
  have hb0 : RdAt (w.alloc (.cells (setRow zeroF) 26)) p s a := hb.keep hk0 id
  have hm0 : Laid0 (w.alloc (.cells (setRow zeroF) 26)) := hm.keep hk0 id
  simp only [setRow, zeroF] at hr0 hk0 hb0 hm0
  generalize (w.alloc (.cells #[.int .u64 0, .int .u64 0, .int .u64 0, .int .u64 0] 26)) = w1 at hr0 hk0 hb0 hm0 ⊢
  have c0 := hb0.cell 0 (u := .string s) rfl
  have c1 := hb0.cell 1 (u := .int .i64 a) rfl
  have hl0 := hb0.lt
  (refine wp_region_f [17] (InX Nb _) (by kernel_rfl) (InX.mk (Keep.drew (Keep.refl _ _))) (fun hI => ?_))
  have xx : ∀ k, ¬ Nb k := fun _ h => h
  have hK0 : Keep Nb w1 w1.drew := (Keep.refl _ _).drew
  generalize w1.drew = x0 at hK0 hI ⊢
  (refine wpF_take (v := ?_) 0 rfl (by kernel_rfl) (by kernel_rfl) (by kernel_rfl) (by kernel_rfl) (fun _ _ _ h => h) (by assumption) rfl ?_ ?_; rotate_left; (focus (rintro _ ⟨E, rfl⟩; go_simp; (try with_reducible rfl))); simp only [Act.put, List.getElem_toArray, List.getElem_cons_succ, List.getElem_cons_zero, List.setIfInBounds_toArray, List.set_cons_zero, List.set_cons_succ])
  (refine wpF_take (v := ?_) 1 rfl (by kernel_rfl) (by kernel_rfl) (by kernel_rfl) (by kernel_rfl) (fun _ _ _ h => h) (by assumption) rfl ?_ ?_; rotate_left; (focus (rintro _ ⟨E, rfl⟩; go_simp; (try with_reducible rfl))); simp only [Act.put, List.getElem_toArray, List.getElem_cons_succ, List.getElem_cons_zero, List.setIfInBounds_toArray, List.set_cons_zero, List.set_cons_succ])
  (refine wpF_take (v := ?_) 2 rfl (by kernel_rfl) (by kernel_rfl) (by kernel_rfl) (by kernel_rfl) (fun _ _ _ h => h) (by assumption) rfl ?_ ?_; rotate_left; (focus (rintro _ ⟨E, rfl⟩; go_simp; (try with_reducible rfl))); simp only [Act.put, List.getElem_toArray, List.getElem_cons_succ, List.getElem_cons_zero, List.setIfInBounds_toArray, List.set_cons_zero, List.set_cons_succ])
  (refine wpF_take (v := ?_) 3 rfl (by kernel_rfl) (by kernel_rfl) (by kernel_rfl) (by kernel_rfl) (fun _ _ _ h => h) (by assumption) rfl ?_ ?_; rotate_left; (focus (rintro _ ⟨E, rfl⟩; go_simp; (try with_reducible rfl))); simp only [Act.put, List.getElem_toArray, List.getElem_cons_succ, List.getElem_cons_zero, List.setIfInBounds_toArray, List.set_cons_zero, List.set_cons_succ])
  (refine wpF_take (v := ?_) 4 rfl (by kernel_rfl) (by kernel_rfl) (by kernel_rfl) (by kernel_rfl) (fun _ _ _ h => h) (by assumption) rfl ?_ ?_; rotate_left; (focus (rintro _ ⟨E, rfl⟩; go_simp; (try with_reducible rfl))); simp only [Act.put, List.getElem_toArray, List.getElem_cons_succ, List.getElem_cons_zero, List.setIfInBounds_toArray, List.set_cons_zero, List.set_cons_succ])
  (refine wpF_take (v := ?_) 5 rfl (by kernel_rfl) (by kernel_rfl) (by kernel_rfl) (by kernel_rfl) (fun _ _ _ h => h) (by assumption) rfl ?_ ?_; rotate_left; (focus (rintro _ ⟨E, rfl⟩; go_simp; (try with_reducible rfl))); simp only [Act.put, List.getElem_toArray, List.getElem_cons_succ, List.getElem_cons_zero, List.setIfInBounds_toArray, List.set_cons_zero, List.set_cons_succ])
  (refine wpF_take (v := ?_) 6 rfl (by kernel_rfl) (by kernel_rfl) (by kernel_rfl) (by kernel_rfl) (fun _ _ _ h => h) (by assumption) rfl ?_ ?_; rotate_left; (focus (rintro _ ⟨E, rfl⟩; go_simp; (try with_reducible rfl))); simp only [Act.put, List.getElem_toArray, List.getElem_cons_succ, List.getElem_cons_zero, List.setIfInBounds_toArray, List.set_cons_zero, List.set_cons_succ])
  (refine wpF_take (v := ?_) 7 rfl (by kernel_rfl) (by kernel_rfl) (by kernel_rfl) (by kernel_rfl) (fun _ _ _ h => h) (by assumption) rfl ?_ ?_; rotate_left; (focus (rintro _ ⟨E, rfl⟩; go_simp; (try with_reducible rfl))); simp only [Act.put, List.getElem_toArray, List.getElem_cons_succ, List.getElem_cons_zero, List.setIfInBounds_toArray, List.set_cons_zero, List.set_cons_succ])
  (refine wpF_take (v := ?_) 8 rfl (by kernel_rfl) (by kernel_rfl) (by kernel_rfl) (by kernel_rfl) (fun _ _ _ h => h) (by assumption) rfl ?_ ?_; rotate_left; (focus (rintro _ ⟨E, rfl⟩; go_simp; (try with_reducible rfl))); simp only [Act.put, List.getElem_toArray, List.getElem_cons_succ, List.getElem_cons_zero, List.setIfInBounds_toArray, List.set_cons_zero, List.set_cons_succ])
  (refine wpF_take (v := ?_) 9 rfl (by kernel_rfl) (by kernel_rfl) (by kernel_rfl) (by kernel_rfl) (fun _ _ _ h => h) (by assumption) rfl ?_ ?_; rotate_left; (focus (rintro _ ⟨E, rfl⟩; go_simp; (try with_reducible rfl))); simp only [Act.put, List.getElem_toArray, List.getElem_cons_succ, List.getElem_cons_zero, List.setIfInBounds_toArray, List.set_cons_zero, List.set_cons_succ])
  (refine wpF_one 10 rfl (by kernel_rfl) rfl (fun K hK => ?_))
  go_simp
  refine (HC.out _ (hm0.keep hK0 id)).mono ?_
  rintro e x1 ⟨⟨N, X, hN, he⟩, hkn⟩
  subst he
  replace hK0 := Keep.trans hK0 hkn (fun _ _ h => h)
  clear hkn
  (refine hK _ _ (fun _ => InX.mk hK0) (fun hI => ?_); have hI := hI (by simp); clear hK K; try simp only [Act.put, List.getElem_toArray, List.getElem_cons_succ, List.getElem_cons_zero, List.setIfInBounds_toArray, List.set_cons_zero, List.set_cons_succ])
  (refine wpF_take (v := ?_) 11 rfl (by kernel_rfl) (by kernel_rfl) (by kernel_rfl) (by kernel_rfl) (fun _ _ _ h => h) (by assumption) rfl ?_ ?_; rotate_left; (focus (rintro _ ⟨E, rfl⟩; go_simp; (try with_reducible rfl))); simp only [Act.put, List.getElem_toArray, List.getElem_cons_succ, List.getElem_cons_zero, List.setIfInBounds_toArray, List.set_cons_zero, List.set_cons_succ])
  (refine wpF_take (v := ?_) 12 rfl (by kernel_rfl) (by kernel_rfl) (by kernel_rfl) (by kernel_rfl) (fun _ _ _ h => h) (by assumption) rfl ?_ ?_; rotate_left; (focus (rintro _ ⟨E, rfl⟩; go_simp; (try with_reducible rfl))); simp only [Act.put, List.getElem_toArray, List.getElem_cons_succ, List.getElem_cons_zero, List.setIfInBounds_toArray, List.set_cons_zero, List.set_cons_succ])
  (refine wpF_take (v := ?_) 13 rfl (by kernel_rfl) (by kernel_rfl) (by kernel_rfl) (by kernel_rfl) (fun _ _ _ h => h) (by assumption) rfl ?_ ?_; rotate_left; (focus (rintro _ ⟨E, rfl⟩; go_simp; (try with_reducible rfl))); simp only [Act.put, List.getElem_toArray, List.getElem_cons_succ, List.getElem_cons_zero, List.setIfInBounds_toArray, List.set_cons_zero, List.set_cons_succ])
  (refine wpF_take (v := ?_) 14 rfl (by kernel_rfl) (by kernel_rfl) (by kernel_rfl) (by kernel_rfl) (fun _ _ _ h => h) (by assumption) rfl ?_ ?_; rotate_left; (focus (rintro _ ⟨E, rfl⟩; go_simp; (try with_reducible rfl))); simp only [Act.put, List.getElem_toArray, List.getElem_cons_succ, List.getElem_cons_zero, List.setIfInBounds_toArray, List.set_cons_zero, List.set_cons_succ])
  (refine wpF_take (v := ?_) 15 rfl (by kernel_rfl) (by kernel_rfl) (by kernel_rfl) (by kernel_rfl) (fun _ _ _ h => h) (by assumption) rfl ?_ ?_; rotate_left; (focus (rintro _ ⟨E, rfl⟩; go_simp; (try with_reducible rfl))); simp only [Act.put, List.getElem_toArray, List.getElem_cons_succ, List.getElem_cons_zero, List.setIfInBounds_toArray, List.set_cons_zero, List.set_cons_succ])
  (refine wpF_take (v := ?_) 16 rfl (by kernel_rfl) (by kernel_rfl) (by kernel_rfl) (by kernel_rfl) (fun _ _ _ h => h) (by assumption) rfl ?_ ?_; rotate_left; (focus (rintro _ ⟨E, rfl⟩; go_simp; (try with_reducible rfl))); simp only [Act.put, List.getElem_toArray, List.getElem_cons_succ, List.getElem_cons_zero, List.setIfInBounds_toArray, List.set_cons_zero, List.set_cons_succ])
  (refine wpF_one 17 rfl (by kernel_rfl) rfl (fun K hK => ?_))
  go_simp
  (refine hK _ _ (fun h => absurd (by simp) h) (fun _ => ?_); clear hK K; try simp only [Act.put, List.getElem_toArray, List.getElem_cons_succ, List.getElem_cons_zero, List.setIfInBounds_toArray, List.set_cons_zero, List.set_cons_succ])
  (refine wpF_done (by kernel_rfl) ?_ _)
  have hb2 := hb0.keep hK0 id
  have hr2 := hr0.keep hK0 id
  have hk2 := hk0.trans hK0 (fun _ _ h => h)
  clear hI c0 c1 hb0 hr0 hk0 hm0 hw2 hw3
  obtain rfl : N.size = i := by rw [← toList_len, hN]; exact HTL.out
  have HN := Lib.hid hN
  clear hN HC
  have c1 := hb2.cell 1 (u := .int .i64 a) rfl
  have f1 := hb2.frozen 1
  have l4 := hb2.lt
  have hb5 := RdAt.moved hb2 (N.size + 4)
  have hr5 := hr2.setOther (p := ⟨p, 1, none⟩) (by simp; omega) (.int .i64 ((a : Int) + ((N.size + 4 : Nat) : Int)))
  have hk5 : Keep (Ob p) w (_) := Keep.setCell (X := Ob p) (p := ⟨p, 1, none⟩) hk2.ob (Or.inr rfl) (.int .i64 ((a : Int) + ((N.size + 4 : Nat) : Int)))
  rw [show ((a : Int) + ((N.size + 4 : Nat) : Int)) = (a : Int) + ((N.size : Int) + 4) by omega] at hb5 hr5 hk5
  have HB5 := Lib.hid hb5
  have HR5 := Lib.hid hr5
  have HK5 := Lib.hid hk5
  have hw4 : wrap64 ((N.size : Int) + 4) = (N.size : Int) + 4 := by unfold wrap64; omega
  have hw5 : wrap64 ((a : Int) + ((N.size : Int) + 4)) = (a : Int) + ((N.size : Int) + 4) := by unfold wrap64; omega
  clear hb5 hr5 hk5 hb2 hr2 hk2
  go_wp2_with fail
  refine (HCL.out N HN.out _).mono ?_
  rintro e w6 ⟨he, hkn⟩
  subst he
  have hb6 := HB5.out.keep hkn id
  have hr6 := HR5.out.keep hkn id
  have hk6 := HK5.out.trans hkn (fun _ _ h => h.elim)
  clear hkn HB5 HR5 HK5 c1 f1 l4 hw4 hw5
  simp only [setRow]
  go_wp2_with (refine wpList_store_row rfl 26 (.tmp 2) (.tmp 37) rfl w.heap.size _ rfl rfl 26 _ hr6 sizeS1 rfl (by simp [Value.oneCell']) ?_)
  have hr9 : Blk (w6.setRow w.heap.size (setRow ff)) w.heap.size (setRow ff) 26 := hr6.setRow _
  refine bodyPost_ret (results_ct Try.results33 _ _ w.heap.size 26 _ (0, 0) _ rfl hr9 Try.underlying26 rfl sizeS1) rfl ⟨rfl, hb6.setRowOther (by omega) _, Keep.setRow hk6 (Or.inl (Nat.le_refl _)) _⟩
set_option maxRecDepth 100000 in
set_option maxHeartbeats 2000000 in
theorem class_no (p : Nat) (s : ByteArray) (a : Nat) (hi : cutF (s.toList.drop (a + 2)) = none) (ha : a + 2 ≤ s.size) (hz : s.size ≤ 1000000) (hp0 : p ≠ 0) (w : World) (hb : RdAt w p s a) (hm : Laid0 w) :
    Calls Try.prog 33 #[.pointer (some ⟨p, 0, none⟩)] w fun e w' => e = .returned (.tuple #[.agg (setRow zeroF), .bool false]) ∧ Keep (Ob p) w w' := by
  have hR : (s.extract (a + 2) s.size).toList = s.toList.drop (a + 2) := extract_toList s (a + 2)
  have hS : (s.extract (a + 2) s.size).size = s.size - (a + 2) := extract_size s (a + 2)
  rw [← hR] at hi
  have HC := Lib.hid (fun wx hx => cut_none (s.extract (a + 2) s.size) hi (by omega) wx hx)
  clear hi hR
  have HSX := Lib.hid hS; clear hS
  have h0 : (0 : Int) ≤ (a : Int) + 2 := by omega
  have h1 : (a : Int) + 2 ≤ (s.size : Int) := by omega
  have hw2 : IntKind.i64.wrap ((a : Int) + 2) = (a : Int) + 2 := by rw [IntKind.wrap_i64]; omega
  have hw3 : wrap64 ((a : Int) + 2) = (a : Int) + 2 := by unfold wrap64; omega
  have hl := hb.lt
  go_enter Try.func33, Try.ntmps33
  go_wp2_with fail
  have hr0 : Blk (w.alloc (.cells (setRow zeroF) 26)) w.heap.size (setRow zeroF) 26 := Blk.new w _ _
  have hk0 : Keep Nb w (w.alloc (.cells (setRow zeroF) 26)) := Keep.alloc (Keep.refl _ _) _
  have hb0 : RdAt (w.alloc (.cells (setRow zeroF) 26)) p s a := hb.keep hk0 id
  have hm0 : Laid0 (w.alloc (.cells (setRow zeroF) 26)) := hm.keep hk0 id
  simp only [setRow, zeroF] at hr0 hk0 hb0 hm0
  generalize (w.alloc (.cells #[.int .u64 0, .int .u64 0, .int .u64 0, .int .u64 0] 26)) = w1 at hr0 hk0 hb0 hm0 ⊢
  have c0 := hb0.cell 0 (u := .string s) rfl
  have c1 := hb0.cell 1 (u := .int .i64 a) rfl
  have hl0 := hb0.lt
  (refine wp_region_f [17] (InX Nb _) (by kernel_rfl) (InX.mk (Keep.drew (Keep.refl _ _))) (fun hI => ?_))
  have xx : ∀ k, ¬ Nb k := fun _ h => h
  have hK0 : Keep Nb w1 w1.drew := (Keep.refl _ _).drew
  generalize w1.drew = x0 at hK0 hI ⊢
  (refine wpF_take (v := ?_) 0 rfl (by kernel_rfl) (by kernel_rfl) (by kernel_rfl) (by kernel_rfl) (fun _ _ _ h => h) (by assumption) rfl ?_ ?_; rotate_left; (focus (rintro _ ⟨E, rfl⟩; go_simp; (try with_reducible rfl))); simp only [Act.put, List.getElem_toArray, List.getElem_cons_succ, List.getElem_cons_zero, List.setIfInBounds_toArray, List.set_cons_zero, List.set_cons_succ])
  (refine wpF_take (v := ?_) 1 rfl (by kernel_rfl) (by kernel_rfl) (by kernel_rfl) (by kernel_rfl) (fun _ _ _ h => h) (by assumption) rfl ?_ ?_; rotate_left; (focus (rintro _ ⟨E, rfl⟩; go_simp; (try with_reducible rfl))); simp only [Act.put, List.getElem_toArray, List.getElem_cons_succ, List.getElem_cons_zero, List.setIfInBounds_toArray, List.set_cons_zero, List.set_cons_succ])
  (refine wpF_take (v := ?_) 2 rfl (by kernel_rfl) (by kernel_rfl) (by kernel_rfl) (by kernel_rfl) (fun _ _ _ h => h) (by assumption) rfl ?_ ?_; rotate_left; (focus (rintro _ ⟨E, rfl⟩; go_simp; (try with_reducible rfl))); simp only [Act.put, List.getElem_toArray, List.getElem_cons_succ, List.getElem_cons_zero, List.setIfInBounds_toArray, List.set_cons_zero, List.set_cons_succ])
  (refine wpF_take (v := ?_) 3 rfl (by kernel_rfl) (by kernel_rfl) (by kernel_rfl) (by kernel_rfl) (fun _ _ _ h => h) (by assumption) rfl ?_ ?_; rotate_left; (focus (rintro _ ⟨E, rfl⟩; go_simp; (try with_reducible rfl))); simp only [Act.put, List.getElem_toArray, List.getElem_cons_succ, List.getElem_cons_zero, List.setIfInBounds_toArray, List.set_cons_zero, List.set_cons_succ])
  (refine wpF_take (v := ?_) 4 rfl (by kernel_rfl) (by kernel_rfl) (by kernel_rfl) (by kernel_rfl) (fun _ _ _ h => h) (by assumption) rfl ?_ ?_; rotate_left; (focus (rintro _ ⟨E, rfl⟩; go_simp; (try with_reducible rfl))); simp only [Act.put, List.getElem_toArray, List.getElem_cons_succ, List.getElem_cons_zero, List.setIfInBounds_toArray, List.set_cons_zero, List.set_cons_succ])
  (refine wpF_take (v := ?_) 5 rfl (by kernel_rfl) (by kernel_rfl) (by kernel_rfl) (by kernel_rfl) (fun _ _ _ h => h) (by assumption) rfl ?_ ?_; rotate_left; (focus (rintro _ ⟨E, rfl⟩; go_simp; (try with_reducible rfl))); simp only [Act.put, List.getElem_toArray, List.getElem_cons_succ, List.getElem_cons_zero, List.setIfInBounds_toArray, List.set_cons_zero, List.set_cons_succ])
  (refine wpF_take (v := ?_) 6 rfl (by kernel_rfl) (by kernel_rfl) (by kernel_rfl) (by kernel_rfl) (fun _ _ _ h => h) (by assumption) rfl ?_ ?_; rotate_left; (focus (rintro _ ⟨E, rfl⟩; go_simp; (try with_reducible rfl))); simp only [Act.put, List.getElem_toArray, List.getElem_cons_succ, List.getElem_cons_zero, List.setIfInBounds_toArray, List.set_cons_zero, List.set_cons_succ])
  (refine wpF_take (v := ?_) 7 rfl (by kernel_rfl) (by kernel_rfl) (by kernel_rfl) (by kernel_rfl) (fun _ _ _ h => h) (by assumption) rfl ?_ ?_; rotate_left; (focus (rintro _ ⟨E, rfl⟩; go_simp; (try with_reducible rfl))); simp only [Act.put, List.getElem_toArray, List.getElem_cons_succ, List.getElem_cons_zero, List.setIfInBounds_toArray, List.set_cons_zero, List.set_cons_succ])
  (refine wpF_take (v := ?_) 8 rfl (by kernel_rfl) (by kernel_rfl) (by kernel_rfl) (by kernel_rfl) (fun _ _ _ h => h) (by assumption) rfl ?_ ?_; rotate_left; (focus (rintro _ ⟨E, rfl⟩; go_simp; (try with_reducible rfl))); simp only [Act.put, List.getElem_toArray, List.getElem_cons_succ, List.getElem_cons_zero, List.setIfInBounds_toArray, List.set_cons_zero, List.set_cons_succ])
  (refine wpF_take (v := ?_) 9 rfl (by kernel_rfl) (by kernel_rfl) (by kernel_rfl) (by kernel_rfl) (fun _ _ _ h => h) (by assumption) rfl ?_ ?_; rotate_left; (focus (rintro _ ⟨E, rfl⟩; go_simp; (try with_reducible rfl))); simp only [Act.put, List.getElem_toArray, List.getElem_cons_succ, List.getElem_cons_zero, List.setIfInBounds_toArray, List.set_cons_zero, List.set_cons_succ])
  (refine wpF_one 10 rfl (by kernel_rfl) rfl (fun K hK => ?_))
  go_simp
  refine (HC.out _ (hm0.keep hK0 id)).mono ?_
  rintro e x1 ⟨⟨X, Y, he⟩, hkn⟩
  subst he
  replace hK0 := Keep.trans hK0 hkn (fun _ _ h => h)
  clear hkn
  (refine hK _ _ (fun _ => InX.mk hK0) (fun hI => ?_); have hI := hI (by simp); clear hK K; try simp only [Act.put, List.getElem_toArray, List.getElem_cons_succ, List.getElem_cons_zero, List.setIfInBounds_toArray, List.set_cons_zero, List.set_cons_succ])
  (refine wpF_take (v := ?_) 11 rfl (by kernel_rfl) (by kernel_rfl) (by kernel_rfl) (by kernel_rfl) (fun _ _ _ h => h) (by assumption) rfl ?_ ?_; rotate_left; (focus (rintro _ ⟨E, rfl⟩; go_simp; (try with_reducible rfl))); simp only [Act.put, List.getElem_toArray, List.getElem_cons_succ, List.getElem_cons_zero, List.setIfInBounds_toArray, List.set_cons_zero, List.set_cons_succ])
  (refine wpF_take (v := ?_) 12 rfl (by kernel_rfl) (by kernel_rfl) (by kernel_rfl) (by kernel_rfl) (fun _ _ _ h => h) (by assumption) rfl ?_ ?_; rotate_left; (focus (rintro _ ⟨E, rfl⟩; go_simp; (try with_reducible rfl))); simp only [Act.put, List.getElem_toArray, List.getElem_cons_succ, List.getElem_cons_zero, List.setIfInBounds_toArray, List.set_cons_zero, List.set_cons_succ])
  (refine wpF_take (v := ?_) 13 rfl (by kernel_rfl) (by kernel_rfl) (by kernel_rfl) (by kernel_rfl) (fun _ _ _ h => h) (by assumption) rfl ?_ ?_; rotate_left; (focus (rintro _ ⟨E, rfl⟩; go_simp; (try with_reducible rfl))); simp only [Act.put, List.getElem_toArray, List.getElem_cons_succ, List.getElem_cons_zero, List.setIfInBounds_toArray, List.set_cons_zero, List.set_cons_succ])
  (refine wpF_take (v := ?_) 14 rfl (by kernel_rfl) (by kernel_rfl) (by kernel_rfl) (by kernel_rfl) (fun _ _ _ h => h) (by assumption) rfl ?_ ?_; rotate_left; (focus (rintro _ ⟨E, rfl⟩; go_simp; (try with_reducible rfl))); simp only [Act.put, List.getElem_toArray, List.getElem_cons_succ, List.getElem_cons_zero, List.setIfInBounds_toArray, List.set_cons_zero, List.set_cons_succ])
  (refine wpF_take (v := ?_) 15 rfl (by kernel_rfl) (by kernel_rfl) (by kernel_rfl) (by kernel_rfl) (fun _ _ _ h => h) (by assumption) rfl ?_ ?_; rotate_left; (focus (rintro _ ⟨E, rfl⟩; go_simp; (try with_reducible rfl))); simp only [Act.put, List.getElem_toArray, List.getElem_cons_succ, List.getElem_cons_zero, List.setIfInBounds_toArray, List.set_cons_zero, List.set_cons_succ])
  (refine wpF_take (v := ?_) 16 rfl (by kernel_rfl) (by kernel_rfl) (by kernel_rfl) (by kernel_rfl) (fun _ _ _ h => h) (by assumption) rfl ?_ ?_; rotate_left; (focus (rintro _ ⟨E, rfl⟩; go_simp; (try with_reducible rfl))); simp only [Act.put, List.getElem_toArray, List.getElem_cons_succ, List.getElem_cons_zero, List.setIfInBounds_toArray, List.set_cons_zero, List.set_cons_succ])
  (refine wpF_one 17 rfl (by kernel_rfl) rfl (fun K hK => ?_))
  go_simp
  (refine hK _ _ (fun h => absurd (by simp) h) (fun _ => ?_); clear hK K; try simp only [Act.put, List.getElem_toArray, List.getElem_cons_succ, List.getElem_cons_zero, List.setIfInBounds_toArray, List.set_cons_zero, List.set_cons_succ])
  (refine wpF_done (by kernel_rfl) ?_ _)
  have hb2 := hb0.keep hK0 id
  have hr2 := hr0.keep hK0 id
  have hk2 := hk0.trans hK0 (fun _ _ h => h)
  clear hI c0 c1 hb0 hr0 hk0 hm0 hw2 hw3
  go_wp2_with (refine wpList_store_row rfl 26 (.tmp 2) (.tmp 24) rfl w.heap.size _ rfl rfl 26 _ hr2 sizeS1 rfl (by simp [setRow, Value.oneCell']) ?_)
  refine bodyPost_ret (results_ct Try.results33 _ _ w.heap.size 26 _ (0, 0) _ rfl (hr2.setRow (setRow zeroF)) Try.underlying26 rfl sizeS1) rfl ⟨rfl, Keep.setRow hk2.ob (Or.inl (Nat.le_refl _)) _⟩

end Go.Proofs.Ytfjipiibkmapkaa
