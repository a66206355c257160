/- For every input TreeForms returns true. -/
import Derived.Test.YtkidjbfapldmbaaRformed
import Derived.Test.YtkidjbfapldmbaaLeast
import Derived.Test.YtkidjbfapldmbaaRleast
import Derived.Test.YtkidjbfapldmbaaTheirs
import Derived.Deep.DeepCutAuto
namespace Go.Proofs.Ytkidjbfapldmbaa
set_option linter.unusedVariables false
set_option linter.unusedSimpArgs false
open Go.RowKit P8

theorem forms_false (T : Nd) (v : Value) (w : World) (hl : Lies w T v) (hf : few T = false) :
    Calls Try.prog 6 #[.agg (Nd.row T v)] w fun e w' => e = .returned (.bool true) ∧ Keep Nb w w' := by
  have h1 := fun wx => few_any T v wx
  rw [hf] at h1
  have H1 := Lib.hid h1; clear h1 hf
  obtain ⟨A, cap, rfl, _⟩ := Lies_def.1 hl
  simp only [Nd.row]
  go_enter Try.func6, Try.ntmps6
  go_wp2_with fail
  refine (awake_any _).mono ?_
  rintro e w2 ⟨rfl, hk2⟩
  have hb1 : Blk w2 w.heap.size (Nd.row T (.slice A T.l.length cap)) 27 := (Blk.new w _ _).keep hk2 id
  have hk2' : Keep Nb w w2 := Keep.trans (by repeat (first | assumption | exact Keep.refl _ _ | refine Keep.alloc ?_ _ | refine Keep.drew ?_ | refine Keep.setCell ?_ (Or.inl (by simp)) _ | refine Keep.setRow ?_ (Or.inl (by simp)) _)) hk2 (fun _ _ h => h)
  (have o0 := Blk.cell hb1 0 (u := .int .i64 T.h.k) rfl; have o1 := Blk.cell hb1 1 (u := .int .u8 T.h.c) rfl; have o2 := Blk.cell hb1 2 (u := .int .u64 T.h.s0) rfl; have o3 := Blk.cell hb1 3 (u := .int .u64 T.h.s1) rfl; have o4 := Blk.cell hb1 4 (u := .int .u64 T.h.s2) rfl; have o5 := Blk.cell hb1 5 (u := .int .u64 T.h.s3) rfl; have o6 := Blk.cell hb1 6 (u := .int .i64 T.h.n) rfl; have o7 := Blk.cell hb1 7 (u := .int .i64 T.h.mn) rfl; have o8 := Blk.cell hb1 8 (u := .int .i64 T.h.mx) rfl; have o9 := Blk.cell hb1 9 (u := (.slice A T.l.length cap)) rfl)
  go_wp2_with fail
  refine (H1.out _ (Lies_keep hk2' hl)).mono ?_
  rintro e w3 ⟨rfl, hk3⟩
  go_wp2_with fail
  refine (awake_any _).mono ?_
  rintro e w4 ⟨rfl, hk4⟩
  go_wp2_with fail
  go_ret
  exact ⟨rfl, (hk2'.trans hk3 (fun _ _ h => h)).trans hk4 (fun _ _ h => h)⟩

set_option maxRecDepth 100000 in
set_option maxHeartbeats 4000000 in
theorem forms_true (T : Nd) (v : Value) (w : World) (hl : Lies w T v) (hf : few T = true) :
    Calls Try.prog 6 #[.agg (Nd.row T v)] w fun e w' => e = .returned (.bool true) ∧ Keep Nb w w' := by
  have h1 := fun wx => few_any T v wx
  have hcT := (few_count hf).1
  rw [hf] at h1
  have H1 := Lib.hid h1; clear h1 hf
  obtain ⟨A, cap, rfl, _⟩ := Lies_def.1 hl
  simp only [Nd.row]
  go_enter Try.func6, Try.ntmps6
  go_wp2_with fail
  refine (awake_any _).mono ?_
  rintro e w2 ⟨rfl, hk2⟩
  have hb1 : Blk w2 w.heap.size (Nd.row T (.slice A T.l.length cap)) 27 := (Blk.new w _ _).keep hk2 id
  have hk2' : Keep Nb w w2 := Keep.trans (by repeat (first | assumption | exact Keep.refl _ _ | refine Keep.alloc ?_ _ | refine Keep.drew ?_ | refine Keep.setCell ?_ (Or.inl (by simp)) _ | refine Keep.setRow ?_ (Or.inl (by simp)) _)) hk2 (fun _ _ h => h)
  (have o0 := Blk.cell hb1 0 (u := .int .i64 T.h.k) rfl; have o1 := Blk.cell hb1 1 (u := .int .u8 T.h.c) rfl; have o2 := Blk.cell hb1 2 (u := .int .u64 T.h.s0) rfl; have o3 := Blk.cell hb1 3 (u := .int .u64 T.h.s1) rfl; have o4 := Blk.cell hb1 4 (u := .int .u64 T.h.s2) rfl; have o5 := Blk.cell hb1 5 (u := .int .u64 T.h.s3) rfl; have o6 := Blk.cell hb1 6 (u := .int .i64 T.h.n) rfl; have o7 := Blk.cell hb1 7 (u := .int .i64 T.h.mn) rfl; have o8 := Blk.cell hb1 8 (u := .int .i64 T.h.mx) rfl; have o9 := Blk.cell hb1 9 (u := (.slice A T.l.length cap)) rfl)
  go_wp2_with fail
  refine (H1.out _ (Lies_keep hk2' hl)).mono ?_
  rintro e w3 ⟨rfl, hk3⟩
  have hk3' := hk2'.trans hk3 (fun _ _ h => h)
  have hb13 := hb1.keep hk3 id
  clear o0 o1 o2 o3 o4 o5 o6 o7 o8 o9 hb1 hk2 hk2' hk3
  (have o0 := Blk.cell hb13 0 (u := .int .i64 T.h.k) rfl; have o1 := Blk.cell hb13 1 (u := .int .u8 T.h.c) rfl; have o2 := Blk.cell hb13 2 (u := .int .u64 T.h.s0) rfl; have o3 := Blk.cell hb13 3 (u := .int .u64 T.h.s1) rfl; have o4 := Blk.cell hb13 4 (u := .int .u64 T.h.s2) rfl; have o5 := Blk.cell hb13 5 (u := .int .u64 T.h.s3) rfl; have o6 := Blk.cell hb13 6 (u := .int .i64 T.h.n) rfl; have o7 := Blk.cell hb13 7 (u := .int .i64 T.h.mn) rfl; have o8 := Blk.cell hb13 8 (u := .int .i64 T.h.mx) rfl; have o9 := Blk.cell hb13 9 (u := (.slice A T.l.length cap)) rfl)
  go_wp2_with fail
  refine (theirs_any 400 (by omega) T (by omega) _ _ (Lies_keep hk3' hl)).mono ?_
  rintro e w4 ⟨S1, rfl, hB1, hk4⟩
  obtain ⟨A1, n1, rfl, _⟩ := LiesP_def.1 hB1
  have hk4' := hk3'.trans hk4 (fun _ _ h => h)
  have hx := hb13.keep hk4 id
  clear o0 o1 o2 o3 o4 o5 o6 o7 o8 o9 hb13 hk4 hk3' H1
  simp only [Nd.row]
  go_wp2_with fail
  have hk5 : Keep Nb w4 (w4.alloc (.cells (Nd.row T (.slice A1 T.l.length n1)) 33)) := Keep.alloc (Keep.refl _ _) _
  have hp : Blk (w4.alloc (.cells (Nd.row T (.slice A1 T.l.length n1)) 33)) w4.heap.size (Nd.row T (.slice A1 T.l.length n1)) 33 := Blk.new w4 _ _
  simp only [Nd.row] at hk5 hp
  generalize (w4.alloc (.cells #[.int .i64 T.h.k, .int .u8 T.h.c, .int .u64 T.h.s0, .int .u64 T.h.s1, .int .u64 T.h.s2, .int .u64 T.h.s3, .int .i64 T.h.n, .int .i64 T.h.mn, .int .i64 T.h.mx, .slice A1 T.l.length n1] 33)) = wc at hk5 hp ⊢
  generalize w4.heap.size = p at hp ⊢
  have hk : Keep Nb w wc := hk4'.trans hk5 (fun _ _ h => h)
  have hlS : Lies wc T (.slice A1 T.l.length n1) := Lies_keep hk5 (LiesP_all hB1)
  have hlT : Lies wc T (.slice A T.l.length cap) := Lies_keep hk hl
  have hxc := hx.keep hk5 id
  clear hx hk5 hk4' hB1
  have eF : (formedT T == formedT T) = true := by simp
  have eC : ((count T : Int) == (count T : Int)) = true := by simp
  have eD : ((deep T : Int) == (deep T : Int)) = true := by simp
  have eG : ((groups T : Int) == (groups T : Int)) = true := by simp
  have eL : (least T == least T) = true := by simp
  (have a0 := Blk.cell hp 0 (u := .int .i64 T.h.k) rfl; have a1 := Blk.cell hp 1 (u := .int .u8 T.h.c) rfl; have a2 := Blk.cell hp 2 (u := .int .u64 T.h.s0) rfl; have a3 := Blk.cell hp 3 (u := .int .u64 T.h.s1) rfl; have a4 := Blk.cell hp 4 (u := .int .u64 T.h.s2) rfl; have a5 := Blk.cell hp 5 (u := .int .u64 T.h.s3) rfl; have a6 := Blk.cell hp 6 (u := .int .i64 T.h.n) rfl; have a7 := Blk.cell hp 7 (u := .int .i64 T.h.mn) rfl; have a8 := Blk.cell hp 8 (u := .int .i64 T.h.mx) rfl; have a9 := Blk.cell hp 9 (u := (.slice A1 T.l.length n1)) rfl)
  (have c0 := Blk.cell hxc 0 (u := .int .i64 T.h.k) rfl; have c1 := Blk.cell hxc 1 (u := .int .u8 T.h.c) rfl; have c2 := Blk.cell hxc 2 (u := .int .u64 T.h.s0) rfl; have c3 := Blk.cell hxc 3 (u := .int .u64 T.h.s1) rfl; have c4 := Blk.cell hxc 4 (u := .int .u64 T.h.s2) rfl; have c5 := Blk.cell hxc 5 (u := .int .u64 T.h.s3) rfl; have c6 := Blk.cell hxc 6 (u := .int .i64 T.h.n) rfl; have c7 := Blk.cell hxc 7 (u := .int .i64 T.h.mn) rfl; have c8 := Blk.cell hxc 8 (u := .int .i64 T.h.mx) rfl; have c9 := Blk.cell hxc 9 (u := (.slice A T.l.length cap)) rfl)
  have lp := hp.lt
  have l1 := hxc.lt
  (refine wp_region_f [33] (InX Nb _) (by kernel_rfl) (InX.mk (Keep.drew (Keep.refl _ _))) (fun hI => ?_))
  have xx : ∀ k, ¬ Nb k := fun _ h => h
  have hK0 : Keep Nb wc wc.drew := (Keep.refl _ _).drew
  generalize wc.drew = x0 at hK0 hI ⊢
  (refine wpF_take (v := ?_) 0 rfl (by kernel_rfl) (by kernel_rfl) (by kernel_rfl) (by kernel_rfl) (fun _ _ _ h => h) (by assumption) rfl ?_ ?_; rotate_left; (focus (rintro _ ⟨E, rfl⟩; go_simp; (try with_reducible rfl))); simp only [Act.put, List.getElem_toArray, List.getElem_cons_succ, List.getElem_cons_zero, List.setIfInBounds_toArray, List.set_cons_zero, List.set_cons_succ])
  (refine wpF_take (v := ?_) 2 rfl (by kernel_rfl) (by kernel_rfl) (by kernel_rfl) (by kernel_rfl) (fun _ _ _ h => h) (by assumption) rfl ?_ ?_; rotate_left; (focus (rintro _ ⟨E, rfl⟩; go_simp; (try with_reducible rfl))); simp only [Act.put, List.getElem_toArray, List.getElem_cons_succ, List.getElem_cons_zero, List.setIfInBounds_toArray, List.set_cons_zero, List.set_cons_succ])
  (refine wpF_one 1 rfl (by kernel_rfl) rfl (fun K hK => ?_))
  go_simp
  refine (formed_any T (by omega) _ _ (Lies_keep hK0 hlS)).mono ?_
  rintro e x1 ⟨he, hkn⟩
  subst he
  replace hK0 := Keep.trans hK0 hkn (fun _ _ h => h)
  clear hkn
  (refine hK _ _ (fun _ => InX.mk hK0) (fun hI => ?_); have hI := hI (by simp); clear hK K; try simp only [Act.put, List.getElem_toArray, List.getElem_cons_succ, List.getElem_cons_zero, List.setIfInBounds_toArray, List.set_cons_zero, List.set_cons_succ])
  (refine wpF_one 3 rfl (by kernel_rfl) rfl (fun K hK => ?_))
  go_simp
  refine (rformed_any T (by omega) _ _ (Lies_keep hK0 hlT)).mono ?_
  rintro e x2 ⟨he, hkn⟩
  subst he
  replace hK0 := Keep.trans hK0 hkn (fun _ _ h => h)
  clear hkn
  (refine hK _ _ (fun _ => InX.mk hK0) (fun hI => ?_); have hI := hI (by simp); clear hK K; try simp only [Act.put, List.getElem_toArray, List.getElem_cons_succ, List.getElem_cons_zero, List.setIfInBounds_toArray, List.set_cons_zero, List.set_cons_succ])
  (refine wpF_take (v := ?_) 4 rfl (by kernel_rfl) (by kernel_rfl) (by kernel_rfl) (by kernel_rfl) (fun _ _ _ h => h) (by assumption) rfl ?_ ?_; rotate_left; (focus (rintro _ ⟨E, rfl⟩; go_simp; (try with_reducible rfl))); simp only [Act.put, List.getElem_toArray, List.getElem_cons_succ, List.getElem_cons_zero, List.setIfInBounds_toArray, List.set_cons_zero, List.set_cons_succ])
  (refine wpF_take (v := ?_) 5 rfl (by kernel_rfl) (by kernel_rfl) (by kernel_rfl) (by kernel_rfl) (fun _ _ _ h => h) (by assumption) rfl ?_ ?_; rotate_left; (focus (rintro _ ⟨E, rfl⟩; go_simp; (try with_reducible rfl))); simp only [Act.put, List.getElem_toArray, List.getElem_cons_succ, List.getElem_cons_zero, List.setIfInBounds_toArray, List.set_cons_zero, List.set_cons_succ])
  (refine wpF_take (v := ?_) 6 rfl (by kernel_rfl) (by kernel_rfl) (by kernel_rfl) (by kernel_rfl) (fun _ _ _ h => h) (by assumption) rfl ?_ ?_; rotate_left; (focus (rintro _ ⟨E, rfl⟩; go_simp; (try with_reducible rfl))); simp only [Act.put, List.getElem_toArray, List.getElem_cons_succ, List.getElem_cons_zero, List.setIfInBounds_toArray, List.set_cons_zero, List.set_cons_succ])
  (refine wpF_take (v := ?_) 8 rfl (by kernel_rfl) (by kernel_rfl) (by kernel_rfl) (by kernel_rfl) (fun _ _ _ h => h) (by assumption) rfl ?_ ?_; rotate_left; (focus (rintro _ ⟨E, rfl⟩; go_simp; (try with_reducible rfl))); simp only [Act.put, List.getElem_toArray, List.getElem_cons_succ, List.getElem_cons_zero, List.setIfInBounds_toArray, List.set_cons_zero, List.set_cons_succ])
  (refine wpF_one 7 rfl (by kernel_rfl) rfl (fun K hK => ?_))
  go_simp
  refine (tcount_any 400 T hcT (by omega) _ _ (Lies_keep hK0 hlS)).mono ?_
  rintro e x3 ⟨he, hkn⟩
  subst he
  replace hK0 := Keep.trans hK0 hkn (fun _ _ h => h)
  clear hkn
  (refine hK _ _ (fun _ => InX.mk hK0) (fun hI => ?_); have hI := hI (by simp); clear hK K; try simp only [Act.put, List.getElem_toArray, List.getElem_cons_succ, List.getElem_cons_zero, List.setIfInBounds_toArray, List.set_cons_zero, List.set_cons_succ])
  (refine wpF_one 9 rfl (by kernel_rfl) rfl (fun K hK => ?_))
  go_simp
  refine (rcount_any 400 T hcT (by omega) _ _ (Lies_keep hK0 hlT)).mono ?_
  rintro e x4 ⟨he, hkn⟩
  subst he
  replace hK0 := Keep.trans hK0 hkn (fun _ _ h => h)
  clear hkn
  (refine hK _ _ (fun _ => InX.mk hK0) (fun hI => ?_); have hI := hI (by simp); clear hK K; try simp only [Act.put, List.getElem_toArray, List.getElem_cons_succ, List.getElem_cons_zero, List.setIfInBounds_toArray, List.set_cons_zero, List.set_cons_succ])
  (refine wpF_take (v := ?_) 10 rfl (by kernel_rfl) (by kernel_rfl) (by kernel_rfl) (by kernel_rfl) (fun _ _ _ h => h) (by assumption) rfl ?_ ?_; rotate_left; (focus (rintro _ ⟨E, rfl⟩; go_simp; (try with_reducible rfl))); simp only [Act.put, List.getElem_toArray, List.getElem_cons_succ, List.getElem_cons_zero, List.setIfInBounds_toArray, List.set_cons_zero, List.set_cons_succ])
  (refine wpF_take (v := ?_) 11 rfl (by kernel_rfl) (by kernel_rfl) (by kernel_rfl) (by kernel_rfl) (fun _ _ _ h => h) (by assumption) rfl ?_ ?_; rotate_left; (focus (rintro _ ⟨E, rfl⟩; go_simp; (try with_reducible rfl))); simp only [Act.put, List.getElem_toArray, List.getElem_cons_succ, List.getElem_cons_zero, List.setIfInBounds_toArray, List.set_cons_zero, List.set_cons_succ])
  (refine wpF_take (v := ?_) 12 rfl (by kernel_rfl) (by kernel_rfl) (by kernel_rfl) (by kernel_rfl) (fun _ _ _ h => h) (by assumption) rfl ?_ ?_; rotate_left; (focus (rintro _ ⟨E, rfl⟩; go_simp; (try with_reducible rfl))); simp only [Act.put, List.getElem_toArray, List.getElem_cons_succ, List.getElem_cons_zero, List.setIfInBounds_toArray, List.set_cons_zero, List.set_cons_succ])
  (refine wpF_take (v := ?_) 13 rfl (by kernel_rfl) (by kernel_rfl) (by kernel_rfl) (by kernel_rfl) (fun _ _ _ h => h) (by assumption) rfl ?_ ?_; rotate_left; (focus (rintro _ ⟨E, rfl⟩; go_simp; (try with_reducible rfl))); simp only [Act.put, List.getElem_toArray, List.getElem_cons_succ, List.getElem_cons_zero, List.setIfInBounds_toArray, List.set_cons_zero, List.set_cons_succ])
  (refine wpF_take (v := ?_) 15 rfl (by kernel_rfl) (by kernel_rfl) (by kernel_rfl) (by kernel_rfl) (fun _ _ _ h => h) (by assumption) rfl ?_ ?_; rotate_left; (focus (rintro _ ⟨E, rfl⟩; go_simp; (try with_reducible rfl))); simp only [Act.put, List.getElem_toArray, List.getElem_cons_succ, List.getElem_cons_zero, List.setIfInBounds_toArray, List.set_cons_zero, List.set_cons_succ])
  (refine wpF_one 14 rfl (by kernel_rfl) rfl (fun K hK => ?_))
  go_simp
  refine (tdeep_any 400 T hcT (by omega) _ _ (Lies_keep hK0 hlS)).mono ?_
  rintro e x5 ⟨he, hkn⟩
  subst he
  replace hK0 := Keep.trans hK0 hkn (fun _ _ h => h)
  clear hkn
  (refine hK _ _ (fun _ => InX.mk hK0) (fun hI => ?_); have hI := hI (by simp); clear hK K; try simp only [Act.put, List.getElem_toArray, List.getElem_cons_succ, List.getElem_cons_zero, List.setIfInBounds_toArray, List.set_cons_zero, List.set_cons_succ])
  (refine wpF_one 16 rfl (by kernel_rfl) rfl (fun K hK => ?_))
  go_simp
  refine (rdeep_any 400 T hcT (by omega) _ _ (Lies_keep hK0 hlT)).mono ?_
  rintro e x6 ⟨he, hkn⟩
  subst he
  replace hK0 := Keep.trans hK0 hkn (fun _ _ h => h)
  clear hkn
  (refine hK _ _ (fun _ => InX.mk hK0) (fun hI => ?_); have hI := hI (by simp); clear hK K; try simp only [Act.put, List.getElem_toArray, List.getElem_cons_succ, List.getElem_cons_zero, List.setIfInBounds_toArray, List.set_cons_zero, List.set_cons_succ])
  (refine wpF_take (v := ?_) 17 rfl (by kernel_rfl) (by kernel_rfl) (by kernel_rfl) (by kernel_rfl) (fun _ _ _ h => h) (by assumption) rfl ?_ ?_; rotate_left; (focus (rintro _ ⟨E, rfl⟩; go_simp; (try with_reducible rfl))); simp only [Act.put, List.getElem_toArray, List.getElem_cons_succ, List.getElem_cons_zero, List.setIfInBounds_toArray, List.set_cons_zero, List.set_cons_succ])
  (refine wpF_take (v := ?_) 18 rfl (by kernel_rfl) (by kernel_rfl) (by kernel_rfl) (by kernel_rfl) (fun _ _ _ h => h) (by assumption) rfl ?_ ?_; rotate_left; (focus (rintro _ ⟨E, rfl⟩; go_simp; (try with_reducible rfl))); simp only [Act.put, List.getElem_toArray, List.getElem_cons_succ, List.getElem_cons_zero, List.setIfInBounds_toArray, List.set_cons_zero, List.set_cons_succ])
  (refine wpF_take (v := ?_) 19 rfl (by kernel_rfl) (by kernel_rfl) (by kernel_rfl) (by kernel_rfl) (fun _ _ _ h => h) (by assumption) rfl ?_ ?_; rotate_left; (focus (rintro _ ⟨E, rfl⟩; go_simp; (try with_reducible rfl))); simp only [Act.put, List.getElem_toArray, List.getElem_cons_succ, List.getElem_cons_zero, List.setIfInBounds_toArray, List.set_cons_zero, List.set_cons_succ])
  (refine wpF_take (v := ?_) 20 rfl (by kernel_rfl) (by kernel_rfl) (by kernel_rfl) (by kernel_rfl) (fun _ _ _ h => h) (by assumption) rfl ?_ ?_; rotate_left; (focus (rintro _ ⟨E, rfl⟩; go_simp; (try with_reducible rfl))); simp only [Act.put, List.getElem_toArray, List.getElem_cons_succ, List.getElem_cons_zero, List.setIfInBounds_toArray, List.set_cons_zero, List.set_cons_succ])
  (refine wpF_take (v := ?_) 22 rfl (by kernel_rfl) (by kernel_rfl) (by kernel_rfl) (by kernel_rfl) (fun _ _ _ h => h) (by assumption) rfl ?_ ?_; rotate_left; (focus (rintro _ ⟨E, rfl⟩; go_simp; (try with_reducible rfl))); simp only [Act.put, List.getElem_toArray, List.getElem_cons_succ, List.getElem_cons_zero, List.setIfInBounds_toArray, List.set_cons_zero, List.set_cons_succ])
  (refine wpF_one 21 rfl (by kernel_rfl) rfl (fun K hK => ?_))
  go_simp
  refine (tgroups_any 400 T hcT (by omega) _ _ (Lies_keep hK0 hlS)).mono ?_
  rintro e x7 ⟨he, hkn⟩
  subst he
  replace hK0 := Keep.trans hK0 hkn (fun _ _ h => h)
  clear hkn
  (refine hK _ _ (fun _ => InX.mk hK0) (fun hI => ?_); have hI := hI (by simp); clear hK K; try simp only [Act.put, List.getElem_toArray, List.getElem_cons_succ, List.getElem_cons_zero, List.setIfInBounds_toArray, List.set_cons_zero, List.set_cons_succ])
  (refine wpF_one 23 rfl (by kernel_rfl) rfl (fun K hK => ?_))
  go_simp
  refine (rgroups_any 400 T hcT (by omega) _ _ (Lies_keep hK0 hlT)).mono ?_
  rintro e x8 ⟨he, hkn⟩
  subst he
  replace hK0 := Keep.trans hK0 hkn (fun _ _ h => h)
  clear hkn
  (refine hK _ _ (fun _ => InX.mk hK0) (fun hI => ?_); have hI := hI (by simp); clear hK K; try simp only [Act.put, List.getElem_toArray, List.getElem_cons_succ, List.getElem_cons_zero, List.setIfInBounds_toArray, List.set_cons_zero, List.set_cons_succ])
  (refine wpF_take (v := ?_) 24 rfl (by kernel_rfl) (by kernel_rfl) (by kernel_rfl) (by kernel_rfl) (fun _ _ _ h => h) (by assumption) rfl ?_ ?_; rotate_left; (focus (rintro _ ⟨E, rfl⟩; go_simp; (try with_reducible rfl))); simp only [Act.put, List.getElem_toArray, List.getElem_cons_succ, List.getElem_cons_zero, List.setIfInBounds_toArray, List.set_cons_zero, List.set_cons_succ])
  (refine wpF_take (v := ?_) 25 rfl (by kernel_rfl) (by kernel_rfl) (by kernel_rfl) (by kernel_rfl) (fun _ _ _ h => h) (by assumption) rfl ?_ ?_; rotate_left; (focus (rintro _ ⟨E, rfl⟩; go_simp; (try with_reducible rfl))); simp only [Act.put, List.getElem_toArray, List.getElem_cons_succ, List.getElem_cons_zero, List.setIfInBounds_toArray, List.set_cons_zero, List.set_cons_succ])
  (refine wpF_take (v := ?_) 26 rfl (by kernel_rfl) (by kernel_rfl) (by kernel_rfl) (by kernel_rfl) (fun _ _ _ h => h) (by assumption) rfl ?_ ?_; rotate_left; (focus (rintro _ ⟨E, rfl⟩; go_simp; (try with_reducible rfl))); simp only [Act.put, List.getElem_toArray, List.getElem_cons_succ, List.getElem_cons_zero, List.setIfInBounds_toArray, List.set_cons_zero, List.set_cons_succ])
  (refine wpF_take (v := ?_) 27 rfl (by kernel_rfl) (by kernel_rfl) (by kernel_rfl) (by kernel_rfl) (fun _ _ _ h => h) (by assumption) rfl ?_ ?_; rotate_left; (focus (rintro _ ⟨E, rfl⟩; go_simp; (try with_reducible rfl))); simp only [Act.put, List.getElem_toArray, List.getElem_cons_succ, List.getElem_cons_zero, List.setIfInBounds_toArray, List.set_cons_zero, List.set_cons_succ])
  (refine wpF_take (v := ?_) 29 rfl (by kernel_rfl) (by kernel_rfl) (by kernel_rfl) (by kernel_rfl) (fun _ _ _ h => h) (by assumption) rfl ?_ ?_; rotate_left; (focus (rintro _ ⟨E, rfl⟩; go_simp; (try with_reducible rfl))); simp only [Act.put, List.getElem_toArray, List.getElem_cons_succ, List.getElem_cons_zero, List.setIfInBounds_toArray, List.set_cons_zero, List.set_cons_succ])
  (refine wpF_one 28 rfl (by kernel_rfl) rfl (fun K hK => ?_))
  go_simp
  refine (tleast_any 400 (by omega) T hcT _ _ (Lies_keep hK0 hlS)).mono ?_
  rintro e x9 ⟨he, hkn⟩
  subst he
  replace hK0 := Keep.trans hK0 hkn (fun _ _ h => h)
  clear hkn
  (refine hK _ _ (fun _ => InX.mk hK0) (fun hI => ?_); have hI := hI (by simp); clear hK K; try simp only [Act.put, List.getElem_toArray, List.getElem_cons_succ, List.getElem_cons_zero, List.setIfInBounds_toArray, List.set_cons_zero, List.set_cons_succ])
  (refine wpF_one 30 rfl (by kernel_rfl) rfl (fun K hK => ?_))
  go_simp
  refine (rleast_any 400 (by omega) T hcT _ _ (Lies_keep hK0 hlT)).mono ?_
  rintro e x10 ⟨he, hkn⟩
  subst he
  replace hK0 := Keep.trans hK0 hkn (fun _ _ h => h)
  clear hkn
  (refine hK _ _ (fun _ => InX.mk hK0) (fun hI => ?_); have hI := hI (by simp); clear hK K; try simp only [Act.put, List.getElem_toArray, List.getElem_cons_succ, List.getElem_cons_zero, List.setIfInBounds_toArray, List.set_cons_zero, List.set_cons_succ])
  (refine wpF_take (v := ?_) 31 rfl (by kernel_rfl) (by kernel_rfl) (by kernel_rfl) (by kernel_rfl) (fun _ _ _ h => h) (by assumption) rfl ?_ ?_; rotate_left; (focus (rintro _ ⟨E, rfl⟩; go_simp; (try with_reducible rfl))); simp only [Act.put, List.getElem_toArray, List.getElem_cons_succ, List.getElem_cons_zero, List.setIfInBounds_toArray, List.set_cons_zero, List.set_cons_succ])
  (refine wpF_take (v := ?_) 32 rfl (by kernel_rfl) (by kernel_rfl) (by kernel_rfl) (by kernel_rfl) (fun _ _ _ h => h) (by assumption) rfl ?_ ?_; rotate_left; (focus (rintro _ ⟨E, rfl⟩; go_simp; (try with_reducible rfl))); simp only [Act.put, List.getElem_toArray, List.getElem_cons_succ, List.getElem_cons_zero, List.setIfInBounds_toArray, List.set_cons_zero, List.set_cons_succ])
  (refine wpF_one 33 rfl (by kernel_rfl) rfl (fun K hK => ?_))
  go_simp
  (refine hK _ _ (fun h => absurd (by simp) h) (fun _ => ?_); clear hK K; try simp only [Act.put, List.getElem_toArray, List.getElem_cons_succ, List.getElem_cons_zero, List.setIfInBounds_toArray, List.set_cons_zero, List.set_cons_succ])
  (refine wpF_done (by kernel_rfl) ?_ _)
  go_wp2_with fail
  go_ret
  exact ⟨rfl, Keep.trans hk hK0 (fun _ _ h => h)⟩

theorem forms_any (T : Nd) (v : Value) (w : World) (hl : Lies w T v) :
    Calls Try.prog 6 #[.agg (Nd.row T v)] w fun e w' => e = .returned (.bool true) ∧ Keep Nb w w' := by
  by_cases h1 : few T = true
  · exact forms_true T v w hl h1
  · exact forms_false T v w hl (by simpa using h1)

end Go.Proofs.Ytkidjbfapldmbaa
