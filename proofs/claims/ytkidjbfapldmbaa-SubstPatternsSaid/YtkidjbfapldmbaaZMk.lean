import Derived.Test.YtkidjbfapldmbaaZMb
set_option linter.unusedVariables false
set_option linter.unusedSimpArgs false
set_option linter.unusedSectionVars false
namespace Go.Proofs.Ytkidjbfapldmbaa
open Go.RowKit P8
def fitsI : Option Nat → Int
 | none => -1
 | some j => (j : Int)
theorem beq_int {a b : Int} (h : a = b) : (a == b) = true := by rw [h]; exact beq_self_eq_true b
theorem bne_int {a b : Int} (h : ¬ a = b) : (a == b) = false := beq_eq_false_iff_ne.2 h
section
variable (p : Nat) (T : ByteArray) (e : Env) (s : St) (c : Caps) (N : Nd) (S : Value) (nb no q : Nat) (w : World) (hT : T.toList = e.L) (h6 : T.size ≤ 600) (hq : q ≤ T.size) (hc : CapsOk T.size c) (hb : FAt w p T e s c) (hN : Ten w nb no N S)
include hT h6 hq hc hb hN
set_option maxRecDepth 100000 in
set_option maxHeartbeats 1000000 in
theorem fits_1 (hk : N.h.k = 1) : Calls Try.prog 103 #[.pointer (some ⟨p, 0, none⟩), .pointer (some ⟨nb, no, none⟩), .int .i64 (q : Int)] w fun x w' => x = .returned (.int .i64 (fitsI (fitsF e N.h q c))) ∧ Keep Nb w w' := by
 have c0 := hb.cell 0 (u := .string T) rfl
 have c1 := hb.cell 1 (u := .bool e.bound) rfl
 have hl := hb.lt
 have n0 := hN.c0
 have n1 := hN.c1
 have n2 := hN.c2
 have n3 := hN.c3
 have n4 := hN.c4
 have n5 := hN.c5
 have n6 := hN.c6
 have nl := hN.lt
 have j0 : (0 : Int) ≤ (q : Int) := by omega
 rw [hk] at n0
 by_cases h : q < T.size
 ·have g1 : decide ((q : Int) < (T.size : Int)) = true := by simp; omega
  have g2 : decide (q < T.size) = true := by simp; omega
  have i1 : (q : Int) < (T.size : Int) := by omega
  obtain ⟨x, hx⟩ : ∃ x, T.toList[q]? = some x := ⟨_, List.getElem?_eq_getElem (by rw [toList_len]; omega)⟩
  obtain ⟨b0, e0⟩ := byte_at hx
  by_cases hcx : (x.toNat : Int) = N.h.c
  ·have m1 := beq_int hcx
   have HF : fitsF e N.h q c = some 1 := by rw [fitsF, if_pos hk, ← hT, hx]; simp only []; rw [if_pos hcx]
   rw [HF]
   clear HF hb hN hc hT h6 hq hx hcx h hk
   simp only [fitsI]
   go_enter Try.func103, Try.ntmps103
   go_wp2_with fail
   (refine wp_region_f [14] (InX Nb _) (by kernel_rfl) (InX.mk (Keep.drew (Keep.refl _ _))) (fun hI => ?_))
   have xx : ∀ k, ¬ Nb k := fun _ h => h
   have hK0 : Keep Nb w w.drew := (Keep.refl _ _).drew
   generalize w.drew = x0 at hK0 hI ⊢
   (refine wpI_from 0 ?_; (iterate 14 ((first | (refine wpI_take (v := ?_) rfl (by kernel_rfl) (fun _ _ _ h => h) hI rfl ?_ ?_; rotate_left; (focus (rintro _ ⟨E, rfl⟩; go_simp; (try with_reducible rfl)))) | refine wpI_skip rfl (by kernel_rfl) (fun _ _ _ h => h) hI rfl ?_); simp only [Act.put, tk, Nat.reduceAdd])); refine wpI_till ?_)
   (refine wpF_one 14 rfl (by kernel_rfl) rfl (fun K hK => ?_))
   go_simp
   (refine hK _ _ (fun h => absurd (by simp) h) (fun _ => ?_); clear hK K; try simp only [Act.put, tk])
   (refine wpF_done (by kernel_rfl) ?_ _)
   go_wp2_with fail
   go_ret
   exact ⟨rfl, hK0⟩
  ·have m1 := bne_int hcx
   have HF : fitsF e N.h q c = none := by rw [fitsF, if_pos hk, ← hT, hx]; simp only []; rw [if_neg hcx]
   rw [HF]
   clear HF hb hN hc hT h6 hq hx hcx h hk
   simp only [fitsI]
   go_enter Try.func103, Try.ntmps103
   go_wp2_with fail
   (refine wp_region_f [14] (InX Nb _) (by kernel_rfl) (InX.mk (Keep.drew (Keep.refl _ _))) (fun hI => ?_))
   have xx : ∀ k, ¬ Nb k := fun _ h => h
   have hK0 : Keep Nb w w.drew := (Keep.refl _ _).drew
   generalize w.drew = x0 at hK0 hI ⊢
   (refine wpI_from 0 ?_; (iterate 14 ((first | (refine wpI_take (v := ?_) rfl (by kernel_rfl) (fun _ _ _ h => h) hI rfl ?_ ?_; rotate_left; (focus (rintro _ ⟨E, rfl⟩; go_simp; (try with_reducible rfl)))) | refine wpI_skip rfl (by kernel_rfl) (fun _ _ _ h => h) hI rfl ?_); simp only [Act.put, tk, Nat.reduceAdd])); refine wpI_till ?_)
   (refine wpF_one 14 rfl (by kernel_rfl) rfl (fun K hK => ?_))
   go_simp
   (refine hK _ _ (fun h => absurd (by simp) h) (fun _ => ?_); clear hK K; try simp only [Act.put, tk])
   (refine wpF_done (by kernel_rfl) ?_ _)
   go_wp2_with fail
   go_ret
   exact ⟨rfl, hK0⟩
 ·have g1 : decide ((q : Int) < (T.size : Int)) = false := by simp; omega
  have g2 : decide (q < T.size) = false := by simp; omega
  have hx : T.toList[q]? = none := List.getElem?_eq_none (by rw [toList_len]; omega)
  have HF : fitsF e N.h q c = none := by rw [fitsF, if_pos hk, ← hT, hx]
  rw [HF]
  clear HF hb hN hc hT h6 hq hx h hk
  simp only [fitsI]
  go_enter Try.func103, Try.ntmps103
  go_wp2_with fail
  (refine wp_region_f [14] (InX Nb _) (by kernel_rfl) (InX.mk (Keep.drew (Keep.refl _ _))) (fun hI => ?_))
  have xx : ∀ k, ¬ Nb k := fun _ h => h
  have hK0 : Keep Nb w w.drew := (Keep.refl _ _).drew
  generalize w.drew = x0 at hK0 hI ⊢
  (refine wpI_from 0 ?_; (iterate 14 ((first | (refine wpI_take (v := ?_) rfl (by kernel_rfl) (fun _ _ _ h => h) hI rfl ?_ ?_; rotate_left; (focus (rintro _ ⟨E, rfl⟩; go_simp; (try with_reducible rfl)))) | refine wpI_skip rfl (by kernel_rfl) (fun _ _ _ h => h) hI rfl ?_); simp only [Act.put, tk, Nat.reduceAdd])); refine wpI_till ?_)
  (refine wpF_one 14 rfl (by kernel_rfl) rfl (fun K hK => ?_))
  go_simp
  (refine hK _ _ (fun h => absurd (by simp) h) (fun _ => ?_); clear hK K; try simp only [Act.put, tk])
  (refine wpF_done (by kernel_rfl) ?_ _)
  go_wp2_with fail
  go_ret
  exact ⟨rfl, hK0⟩
set_option maxRecDepth 100000 in
set_option maxHeartbeats 1000000 in
theorem fits_2 (hk : N.h.k = 2) : Calls Try.prog 103 #[.pointer (some ⟨p, 0, none⟩), .pointer (some ⟨nb, no, none⟩), .int .i64 (q : Int)] w fun x w' => x = .returned (.int .i64 (fitsI (fitsF e N.h q c))) ∧ Keep Nb w w' := by
 have c0 := hb.cell 0 (u := .string T) rfl
 have c1 := hb.cell 1 (u := .bool e.bound) rfl
 have hl := hb.lt
 have n0 := hN.c0
 have n1 := hN.c1
 have n2 := hN.c2
 have n3 := hN.c3
 have n4 := hN.c4
 have n5 := hN.c5
 have n6 := hN.c6
 have nl := hN.lt
 have j0 : (0 : Int) ≤ (q : Int) := by omega
 rw [hk] at n0
 by_cases h : q < T.size
 ·have g1 : decide ((q : Int) < (T.size : Int)) = true := by simp; omega
  have g2 : decide (q < T.size) = true := by simp; omega
  have i1 : (q : Int) < (T.size : Int) := by omega
  have HF : fitsF e N.h q c = some 1 := by rw [fitsF, if_neg (by omega), if_pos hk, ← hT, toList_len, if_pos h]
  rw [HF]
  clear HF hb hN hc hT h6 hq h hk
  simp only [fitsI]
  go_enter Try.func103, Try.ntmps103
  go_wp2_with fail
  go_ret
  exact ⟨rfl, Keep.refl _ _⟩
 ·have g1 : decide ((q : Int) < (T.size : Int)) = false := by simp; omega
  have g2 : decide (q < T.size) = false := by simp; omega
  have HF : fitsF e N.h q c = none := by rw [fitsF, if_neg (by omega), if_pos hk, ← hT, toList_len, if_neg h]
  rw [HF]
  clear HF hb hN hc hT h6 hq h hk
  simp only [fitsI]
  go_enter Try.func103, Try.ntmps103
  go_wp2_with fail
  go_ret
  exact ⟨rfl, Keep.refl _ _⟩
set_option maxRecDepth 100000 in
set_option maxHeartbeats 1000000 in
theorem fits_3 (hk : N.h.k = 3) : Calls Try.prog 103 #[.pointer (some ⟨p, 0, none⟩), .pointer (some ⟨nb, no, none⟩), .int .i64 (q : Int)] w fun x w' => x = .returned (.int .i64 (fitsI (fitsF e N.h q c))) ∧ Keep Nb w w' := by
 have c0 := hb.cell 0 (u := .string T) rfl
 have c1 := hb.cell 1 (u := .bool e.bound) rfl
 have hl := hb.lt
 have n0 := hN.c0
 have n1 := hN.c1
 have n2 := hN.c2
 have n3 := hN.c3
 have n4 := hN.c4
 have n5 := hN.c5
 have n6 := hN.c6
 have nl := hN.lt
 have j0 : (0 : Int) ≤ (q : Int) := by omega
 rw [hk] at n0
 by_cases h : q < T.size
 ·have g1 : decide ((q : Int) < (T.size : Int)) = true := by simp; omega
  have g2 : decide (q < T.size) = true := by simp; omega
  have i1 : (q : Int) < (T.size : Int) := by omega
  obtain ⟨x, hx⟩ : ∃ x, T.toList[q]? = some x := ⟨_, List.getElem?_eq_getElem (by rw [toList_len]; omega)⟩
  obtain ⟨b0, e0⟩ := byte_at hx
  have HH := Lib.hid (fun wx => has_t N.h x.toNat (UInt8.toNat_lt x) wx)
  cases hh : hasH N.h x.toNat with
  | true =>
   rw [hh] at HH
   have HF : fitsF e N.h q c = some 1 := by rw [fitsF, if_neg (by omega), if_neg (by omega), if_pos hk, ← hT, hx]; simp only []; rw [if_pos hh]
   rw [HF]
   clear HF hb hN hc hT h6 hq hx hh h hk
   simp only [fitsI]
   go_enter Try.func103, Try.ntmps103
   go_wp2_with fail
   (refine wp_region_f [14] (InX Nb _) (by kernel_rfl) (InX.mk (Keep.drew (Keep.refl _ _))) (fun hI => ?_))
   have xx : ∀ k, ¬ Nb k := fun _ h => h
   have hK0 : Keep Nb w w.drew := (Keep.refl _ _).drew
   generalize w.drew = x0 at hK0 hI ⊢
   (refine wpI_from 0 ?_; (iterate 12 ((first | (refine wpI_take (v := ?_) rfl (by kernel_rfl) (fun _ _ _ h => h) hI rfl ?_ ?_; rotate_left; (focus (rintro _ ⟨E, rfl⟩; go_simp; (try with_reducible rfl)))) | refine wpI_skip rfl (by kernel_rfl) (fun _ _ _ h => h) hI rfl ?_); simp only [Act.put, tk, Nat.reduceAdd])); refine wpI_till ?_)
   (refine wpF_one 12 rfl (by kernel_rfl) rfl (fun K hK => ?_))
   go_simp
   refine (HH.out _).mono ?_
   rintro y x1 ⟨he, hkn⟩
   subst he
   replace hK0 := Keep.trans hK0 hkn (fun _ _ h => h)
   clear hkn
   (refine hK _ _ (fun _ => InX.mk hK0) (fun hI => ?_); have hI := hI (by simp); clear hK K; try simp only [Act.put, tk])
   (refine wpF_take2 (v := ?_) 13 rfl (by kernel_rfl) (fun _ _ _ h => h) hI rfl ?_ ?_; rotate_left; (focus (rintro _ ⟨E, rfl⟩; go_simp; (try with_reducible rfl))); simp only [Act.put, tk])
   (refine wpF_one 14 rfl (by kernel_rfl) rfl (fun K hK => ?_))
   go_simp
   (refine hK _ _ (fun h => absurd (by simp) h) (fun _ => ?_); clear hK K; try simp only [Act.put, tk])
   (refine wpF_done (by kernel_rfl) ?_ _)
   go_wp2_with fail
   go_ret
   exact ⟨rfl, hK0⟩
  | false =>
   rw [hh] at HH
   have HF : fitsF e N.h q c = none := by rw [fitsF, if_neg (by omega), if_neg (by omega), if_pos hk, ← hT, hx]; simp only []; rw [if_neg (by rw [hh]; simp)]
   rw [HF]
   clear HF hb hN hc hT h6 hq hx hh h hk
   simp only [fitsI]
   go_enter Try.func103, Try.ntmps103
   go_wp2_with fail
   (refine wp_region_f [14] (InX Nb _) (by kernel_rfl) (InX.mk (Keep.drew (Keep.refl _ _))) (fun hI => ?_))
   have xx : ∀ k, ¬ Nb k := fun _ h => h
   have hK0 : Keep Nb w w.drew := (Keep.refl _ _).drew
   generalize w.drew = x0 at hK0 hI ⊢
   (refine wpI_from 0 ?_; (iterate 12 ((first | (refine wpI_take (v := ?_) rfl (by kernel_rfl) (fun _ _ _ h => h) hI rfl ?_ ?_; rotate_left; (focus (rintro _ ⟨E, rfl⟩; go_simp; (try with_reducible rfl)))) | refine wpI_skip rfl (by kernel_rfl) (fun _ _ _ h => h) hI rfl ?_); simp only [Act.put, tk, Nat.reduceAdd])); refine wpI_till ?_)
   (refine wpF_one 12 rfl (by kernel_rfl) rfl (fun K hK => ?_))
   go_simp
   refine (HH.out _).mono ?_
   rintro y x1 ⟨he, hkn⟩
   subst he
   replace hK0 := Keep.trans hK0 hkn (fun _ _ h => h)
   clear hkn
   (refine hK _ _ (fun _ => InX.mk hK0) (fun hI => ?_); have hI := hI (by simp); clear hK K; try simp only [Act.put, tk])
   (refine wpF_take2 (v := ?_) 13 rfl (by kernel_rfl) (fun _ _ _ h => h) hI rfl ?_ ?_; rotate_left; (focus (rintro _ ⟨E, rfl⟩; go_simp; (try with_reducible rfl))); simp only [Act.put, tk])
   (refine wpF_one 14 rfl (by kernel_rfl) rfl (fun K hK => ?_))
   go_simp
   (refine hK _ _ (fun h => absurd (by simp) h) (fun _ => ?_); clear hK K; try simp only [Act.put, tk])
   (refine wpF_done (by kernel_rfl) ?_ _)
   go_wp2_with fail
   go_ret
   exact ⟨rfl, hK0⟩
 ·have g1 : decide ((q : Int) < (T.size : Int)) = false := by simp; omega
  have g2 : decide (q < T.size) = false := by simp; omega
  have hx : T.toList[q]? = none := List.getElem?_eq_none (by rw [toList_len]; omega)
  have HF : fitsF e N.h q c = none := by rw [fitsF, if_neg (by omega), if_neg (by omega), if_pos hk, ← hT, hx]
  rw [HF]
  clear HF hb hN hc hT h6 hq hx h hk
  simp only [fitsI]
  go_enter Try.func103, Try.ntmps103
  go_wp2_with fail
  (refine wp_region_f [14] (InX Nb _) (by kernel_rfl) (InX.mk (Keep.drew (Keep.refl _ _))) (fun hI => ?_))
  have xx : ∀ k, ¬ Nb k := fun _ h => h
  have hK0 : Keep Nb w w.drew := (Keep.refl _ _).drew
  generalize w.drew = x0 at hK0 hI ⊢
  (refine wpI_from 0 ?_; (iterate 14 ((first | (refine wpI_take (v := ?_) rfl (by kernel_rfl) (fun _ _ _ h => h) hI rfl ?_ ?_; rotate_left; (focus (rintro _ ⟨E, rfl⟩; go_simp; (try with_reducible rfl)))) | refine wpI_skip rfl (by kernel_rfl) (fun _ _ _ h => h) hI rfl ?_); simp only [Act.put, tk, Nat.reduceAdd])); refine wpI_till ?_)
  (refine wpF_one 14 rfl (by kernel_rfl) rfl (fun K hK => ?_))
  go_simp
  (refine hK _ _ (fun h => absurd (by simp) h) (fun _ => ?_); clear hK K; try simp only [Act.put, tk])
  (refine wpF_done (by kernel_rfl) ?_ _)
  go_wp2_with fail
  go_ret
  exact ⟨rfl, hK0⟩
set_option maxRecDepth 100000 in
set_option maxHeartbeats 1000000 in
theorem fits_4 (hk : N.h.k = 4) : Calls Try.prog 103 #[.pointer (some ⟨p, 0, none⟩), .pointer (some ⟨nb, no, none⟩), .int .i64 (q : Int)] w fun x w' => x = .returned (.int .i64 (fitsI (fitsF e N.h q c))) ∧ Keep Nb w w' := by
 have c0 := hb.cell 0 (u := .string T) rfl
 have c1 := hb.cell 1 (u := .bool e.bound) rfl
 have hl := hb.lt
 have n0 := hN.c0
 have n1 := hN.c1
 have n2 := hN.c2
 have n3 := hN.c3
 have n4 := hN.c4
 have n5 := hN.c5
 have n6 := hN.c6
 have nl := hN.lt
 have j0 : (0 : Int) ≤ (q : Int) := by omega
 rw [hk] at n0
 by_cases h : q < T.size
 all_goals
  first
  | (have g1 : decide ((q : Int) < (T.size : Int)) = true := by simp; omega
     have g2 : decide (q < T.size) = true := by simp; omega)
  | (have g1 : decide ((q : Int) < (T.size : Int)) = false := by simp; omega
     have g2 : decide (q < T.size) = false := by simp; omega)
  by_cases h0 : q = 0
  ·have m0 : ((q : Int) == 0) = true := beq_int (by omega)
   cases hbd : e.bound with
   | true =>
    have HF : fitsF e N.h q c = none := by rw [fitsF, if_neg (by omega), if_neg (by omega), if_neg (by omega), if_pos hk, if_neg (by rw [hbd]; simp)]
    rw [hbd] at c1
    rw [HF]
    clear HF hb hN hc hT h6 hq h h0 hk
    simp only [fitsI]
    go_enter Try.func103, Try.ntmps103
    go_wp2_with fail
    go_ret
    exact ⟨rfl, Keep.refl _ _⟩
   | false =>
    have HF : fitsF e N.h q c = some 0 := by rw [fitsF, if_neg (by omega), if_neg (by omega), if_neg (by omega), if_pos hk, if_pos ⟨h0, hbd⟩]
    rw [hbd] at c1
    rw [HF]
    clear HF hb hN hc hT h6 hq h h0 hk
    simp only [fitsI]
    go_enter Try.func103, Try.ntmps103
    go_wp2_with fail
    go_ret
    exact ⟨rfl, Keep.refl _ _⟩
  ·have m0 : ((q : Int) == 0) = false := bne_int (by omega)
   have m1 : ¬ ((q : Int) = 0) := by omega
   have m2 : ¬ q = 0 := h0
   have HF : fitsF e N.h q c = none := by rw [fitsF, if_neg (by omega), if_neg (by omega), if_neg (by omega), if_pos hk, if_neg (fun hh => h0 hh.1)]
   rw [HF]
   clear HF hb hN hc hT h6 hq h h0 hk
   simp only [fitsI]
   go_enter Try.func103, Try.ntmps103
   go_wp2_with fail
   go_ret
   exact ⟨rfl, Keep.refl _ _⟩
set_option maxRecDepth 100000 in
set_option maxHeartbeats 1000000 in
theorem fits_5 (hk : N.h.k = 5) : Calls Try.prog 103 #[.pointer (some ⟨p, 0, none⟩), .pointer (some ⟨nb, no, none⟩), .int .i64 (q : Int)] w fun x w' => x = .returned (.int .i64 (fitsI (fitsF e N.h q c))) ∧ Keep Nb w w' := by
 have c0 := hb.cell 0 (u := .string T) rfl
 have c1 := hb.cell 1 (u := .bool e.bound) rfl
 have hl := hb.lt
 have n0 := hN.c0
 have n1 := hN.c1
 have n2 := hN.c2
 have n3 := hN.c3
 have n4 := hN.c4
 have n5 := hN.c5
 have n6 := hN.c6
 have nl := hN.lt
 have j0 : (0 : Int) ≤ (q : Int) := by omega
 rw [hk] at n0
 by_cases h : q < T.size
 ·have g1 : decide ((q : Int) < (T.size : Int)) = true := by simp; omega
  have g2 : decide (q < T.size) = true := by simp; omega
  have i1 : (q : Int) < (T.size : Int) := by omega
  have HF : fitsF e N.h q c = none := by rw [fitsF, if_neg (by omega), if_neg (by omega), if_neg (by omega), if_neg (by omega), if_pos hk, ← hT, toList_len, if_pos h]
  rw [HF]
  clear HF hb hN hc hT h6 hq h hk
  simp only [fitsI]
  go_enter Try.func103, Try.ntmps103
  go_wp2_with fail
  go_ret
  exact ⟨rfl, Keep.refl _ _⟩
 ·have g1 : decide ((q : Int) < (T.size : Int)) = false := by simp; omega
  have g2 : decide (q < T.size) = false := by simp; omega
  have HF : fitsF e N.h q c = some 0 := by rw [fitsF, if_neg (by omega), if_neg (by omega), if_neg (by omega), if_neg (by omega), if_pos hk, ← hT, toList_len, if_neg h]
  rw [HF]
  clear HF hb hN hc hT h6 hq h hk
  simp only [fitsI]
  go_enter Try.func103, Try.ntmps103
  go_wp2_with fail
  go_ret
  exact ⟨rfl, Keep.refl _ _⟩
set_option maxRecDepth 100000 in
set_option maxHeartbeats 1000000 in
theorem fits_7 (hk : N.h.k = 7) (hn : 1 ≤ N.h.n ∧ N.h.n ≤ 9) : Calls Try.prog 103 #[.pointer (some ⟨p, 0, none⟩), .pointer (some ⟨nb, no, none⟩), .int .i64 (q : Int)] w fun x w' => x = .returned (.int .i64 (fitsI (fitsF e N.h q c))) ∧ Keep Nb w w' := by
 have c0 := hb.cell 0 (u := .string T) rfl
 have c1 := hb.cell 1 (u := .bool e.bound) rfl
 have hl := hb.lt
 have n0 := hN.c0
 have n1 := hN.c1
 have n2 := hN.c2
 have n3 := hN.c3
 have n4 := hN.c4
 have n5 := hN.c5
 have n6 := hN.c6
 have nl := hN.lt
 have j0 : (0 : Int) ≤ (q : Int) := by omega
 rw [hk] at n0
 obtain ⟨m, hm⟩ : ∃ m : Nat, N.h.n = (m : Int) := ⟨N.h.n.toNat, by omega⟩
 rw [hm] at n6
 have HB := Lib.hid (fun wx (hx : FAt wx p T e s c) => back_any p T e s c m q wx hT h6 (by omega) hq hc hx)
 have HB := Lib.hid (HB.out w hb)
 have HF : fitsF e N.h q c = (match c m with
   | none => none
   | some (a, b) => if (e.L.drop q).take (b - a) = (e.L.drop a).take (b - a) then some (b - a) else none) := by rw [fitsF, if_neg (by omega), if_neg (by omega), if_neg (by omega), if_neg (by omega), if_neg (by omega), if_pos hk, hm, Int.toNat_natCast]; rfl
 have hi : fitsI (fitsF e N.h q c) = backI e m q c := by
  rw [HF, backI]
  cases c m with
  | none => rfl
  | some ab => obtain ⟨a, b⟩ := ab; simp only []; split <;> rfl
 have hr : (fitsF e N.h q c = none ∧ backI e m q c = -1) ∨ (∃ j : Nat, backI e m q c = (j : Int)) := by
  rw [HF, backI]
  cases c m with
  | none => exact .inl ⟨rfl, rfl⟩
  | some ab => obtain ⟨a, b⟩ := ab; simp only []; split; exact .inr ⟨_, rfl⟩; exact .inl ⟨rfl, rfl⟩
 rw [hi]
 generalize backI e m q c = v at HB hr ⊢
 by_cases h : q < T.size
 all_goals
  first
  | (have g1 : decide ((q : Int) < (T.size : Int)) = true := by simp; omega
     have g2 : decide (q < T.size) = true := by simp; omega)
  | (have g1 : decide ((q : Int) < (T.size : Int)) = false := by simp; omega
     have g2 : decide (q < T.size) = false := by simp; omega)
  rcases hr with ⟨_, rfl⟩ | ⟨j, rfl⟩
  ·clear HF hi hb hN hc hT h6 hq h hk hn hm
   go_enter Try.func103, Try.ntmps103
   go_wp2_with fail
   refine HB.out.mono ?_
   rintro y w2 ⟨rfl, hk2⟩
   go_wp2_with fail
   go_ret
   exact ⟨rfl, hk2⟩
  ·have z1 : (0 : Int) ≤ (j : Int) := by omega
   have z2 : decide ((0 : Int) ≤ (j : Int)) = true := by simp
   clear HF hi hb hN hc hT h6 hq h hk hn hm
   go_enter Try.func103, Try.ntmps103
   go_wp2_with fail
   refine HB.out.mono ?_
   rintro y w2 ⟨rfl, hk2⟩
   go_wp2_with fail
   go_ret
   exact ⟨rfl, hk2⟩
set_option maxRecDepth 100000 in
set_option maxHeartbeats 1000000 in
theorem fits_0 (hk : ¬ N.h.k = 1 ∧ ¬ N.h.k = 2 ∧ ¬ N.h.k = 3 ∧ ¬ N.h.k = 4 ∧ ¬ N.h.k = 5 ∧ ¬ N.h.k = 7) : Calls Try.prog 103 #[.pointer (some ⟨p, 0, none⟩), .pointer (some ⟨nb, no, none⟩), .int .i64 (q : Int)] w fun x w' => x = .returned (.int .i64 (fitsI (fitsF e N.h q c))) ∧ Keep Nb w w' := by
 have c0 := hb.cell 0 (u := .string T) rfl
 have c1 := hb.cell 1 (u := .bool e.bound) rfl
 have hl := hb.lt
 have n0 := hN.c0
 have n1 := hN.c1
 have n2 := hN.c2
 have n3 := hN.c3
 have n4 := hN.c4
 have n5 := hN.c5
 have n6 := hN.c6
 have nl := hN.lt
 have j0 : (0 : Int) ≤ (q : Int) := by omega
 by_cases h : q < T.size
 all_goals
  first
  | (have g1 : decide ((q : Int) < (T.size : Int)) = true := by simp; omega
     have g2 : decide (q < T.size) = true := by simp; omega)
  | (have g1 : decide ((q : Int) < (T.size : Int)) = false := by simp; omega
     have g2 : decide (q < T.size) = false := by simp; omega)
  have HF : fitsF e N.h q c = none := by rw [fitsF, if_neg hk.1, if_neg hk.2.1, if_neg hk.2.2.1, if_neg hk.2.2.2.1, if_neg hk.2.2.2.2.1, if_neg hk.2.2.2.2.2]
  have z1 := bne_int hk.1
  have z2 := bne_int hk.2.1
  have z3 := bne_int hk.2.2.1
  have z4 := bne_int hk.2.2.2.1
  have z5 := bne_int hk.2.2.2.2.1
  have z7 := bne_int hk.2.2.2.2.2
  rw [HF]
  clear HF hb hN hc hT h6 hq h hk
  simp only [fitsI]
  go_enter Try.func103, Try.ntmps103
  go_wp2_with fail
  go_ret
  exact ⟨rfl, Keep.refl _ _⟩
theorem fits_any (hok : okH N.h N.l.length) : Calls Try.prog 103 #[.pointer (some ⟨p, 0, none⟩), .pointer (some ⟨nb, no, none⟩), .int .i64 (q : Int)] w fun x w' => x = .returned (.int .i64 (fitsI (fitsF e N.h q c))) ∧ Keep Nb w w' := by
 by_cases k1 : N.h.k = 1
 ·exact fits_1 p T e s c N S nb no q w hT h6 hq hc hb hN k1
 by_cases k2 : N.h.k = 2
 ·exact fits_2 p T e s c N S nb no q w hT h6 hq hc hb hN k2
 by_cases k3 : N.h.k = 3
 ·exact fits_3 p T e s c N S nb no q w hT h6 hq hc hb hN k3
 by_cases k4 : N.h.k = 4
 ·exact fits_4 p T e s c N S nb no q w hT h6 hq hc hb hN k4
 by_cases k5 : N.h.k = 5
 ·exact fits_5 p T e s c N S nb no q w hT h6 hq hc hb hN k5
 by_cases k7 : N.h.k = 7
 ·exact fits_7 p T e s c N S nb no q w hT h6 hq hc hb hN k7 (hok.2.2.2.1 k7)
 exact fits_0 p T e s c N S nb no q w hT h6 hq hc hb hN ⟨k1, k2, k3, k4, k5, k7⟩
end
theorem fitsF_le {e : Env} {h : Hd} {q j : Nat} {c : Caps} (hf : fitsF e h q c = some j) (hq : q ≤ e.L.length) (hc : CapsOk e.L.length c) : q + j ≤ e.L.length := by
 unfold fitsF at hf
 split at hf
 ·split at hf
  ·rename_i x hx
   have := (List.getElem?_eq_some_iff.1 hx).1
   split at hf
   ·cases hf; omega
   ·cases hf
  ·cases hf
 split at hf
 ·split at hf
  ·cases hf; omega
  ·cases hf
 split at hf
 ·split at hf
  ·rename_i x hx
   have := (List.getElem?_eq_some_iff.1 hx).1
   split at hf
   ·cases hf; omega
   ·cases hf
  ·cases hf
 split at hf
 ·split at hf
  ·cases hf; omega
  ·cases hf
 split at hf
 ·split at hf
  ·cases hf
  ·cases hf; omega
 split at hf
 ·split at hf
  ·cases hf
  ·rename_i a b hab
   split at hf
   ·rename_i ht
    cases hf
    have h1 := hc _ _ _ hab
    have h2 := congrArg List.length ht
    rw [List.length_take, List.length_take, List.length_drop, List.length_drop] at h2
    omega
   ·cases hf
 ·cases hf
def TkOk (q tries : Nat) : Tk → Prop
 | .node n => okT n
 | .grp n a => okT n ∧ n.h.k = 6 ∧ a ≤ q
 | .again n _ t => okT n ∧ n.h.k = 10 ∧ t ≤ tries
def TksOk (q tries : Nat) (ts : List Tk) : Prop := ∀ t ∈ ts, TkOk q tries t
theorem TkOk.mono {q q' t t' : Nat} (hq : q ≤ q') (ht : t ≤ t') : ∀ {u : Tk}, TkOk q t u → TkOk q' t' u
 | .node _, h => h
 | .grp _ _, h => ⟨h.1, h.2.1, Nat.le_trans h.2.2 hq⟩
 | .again _ _ _, h => ⟨h.1, h.2.1, Nat.le_trans h.2.2 ht⟩
theorem TksOk.mono {q q' t t' : Nat} (hq : q ≤ q') (ht : t ≤ t') {ts : List Tk} (h : TksOk q t ts) : TksOk q' t' ts := fun u hu => (h u hu).mono hq ht
theorem TksOk.cons {q t : Nat} {u : Tk} {ts : List Tk} (h : TkOk q t u) (hs : TksOk q t ts) : TksOk q t (u :: ts) := fun x hx => by
 rcases List.mem_cons.1 hx with rfl | hx
 ·exact h
 ·exact hs x hx
theorem TksOk.head {q t : Nat} {u : Tk} {ts : List Tk} (h : TksOk q t (u :: ts)) : TkOk q t u := h u (List.mem_cons_self ..)
theorem TksOk.tail {q t : Nat} {u : Tk} {ts : List Tk} (h : TksOk q t (u :: ts)) : TksOk q t ts := fun x hx => h x (List.mem_cons_of_mem _ hx)
theorem TksOk.nodes {q t : Nat} {l : List Nd} {ts : List Tk} (hl : okL l) (h : TksOk q t ts) : TksOk q t (l.map .node ++ ts) := fun u hu => by
 rcases List.mem_append.1 hu with hu | hu
 ·obtain ⟨x, hx, rfl⟩ := List.mem_map.1 hu
  exact okL_mem hl x hx
 ·exact h u hu
theorem CapsOk.put {n : Nat} {c : Caps} (h : CapsOk n c) {i a b : Nat} (hab : a ≤ b) (hb : b ≤ n) : CapsOk n (put c i a b) := fun j x y hj => by
 unfold Go.Proofs.Ytkidjbfapldmbaa.put at hj
 split at hj
 ·cases hj; exact ⟨hab, hb⟩
 ·exact h j x y hj
theorem StOk.tries_up {e : Env} {s : St} (h : StOk e s) (hne : s.tries ≠ 3000) : StOk e { s with tries := s.tries + 1 } := ⟨by have := h.tries; simp only []; omega, h.best⟩
theorem StOk.over {e : Env} {s : St} (h : StOk e s) : StOk e { s with over := true } := ⟨h.tries, h.best⟩
theorem StOk.come {e : Env} {s : St} (h : StOk e s) {q : Nat} (hq : q ≤ e.L.length) (c : Caps) : StOk e (comeF e q c s) := by
 unfold comeF
 split
 ·split
  ·exact h
  ·exact ⟨h.tries, fun r d hd => by cases hd; exact ⟨hq, by simp [put]⟩⟩
 ·exact ⟨h.tries, fun r d hd => by cases hd; exact ⟨hq, by simp [put]⟩⟩
theorem come_tries (e : Env) (q : Nat) (c : Caps) (s : St) : (comeF e q c s).tries = s.tries := by
 unfold comeF
 split
 ·split <;> rfl
 ·rfl
theorem tryS_ok {e : Env} {s : St} (h : StOk e s) : StOk e (tryS s).1 ∧ s.tries ≤ (tryS s).1.tries := by
 rcases tryS_cases s with ⟨_, h2⟩ | ⟨h1, h2⟩
 ·rw [h2]; exact ⟨h.over, Nat.le_refl _⟩
 ·rw [h2]; exact ⟨h.tries_up h1, by simp only []; omega⟩
theorem inv_all (e : Env) : ∀ (k : Nat),
  (∀ ts q c s s', thr k e ts q c s = some s' → StOk e s → TksOk q s.tries ts → q ≤ e.L.length → CapsOk e.L.length c → StOk e s' ∧ s.tries ≤ s'.tries) ∧
  (∀ n t r q c s s', rep k e n t r q c s = some s' → StOk e s → okT n → n.h.k = 10 → t ≤ s.tries → TksOk q s.tries r → q ≤ e.L.length → CapsOk e.L.length c → StOk e s' ∧ s.tries ≤ s'.tries) ∧
  (∀ l r q c s s', alts k e l r q c s = some s' → StOk e s → okL l → TksOk q s.tries r → q ≤ e.L.length → CapsOk e.L.length c → StOk e s' ∧ s.tries ≤ s'.tries)
 | 0 => ⟨fun _ _ _ _ _ h => by (rw [thr.eq_def] at h; cases h), fun _ _ _ _ _ _ _ h => by (rw [rep.eq_def] at h; cases h), fun _ _ _ _ _ _ h => by (rw [alts.eq_def] at h; cases h)⟩
 | k + 1 => by
  obtain ⟨h1, h2, h3⟩ := inv_all e k
  refine ⟨fun ts q c s s' h hs ht hq hc => ?_, fun n t r q c s s' h hs hn hk hts hr hq hc => ?_, fun l r q c s s' h hs hl hr hq hc => ?_⟩
  ·by_cases ho : s.over = true
   ·rw [thr_over _ _ _ _ _ ho] at h; cases h; exact ⟨hs, Nat.le_refl _⟩
   match ts, h, ht with
   | [], h, _ => rw [thr_nil _ _ _ _ ho] at h; cases h; exact ⟨hs.come hq c, by rw [come_tries]; exact Nat.le_refl _⟩
   | .grp n a :: r, h, ht =>
    rw [thr_grp _ _ _ _ _ _ _ ho] at h
    exact h1 _ _ _ _ _ h hs ht.tail hq (hc.put ht.head.2.2 hq)
   | .again n a t :: r, h, ht =>
    rw [thr_again _ _ _ _ _ _ _ _ ho] at h
    split at h
    ·exact h2 _ _ _ _ _ _ _ h hs ht.head.1 ht.head.2.1 ht.head.2.2 ht.tail hq hc
    ·cases h; exact ⟨hs, Nat.le_refl _⟩
   | .node n :: r, h, ht =>
    have hn : okT n := ht.head
    rcases kind_cases n.h.k with hk | hk | hk | hk | hk
    ·rw [thr_8 _ _ _ _ _ _ ho hk] at h
     exact h1 _ _ _ _ _ h hs (ht.tail.nodes (okT_kids hn)) hq hc
    ·rw [thr_9 _ _ _ _ _ _ ho hk] at h
     exact h3 _ _ _ _ _ _ h hs (okT_kids hn) ht.tail hq hc
    ·obtain ⟨x, hx, hox⟩ := kid_of hn (.inl hk)
     rw [thr_6 _ _ _ _ _ _ x ho hk hx] at h
     exact h1 _ _ _ _ _ h hs (TksOk.cons (show TkOk q s.tries (.node x) from hox) (TksOk.cons (show TkOk q s.tries (.grp n q) from ⟨hn, hk, Nat.le_refl _⟩) ht.tail)) hq hc
    ·rw [thr_10 _ _ _ _ _ _ ho hk] at h
     exact h2 _ _ _ _ _ _ _ h hs hn hk (Nat.zero_le _) ht.tail hq hc
    ·rw [thr_leaf _ _ _ _ _ _ ho hk] at h
     unfold leafF at h
     have hx := tryS_ok hs
     split at h
     ·rename_i s1 e1; rw [e1] at hx; cases h; exact hx
     ·rename_i s1 e1
      rw [e1] at hx
      simp only [] at hx
      split at h
      ·cases h; exact hx
      ·rename_i j hj
       have hle := fitsF_le hj hq hc
       have := h1 _ _ _ _ _ h hx.1 (ht.tail.mono (Nat.le_add_right _ _) hx.2) hle hc
       exact ⟨this.1, Nat.le_trans hx.2 this.2⟩
  ·by_cases ho : s.over = true
   ·rw [rep_over _ _ _ _ _ _ _ ho] at h; cases h; exact ⟨hs, Nat.le_refl _⟩
   rw [rep_go _ _ _ _ _ _ _ ho] at h
   have hx := tryS_ok hs
   rcases tryS_cases s with ⟨_, e1⟩ | ⟨hne, e1⟩
   ·rw [e1] at h hx; cases h; exact hx
   ·rw [e1] at h hx
    simp only [] at h hx
    obtain ⟨x, hxl, hox⟩ := kid_of hn (.inr hk)
    simp only [repF, hxl] at h
    rw [Option.bind_eq_some_iff] at h
    obtain ⟨s2, g1, g2⟩ := h
    have hr1 : TksOk q (s.tries + 1) r := hr.mono (Nat.le_refl _) (by omega)
    have i1 : StOk e s2 ∧ s.tries + 1 ≤ s2.tries := by
     split at g1
     ·exact h1 _ _ _ _ _ g1 hx.1 (TksOk.cons (show TkOk q (s.tries + 1) (.node x) from hox) (TksOk.cons (show TkOk q (s.tries + 1) (.again n q (t + 1)) from ⟨hn, hk, by omega⟩) hr1)) hq hc
     ·cases g1; exact ⟨hx.1, Nat.le_refl _⟩
    split at g2
    ·have := h1 _ _ _ _ _ g2 i1.1 (hr1.mono (Nat.le_refl _) i1.2) hq hc
     exact ⟨this.1, by omega⟩
    ·cases g2; exact ⟨i1.1, by omega⟩
  ·match l, h, hl with
   | [], h, _ => rw [alts_nil] at h; cases h; exact ⟨hs, Nat.le_refl _⟩
   | y :: l', h, hl =>
    by_cases ho : s.over = true
    ·rw [alts_over _ _ _ _ _ _ _ ho] at h; cases h; exact ⟨hs, Nat.le_refl _⟩
    rw [alts_go _ _ _ _ _ _ _ ho] at h
    have hx := tryS_ok hs
    rw [okL] at hl
    rcases tryS_cases s with ⟨_, e1⟩ | ⟨hne, e1⟩
    ·rw [e1] at h hx; cases h; exact hx
    ·rw [e1] at h hx
     simp only [] at h hx
     rw [Option.bind_eq_some_iff] at h
     obtain ⟨s2, g1, g2⟩ := h
     have hr1 : TksOk q (s.tries + 1) r := hr.mono (Nat.le_refl _) (by omega)
     have i1 := h1 _ _ _ _ _ g1 hx.1 (TksOk.cons (show TkOk q (s.tries + 1) (.node y) from hl.1) hr1) hq hc
     simp only [] at i1
     have i2 := h3 _ _ _ _ _ _ g2 i1.1 hl.2 (hr1.mono (Nat.le_refl _) i1.2) hq hc
     exact ⟨i2.1, by omega⟩
def Tk.nd : Tk → Nd
 | .node n => n
 | .grp n _ => n
 | .again n _ _ => n
def tRow (t : Tk) (nd nx : Value) : Array Value := match t with
 | .node _ => #[nd, .int .i64 0, .int .i64 0, .int .i64 0, nx]
 | .grp _ a => #[nd, .int .i64 1, .int .i64 (a : Int), .int .i64 0, nx]
 | .again _ a k => #[nd, .int .i64 2, .int .i64 (a : Int), .int .i64 (k : Int), nx]
def NodeAt (Ok : Nat → Prop) (w : World) (n : Nd) (nd : Value) : Prop := ∃ b o S, nd = .pointer (some ⟨b, o, none⟩) ∧ Ok b ∧ Ten w b o n S ∧ LiesP Ok w n S
def TasksAt (Ok : Nat → Prop) (w : World) : List Tk → Value → Prop
 | [], v => v = .pointer none
 | t :: r, v => ∃ b nd nx, v = .pointer (some ⟨b, 0, none⟩) ∧ Ok b ∧ Blk w b (tRow t nd nx) 108 ∧ NodeAt Ok w t.nd nd ∧ TasksAt Ok w r nx
def Off (p : Nat) : Nat → Prop := fun b => b ≠ p
theorem NodeAt.keep {p : Nat} {w w' : World} {n : Nd} {nd : Value} (h : NodeAt (Off p) w n nd) (hk : Keep (Ob p) w w') : NodeAt (Off p) w' n nd := by
 obtain ⟨b, o, S, rfl, hb, ht, hl⟩ := h
 exact ⟨b, o, S, rfl, hb, ht.keepX hk hb, LiesP_keep hk (fun _ hb hx => hb hx) hl⟩
theorem TasksAt.keep {p : Nat} {w w' : World} (hk : Keep (Ob p) w w') : ∀ {ts : List Tk} {v : Value}, TasksAt (Off p) w ts v → TasksAt (Off p) w' ts v
 | [], _, h => h
 | t :: r, v, ⟨b, nd, nx, hv, hb, hB, hn, hr⟩ => ⟨b, nd, nx, hv, hb, hB.keep hk hb, hn.keep hk, TasksAt.keep hk hr⟩
theorem TasksAt.ptr {Ok : Nat → Prop} {w : World} {ts : List Tk} {v : Value} (h : TasksAt Ok w ts v) : ∃ o, v = .pointer o := by
 cases ts with
 | nil => exact ⟨none, h⟩
 | cons t r => obtain ⟨b, _, _, hv, _⟩ := h; exact ⟨_, hv⟩
theorem TasksAt.push {p : Nat} {w : World} {t : Tk} {r : List Tk} {nd nx : Value} (hp : p < w.heap.size) (hn : NodeAt (Off p) w t.nd nd) (hr : TasksAt (Off p) w r nx) :
  TasksAt (Off p) (w.alloc (.cells (tRow t nd nx) 108)) (t :: r) (.pointer (some ⟨w.heap.size, 0, none⟩)) := by
 have hk : Keep (Ob p) w (w.alloc (.cells (tRow t nd nx) 108)) := Keep.alloc (Keep.refl _ _) _
 exact ⟨w.heap.size, nd, nx, rfl, by unfold Off; omega, Blk.new w _ _, hn.keep hk, hr.keep hk⟩
theorem NodeAt.len {Ok : Nat → Prop} {w : World} {n : Nd} {nd : Value} (h : NodeAt Ok w n nd) : n.l.length ≤ 9223372036854775807 := by
 obtain ⟨b, o, S, _, _, _, hl⟩ := h
 rw [LiesP_def] at hl
 obtain ⟨A, cap, _, h1, h2, _⟩ := hl
 unfold maxLen at h2
 omega
theorem NodeAt.kids {p : Nat} {w : World} {n : Nd} {nd : Value} (h : NodeAt (Off p) w n nd) : ∃ b o A cap, nd = .pointer (some ⟨b, o, none⟩) ∧ b ≠ p ∧ Ten w b o n (.slice A n.l.length cap) ∧
  ∀ j, (hj : j < n.l.length) → ∃ b2 o2, A = some ⟨b2, o2, none⟩ ∧ NodeAt (Off p) w n.l[j] (.pointer (some ⟨b2, o2 + j * 10, none⟩)) := by
 obtain ⟨b, o, S, rfl, hb, ht, hl⟩ := h
 have hl2 := hl
 rw [LiesP_def] at hl2
 obtain ⟨A, cap, rfl, _, _, hL⟩ := hl2
 refine ⟨b, o, A, cap, rfl, hb, ht, fun j hj => ?_⟩
 obtain ⟨b2, o2, A2, c2, hA, hb2, ht2, hl2⟩ := LiesPL.atP hL j hj
 exact ⟨b2, o2, hA, b2, o2 + j * 10, _, rfl, hb2, ht2, hl2⟩
end Go.Proofs.Ytkidjbfapldmbaa
