/- What a simple node finds: fits of the program. -/
import Derived.Test.YtkidjbfapldmbaaMb
namespace Go.Proofs.Ytkidjbfapldmbaa
set_option linter.unusedVariables false
set_option linter.unusedSimpArgs false
open Go.RowKit P8
set_option linter.unusedSectionVars false

def fitsI : Option Nat → Int
  | none => -1
  | some j => (j : Int)
theorem beq_int {a b : Int} (h : a = b) : (a == b) = true := by rw [h]; exact beq_self_eq_true b
theorem bne_int {a b : Int} (h : ¬ a = b) : (a == b) = false := beq_eq_false_iff_ne.2 h

section
variable (p : Nat) (T : ByteArray) (e : Env) (s : St) (c : Caps) (N : Nd) (S : Value) (nb no q : Nat) (w : World) (hT : T.toList = e.L) (h6 : T.size ≤ 600) (hq : q ≤ T.size) (hc : CapsOk T.size c) (hb : FAt w p T e s c) (hN : Ten w nb no N S)
include hT h6 hq hc hb hN

set_option maxRecDepth 100000 in
set_option maxHeartbeats 1000000 in
theorem fits_1 (hk : N.h.k = 1) : Calls Try.prog 103 #[.pointer (some ⟨p, 0, none⟩), .pointer (some ⟨nb, no, none⟩), .int .i64 (q : Int)] w fun x w' => x = .returned (.int .i64 (fitsI (fitsF e N.h q c))) ∧ Keep Nb w w' := by
  have c0 := hb.cell 0 (u := .string T) rfl
  have c1 := hb.cell 1 (u := .bool e.bound) rfl
  have hl := hb.lt
  have n0 := hN.c0
  have n1 := hN.c1
  have n2 := hN.c2
  have n3 := hN.c3
  have n4 := hN.c4
  have n5 := hN.c5
  have n6 := hN.c6
  have nl := hN.lt
  have j0 : (0 : Int) ≤ (q : Int) := by omega
  rw [hk] at n0
  by_cases h : q < T.size
  · have g1 : decide ((q : Int) < (T.size : Int)) = true := by simp; omega
    have g2 : decide (q < T.size) = true := by simp; omega
    have i1 : (q : Int) < (T.size : Int) := by omega
    obtain ⟨x, hx⟩ : ∃ x, T.toList[q]? = some x := ⟨_, List.getElem?_eq_getElem (by rw [toList_len]; omega)⟩
    obtain ⟨b0, e0⟩ := byte_at hx
    by_cases hcx : (x.toNat : Int) = N.h.c
    · have m1 := beq_int hcx
      have HF : fitsF e N.h q c = some 1 := by rw [fitsF, if_pos hk, ← hT, hx]; simp only []; rw [if_pos hcx]
      rw [HF]
      clear HF hb hN hc hT h6 hq hx hcx h hk
      simp only [fitsI]
      go_enter Try.func103, Try.ntmps103
      go_wp2_with fail
      (refine wp_region_f [14] (InX Nb _) (by kernel_rfl) (InX.mk (Keep.drew (Keep.refl _ _))) (fun hI => ?_))
      have xx : ∀ k, ¬ Nb k := fun _ h => h
      have hK0 : Keep Nb w w.drew := (Keep.refl _ _).drew
      generalize w.drew = x0 at hK0 hI ⊢
      (refine wpF_take (v := ?_) 0 rfl (by kernel_rfl) (by kernel_rfl) (by kernel_rfl) (by kernel_rfl) (fun _ _ _ h => h) (by assumption) rfl ?_ ?_; rotate_left; (focus (rintro _ ⟨E, rfl⟩; go_simp; (try with_reducible rfl))); simp only [Act.put, List.getElem_toArray, List.getElem_cons_succ, List.getElem_cons_zero, List.setIfInBounds_toArray, List.set_cons_zero, List.set_cons_succ])
      (refine wpF_take (v := ?_) 1 rfl (by kernel_rfl) (by kernel_rfl) (by kernel_rfl) (by kernel_rfl) (fun _ _ _ h => h) (by assumption) rfl ?_ ?_; rotate_left; (focus (rintro _ ⟨E, rfl⟩; go_simp; (try with_reducible rfl))); simp only [Act.put, List.getElem_toArray, List.getElem_cons_succ, List.getElem_cons_zero, List.setIfInBounds_toArray, List.set_cons_zero, List.set_cons_succ])
      (refine wpF_take (v := ?_) 2 rfl (by kernel_rfl) (by kernel_rfl) (by kernel_rfl) (by kernel_rfl) (fun _ _ _ h => h) (by assumption) rfl ?_ ?_; rotate_left; (focus (rintro _ ⟨E, rfl⟩; go_simp; (try with_reducible rfl))); simp only [Act.put, List.getElem_toArray, List.getElem_cons_succ, List.getElem_cons_zero, List.setIfInBounds_toArray, List.set_cons_zero, List.set_cons_succ])
      (refine wpF_take (v := ?_) 3 rfl (by kernel_rfl) (by kernel_rfl) (by kernel_rfl) (by kernel_rfl) (fun _ _ _ h => h) (by assumption) rfl ?_ ?_; rotate_left; (focus (rintro _ ⟨E, rfl⟩; go_simp; (try with_reducible rfl))); simp only [Act.put, List.getElem_toArray, List.getElem_cons_succ, List.getElem_cons_zero, List.setIfInBounds_toArray, List.set_cons_zero, List.set_cons_succ])
      (refine wpF_take (v := ?_) 4 rfl (by kernel_rfl) (by kernel_rfl) (by kernel_rfl) (by kernel_rfl) (fun _ _ _ h => h) (by assumption) rfl ?_ ?_; rotate_left; (focus (rintro _ ⟨E, rfl⟩; go_simp; (try with_reducible rfl))); simp only [Act.put, List.getElem_toArray, List.getElem_cons_succ, List.getElem_cons_zero, List.setIfInBounds_toArray, List.set_cons_zero, List.set_cons_succ])
      (refine wpF_take (v := ?_) 5 rfl (by kernel_rfl) (by kernel_rfl) (by kernel_rfl) (by kernel_rfl) (fun _ _ _ h => h) (by assumption) rfl ?_ ?_; rotate_left; (focus (rintro _ ⟨E, rfl⟩; go_simp; (try with_reducible rfl))); simp only [Act.put, List.getElem_toArray, List.getElem_cons_succ, List.getElem_cons_zero, List.setIfInBounds_toArray, List.set_cons_zero, List.set_cons_succ])
      (refine wpF_take (v := ?_) 6 rfl (by kernel_rfl) (by kernel_rfl) (by kernel_rfl) (by kernel_rfl) (fun _ _ _ h => h) (by assumption) rfl ?_ ?_; rotate_left; (focus (rintro _ ⟨E, rfl⟩; go_simp; (try with_reducible rfl))); simp only [Act.put, List.getElem_toArray, List.getElem_cons_succ, List.getElem_cons_zero, List.setIfInBounds_toArray, List.set_cons_zero, List.set_cons_succ])
      (refine wpF_take (v := ?_) 7 rfl (by kernel_rfl) (by kernel_rfl) (by kernel_rfl) (by kernel_rfl) (fun _ _ _ h => h) (by assumption) rfl ?_ ?_; rotate_left; (focus (rintro _ ⟨E, rfl⟩; go_simp; (try with_reducible rfl))); simp only [Act.put, List.getElem_toArray, List.getElem_cons_succ, List.getElem_cons_zero, List.setIfInBounds_toArray, List.set_cons_zero, List.set_cons_succ])
      (refine wpF_take (v := ?_) 8 rfl (by kernel_rfl) (by kernel_rfl) (by kernel_rfl) (by kernel_rfl) (fun _ _ _ h => h) (by assumption) rfl ?_ ?_; rotate_left; (focus (rintro _ ⟨E, rfl⟩; go_simp; (try with_reducible rfl))); simp only [Act.put, List.getElem_toArray, List.getElem_cons_succ, List.getElem_cons_zero, List.setIfInBounds_toArray, List.set_cons_zero, List.set_cons_succ])
      (refine wpF_take (v := ?_) 9 rfl (by kernel_rfl) (by kernel_rfl) (by kernel_rfl) (by kernel_rfl) (fun _ _ _ h => h) (by assumption) rfl ?_ ?_; rotate_left; (focus (rintro _ ⟨E, rfl⟩; go_simp; (try with_reducible rfl))); simp only [Act.put, List.getElem_toArray, List.getElem_cons_succ, List.getElem_cons_zero, List.setIfInBounds_toArray, List.set_cons_zero, List.set_cons_succ])
      (refine wpF_take (v := ?_) 10 rfl (by kernel_rfl) (by kernel_rfl) (by kernel_rfl) (by kernel_rfl) (fun _ _ _ h => h) (by assumption) rfl ?_ ?_; rotate_left; (focus (rintro _ ⟨E, rfl⟩; go_simp; (try with_reducible rfl))); simp only [Act.put, List.getElem_toArray, List.getElem_cons_succ, List.getElem_cons_zero, List.setIfInBounds_toArray, List.set_cons_zero, List.set_cons_succ])
      (refine wpF_take (v := ?_) 11 rfl (by kernel_rfl) (by kernel_rfl) (by kernel_rfl) (by kernel_rfl) (fun _ _ _ h => h) (by assumption) rfl ?_ ?_; rotate_left; (focus (rintro _ ⟨E, rfl⟩; go_simp; (try with_reducible rfl))); simp only [Act.put, List.getElem_toArray, List.getElem_cons_succ, List.getElem_cons_zero, List.setIfInBounds_toArray, List.set_cons_zero, List.set_cons_succ])
      (refine wpF_take (v := ?_) 12 rfl (by kernel_rfl) (by kernel_rfl) (by kernel_rfl) (by kernel_rfl) (fun _ _ _ h => h) (by assumption) rfl ?_ ?_; rotate_left; (focus (rintro _ ⟨E, rfl⟩; go_simp; (try with_reducible rfl))); simp only [Act.put, List.getElem_toArray, List.getElem_cons_succ, List.getElem_cons_zero, List.setIfInBounds_toArray, List.set_cons_zero, List.set_cons_succ])
      (refine wpF_take (v := ?_) 13 rfl (by kernel_rfl) (by kernel_rfl) (by kernel_rfl) (by kernel_rfl) (fun _ _ _ h => h) (by assumption) rfl ?_ ?_; rotate_left; (focus (rintro _ ⟨E, rfl⟩; go_simp; (try with_reducible rfl))); simp only [Act.put, List.getElem_toArray, List.getElem_cons_succ, List.getElem_cons_zero, List.setIfInBounds_toArray, List.set_cons_zero, List.set_cons_succ])
      (refine wpF_one 14 rfl (by kernel_rfl) rfl (fun K hK => ?_))
      go_simp
      (refine hK _ _ (fun h => absurd (by simp) h) (fun _ => ?_); clear hK K; try simp only [Act.put, List.getElem_toArray, List.getElem_cons_succ, List.getElem_cons_zero, List.setIfInBounds_toArray, List.set_cons_zero, List.set_cons_succ])
      (refine wpF_done (by kernel_rfl) ?_ _)
      go_wp2_with fail
      go_ret
      exact ⟨rfl, hK0⟩
    · have m1 := bne_int hcx
      have HF : fitsF e N.h q c = none := by rw [fitsF, if_pos hk, ← hT, hx]; simp only []; rw [if_neg hcx]
      rw [HF]
      clear HF hb hN hc hT h6 hq hx hcx h hk
      simp only [fitsI]
      go_enter Try.func103, Try.ntmps103
      go_wp2_with fail
      (refine wp_region_f [14] (InX Nb _) (by kernel_rfl) (InX.mk (Keep.drew (Keep.refl _ _))) (fun hI => ?_))
      have xx : ∀ k, ¬ Nb k := fun _ h => h
      have hK0 : Keep Nb w w.drew := (Keep.refl _ _).drew
      generalize w.drew = x0 at hK0 hI ⊢
      (refine wpF_take (v := ?_) 0 rfl (by kernel_rfl) (by kernel_rfl) (by kernel_rfl) (by kernel_rfl) (fun _ _ _ h => h) (by assumption) rfl ?_ ?_; rotate_left; (focus (rintro _ ⟨E, rfl⟩; go_simp; (try with_reducible rfl))); simp only [Act.put, List.getElem_toArray, List.getElem_cons_succ, List.getElem_cons_zero, List.setIfInBounds_toArray, List.set_cons_zero, List.set_cons_succ])
      (refine wpF_take (v := ?_) 1 rfl (by kernel_rfl) (by kernel_rfl) (by kernel_rfl) (by kernel_rfl) (fun _ _ _ h => h) (by assumption) rfl ?_ ?_; rotate_left; (focus (rintro _ ⟨E, rfl⟩; go_simp; (try with_reducible rfl))); simp only [Act.put, List.getElem_toArray, List.getElem_cons_succ, List.getElem_cons_zero, List.setIfInBounds_toArray, List.set_cons_zero, List.set_cons_succ])
      (refine wpF_take (v := ?_) 2 rfl (by kernel_rfl) (by kernel_rfl) (by kernel_rfl) (by kernel_rfl) (fun _ _ _ h => h) (by assumption) rfl ?_ ?_; rotate_left; (focus (rintro _ ⟨E, rfl⟩; go_simp; (try with_reducible rfl))); simp only [Act.put, List.getElem_toArray, List.getElem_cons_succ, List.getElem_cons_zero, List.setIfInBounds_toArray, List.set_cons_zero, List.set_cons_succ])
      (refine wpF_take (v := ?_) 3 rfl (by kernel_rfl) (by kernel_rfl) (by kernel_rfl) (by kernel_rfl) (fun _ _ _ h => h) (by assumption) rfl ?_ ?_; rotate_left; (focus (rintro _ ⟨E, rfl⟩; go_simp; (try with_reducible rfl))); simp only [Act.put, List.getElem_toArray, List.getElem_cons_succ, List.getElem_cons_zero, List.setIfInBounds_toArray, List.set_cons_zero, List.set_cons_succ])
      (refine wpF_take (v := ?_) 4 rfl (by kernel_rfl) (by kernel_rfl) (by kernel_rfl) (by kernel_rfl) (fun _ _ _ h => h) (by assumption) rfl ?_ ?_; rotate_left; (focus (rintro _ ⟨E, rfl⟩; go_simp; (try with_reducible rfl))); simp only [Act.put, List.getElem_toArray, List.getElem_cons_succ, List.getElem_cons_zero, List.setIfInBounds_toArray, List.set_cons_zero, List.set_cons_succ])
      (refine wpF_take (v := ?_) 5 rfl (by kernel_rfl) (by kernel_rfl) (by kernel_rfl) (by kernel_rfl) (fun _ _ _ h => h) (by assumption) rfl ?_ ?_; rotate_left; (focus (rintro _ ⟨E, rfl⟩; go_simp; (try with_reducible rfl))); simp only [Act.put, List.getElem_toArray, List.getElem_cons_succ, List.getElem_cons_zero, List.setIfInBounds_toArray, List.set_cons_zero, List.set_cons_succ])
      (refine wpF_take (v := ?_) 6 rfl (by kernel_rfl) (by kernel_rfl) (by kernel_rfl) (by kernel_rfl) (fun _ _ _ h => h) (by assumption) rfl ?_ ?_; rotate_left; (focus (rintro _ ⟨E, rfl⟩; go_simp; (try with_reducible rfl))); simp only [Act.put, List.getElem_toArray, List.getElem_cons_succ, List.getElem_cons_zero, List.setIfInBounds_toArray, List.set_cons_zero, List.set_cons_succ])
      (refine wpF_take (v := ?_) 7 rfl (by kernel_rfl) (by kernel_rfl) (by kernel_rfl) (by kernel_rfl) (fun _ _ _ h => h) (by assumption) rfl ?_ ?_; rotate_left; (focus (rintro _ ⟨E, rfl⟩; go_simp; (try with_reducible rfl))); simp only [Act.put, List.getElem_toArray, List.getElem_cons_succ, List.getElem_cons_zero, List.setIfInBounds_toArray, List.set_cons_zero, List.set_cons_succ])
      (refine wpF_take (v := ?_) 8 rfl (by kernel_rfl) (by kernel_rfl) (by kernel_rfl) (by kernel_rfl) (fun _ _ _ h => h) (by assumption) rfl ?_ ?_; rotate_left; (focus (rintro _ ⟨E, rfl⟩; go_simp; (try with_reducible rfl))); simp only [Act.put, List.getElem_toArray, List.getElem_cons_succ, List.getElem_cons_zero, List.setIfInBounds_toArray, List.set_cons_zero, List.set_cons_succ])
      (refine wpF_take (v := ?_) 9 rfl (by kernel_rfl) (by kernel_rfl) (by kernel_rfl) (by kernel_rfl) (fun _ _ _ h => h) (by assumption) rfl ?_ ?_; rotate_left; (focus (rintro _ ⟨E, rfl⟩; go_simp; (try with_reducible rfl))); simp only [Act.put, List.getElem_toArray, List.getElem_cons_succ, List.getElem_cons_zero, List.setIfInBounds_toArray, List.set_cons_zero, List.set_cons_succ])
      (refine wpF_take (v := ?_) 10 rfl (by kernel_rfl) (by kernel_rfl) (by kernel_rfl) (by kernel_rfl) (fun _ _ _ h => h) (by assumption) rfl ?_ ?_; rotate_left; (focus (rintro _ ⟨E, rfl⟩; go_simp; (try with_reducible rfl))); simp only [Act.put, List.getElem_toArray, List.getElem_cons_succ, List.getElem_cons_zero, List.setIfInBounds_toArray, List.set_cons_zero, List.set_cons_succ])
      (refine wpF_take (v := ?_) 11 rfl (by kernel_rfl) (by kernel_rfl) (by kernel_rfl) (by kernel_rfl) (fun _ _ _ h => h) (by assumption) rfl ?_ ?_; rotate_left; (focus (rintro _ ⟨E, rfl⟩; go_simp; (try with_reducible rfl))); simp only [Act.put, List.getElem_toArray, List.getElem_cons_succ, List.getElem_cons_zero, List.setIfInBounds_toArray, List.set_cons_zero, List.set_cons_succ])
      (refine wpF_take (v := ?_) 12 rfl (by kernel_rfl) (by kernel_rfl) (by kernel_rfl) (by kernel_rfl) (fun _ _ _ h => h) (by assumption) rfl ?_ ?_; rotate_left; (focus (rintro _ ⟨E, rfl⟩; go_simp; (try with_reducible rfl))); simp only [Act.put, List.getElem_toArray, List.getElem_cons_succ, List.getElem_cons_zero, List.setIfInBounds_toArray, List.set_cons_zero, List.set_cons_succ])
      (refine wpF_take (v := ?_) 13 rfl (by kernel_rfl) (by kernel_rfl) (by kernel_rfl) (by kernel_rfl) (fun _ _ _ h => h) (by assumption) rfl ?_ ?_; rotate_left; (focus (rintro _ ⟨E, rfl⟩; go_simp; (try with_reducible rfl))); simp only [Act.put, List.getElem_toArray, List.getElem_cons_succ, List.getElem_cons_zero, List.setIfInBounds_toArray, List.set_cons_zero, List.set_cons_succ])
      (refine wpF_one 14 rfl (by kernel_rfl) rfl (fun K hK => ?_))
      go_simp
      (refine hK _ _ (fun h => absurd (by simp) h) (fun _ => ?_); clear hK K; try simp only [Act.put, List.getElem_toArray, List.getElem_cons_succ, List.getElem_cons_zero, List.setIfInBounds_toArray, List.set_cons_zero, List.set_cons_succ])
      (refine wpF_done (by kernel_rfl) ?_ _)
      go_wp2_with fail
      go_ret
      exact ⟨rfl, hK0⟩
  · have g1 : decide ((q : Int) < (T.size : Int)) = false := by simp; omega
    have g2 : decide (q < T.size) = false := by simp; omega
    have hx : T.toList[q]? = none := List.getElem?_eq_none (by rw [toList_len]; omega)
    have HF : fitsF e N.h q c = none := by rw [fitsF, if_pos hk, ← hT, hx]
    rw [HF]
    clear HF hb hN hc hT h6 hq hx h hk
    simp only [fitsI]
    go_enter Try.func103, Try.ntmps103
    go_wp2_with fail
    (refine wp_region_f [14] (InX Nb _) (by kernel_rfl) (InX.mk (Keep.drew (Keep.refl _ _))) (fun hI => ?_))
    have xx : ∀ k, ¬ Nb k := fun _ h => h
    have hK0 : Keep Nb w w.drew := (Keep.refl _ _).drew
    generalize w.drew = x0 at hK0 hI ⊢
    (refine wpF_take (v := ?_) 0 rfl (by kernel_rfl) (by kernel_rfl) (by kernel_rfl) (by kernel_rfl) (fun _ _ _ h => h) (by assumption) rfl ?_ ?_; rotate_left; (focus (rintro _ ⟨E, rfl⟩; go_simp; (try with_reducible rfl))); simp only [Act.put, List.getElem_toArray, List.getElem_cons_succ, List.getElem_cons_zero, List.setIfInBounds_toArray, List.set_cons_zero, List.set_cons_succ])
    (refine wpF_take (v := ?_) 1 rfl (by kernel_rfl) (by kernel_rfl) (by kernel_rfl) (by kernel_rfl) (fun _ _ _ h => h) (by assumption) rfl ?_ ?_; rotate_left; (focus (rintro _ ⟨E, rfl⟩; go_simp; (try with_reducible rfl))); simp only [Act.put, List.getElem_toArray, List.getElem_cons_succ, List.getElem_cons_zero, List.setIfInBounds_toArray, List.set_cons_zero, List.set_cons_succ])
    (refine wpF_skip 2 rfl (by kernel_rfl) (by kernel_rfl) (by kernel_rfl) (by kernel_rfl) (fun _ _ _ h => h) (by assumption) rfl ?_; simp only [Act.put, List.getElem_toArray, List.getElem_cons_succ, List.getElem_cons_zero, List.setIfInBounds_toArray, List.set_cons_zero, List.set_cons_succ])
    (refine wpF_skip 3 rfl (by kernel_rfl) (by kernel_rfl) (by kernel_rfl) (by kernel_rfl) (fun _ _ _ h => h) (by assumption) rfl ?_; simp only [Act.put, List.getElem_toArray, List.getElem_cons_succ, List.getElem_cons_zero, List.setIfInBounds_toArray, List.set_cons_zero, List.set_cons_succ])
    (refine wpF_skip 4 rfl (by kernel_rfl) (by kernel_rfl) (by kernel_rfl) (by kernel_rfl) (fun _ _ _ h => h) (by assumption) rfl ?_; simp only [Act.put, List.getElem_toArray, List.getElem_cons_succ, List.getElem_cons_zero, List.setIfInBounds_toArray, List.set_cons_zero, List.set_cons_succ])
    (refine wpF_skip 5 rfl (by kernel_rfl) (by kernel_rfl) (by kernel_rfl) (by kernel_rfl) (fun _ _ _ h => h) (by assumption) rfl ?_; simp only [Act.put, List.getElem_toArray, List.getElem_cons_succ, List.getElem_cons_zero, List.setIfInBounds_toArray, List.set_cons_zero, List.set_cons_succ])
    (refine wpF_skip 6 rfl (by kernel_rfl) (by kernel_rfl) (by kernel_rfl) (by kernel_rfl) (fun _ _ _ h => h) (by assumption) rfl ?_; simp only [Act.put, List.getElem_toArray, List.getElem_cons_succ, List.getElem_cons_zero, List.setIfInBounds_toArray, List.set_cons_zero, List.set_cons_succ])
    (refine wpF_skip 7 rfl (by kernel_rfl) (by kernel_rfl) (by kernel_rfl) (by kernel_rfl) (fun _ _ _ h => h) (by assumption) rfl ?_; simp only [Act.put, List.getElem_toArray, List.getElem_cons_succ, List.getElem_cons_zero, List.setIfInBounds_toArray, List.set_cons_zero, List.set_cons_succ])
    (refine wpF_skip 8 rfl (by kernel_rfl) (by kernel_rfl) (by kernel_rfl) (by kernel_rfl) (fun _ _ _ h => h) (by assumption) rfl ?_; simp only [Act.put, List.getElem_toArray, List.getElem_cons_succ, List.getElem_cons_zero, List.setIfInBounds_toArray, List.set_cons_zero, List.set_cons_succ])
    (refine wpF_skip 9 rfl (by kernel_rfl) (by kernel_rfl) (by kernel_rfl) (by kernel_rfl) (fun _ _ _ h => h) (by assumption) rfl ?_; simp only [Act.put, List.getElem_toArray, List.getElem_cons_succ, List.getElem_cons_zero, List.setIfInBounds_toArray, List.set_cons_zero, List.set_cons_succ])
    (refine wpF_skip 10 rfl (by kernel_rfl) (by kernel_rfl) (by kernel_rfl) (by kernel_rfl) (fun _ _ _ h => h) (by assumption) rfl ?_; simp only [Act.put, List.getElem_toArray, List.getElem_cons_succ, List.getElem_cons_zero, List.setIfInBounds_toArray, List.set_cons_zero, List.set_cons_succ])
    (refine wpF_skip 11 rfl (by kernel_rfl) (by kernel_rfl) (by kernel_rfl) (by kernel_rfl) (fun _ _ _ h => h) (by assumption) rfl ?_; simp only [Act.put, List.getElem_toArray, List.getElem_cons_succ, List.getElem_cons_zero, List.setIfInBounds_toArray, List.set_cons_zero, List.set_cons_succ])
    (refine wpF_skip 12 rfl (by kernel_rfl) (by kernel_rfl) (by kernel_rfl) (by kernel_rfl) (fun _ _ _ h => h) (by assumption) rfl ?_; simp only [Act.put, List.getElem_toArray, List.getElem_cons_succ, List.getElem_cons_zero, List.setIfInBounds_toArray, List.set_cons_zero, List.set_cons_succ])
    (refine wpF_take (v := ?_) 13 rfl (by kernel_rfl) (by kernel_rfl) (by kernel_rfl) (by kernel_rfl) (fun _ _ _ h => h) (by assumption) rfl ?_ ?_; rotate_left; (focus (rintro _ ⟨E, rfl⟩; go_simp; (try with_reducible rfl))); simp only [Act.put, List.getElem_toArray, List.getElem_cons_succ, List.getElem_cons_zero, List.setIfInBounds_toArray, List.set_cons_zero, List.set_cons_succ])
    (refine wpF_one 14 rfl (by kernel_rfl) rfl (fun K hK => ?_))
    go_simp
    (refine hK _ _ (fun h => absurd (by simp) h) (fun _ => ?_); clear hK K; try simp only [Act.put, List.getElem_toArray, List.getElem_cons_succ, List.getElem_cons_zero, List.setIfInBounds_toArray, List.set_cons_zero, List.set_cons_succ])
    (refine wpF_done (by kernel_rfl) ?_ _)
    go_wp2_with fail
    go_ret
    exact ⟨rfl, hK0⟩

set_option maxRecDepth 100000 in
set_option maxHeartbeats 1000000 in
theorem fits_2 (hk : N.h.k = 2) : Calls Try.prog 103 #[.pointer (some ⟨p, 0, none⟩), .pointer (some ⟨nb, no, none⟩), .int .i64 (q : Int)] w fun x w' => x = .returned (.int .i64 (fitsI (fitsF e N.h q c))) ∧ Keep Nb w w' := by
  have c0 := hb.cell 0 (u := .string T) rfl
  have c1 := hb.cell 1 (u := .bool e.bound) rfl
  have hl := hb.lt
  have n0 := hN.c0
  have n1 := hN.c1
  have n2 := hN.c2
  have n3 := hN.c3
  have n4 := hN.c4
  have n5 := hN.c5
  have n6 := hN.c6
  have nl := hN.lt
  have j0 : (0 : Int) ≤ (q : Int) := by omega
  rw [hk] at n0
  by_cases h : q < T.size
  · have g1 : decide ((q : Int) < (T.size : Int)) = true := by simp; omega
    have g2 : decide (q < T.size) = true := by simp; omega
    have i1 : (q : Int) < (T.size : Int) := by omega
    have HF : fitsF e N.h q c = some 1 := by rw [fitsF, if_neg (by omega), if_pos hk, ← hT, toList_len, if_pos h]
    rw [HF]
    clear HF hb hN hc hT h6 hq h hk
    simp only [fitsI]
    go_enter Try.func103, Try.ntmps103
    go_wp2_with fail
    go_ret
    exact ⟨rfl, Keep.refl _ _⟩
  · have g1 : decide ((q : Int) < (T.size : Int)) = false := by simp; omega
    have g2 : decide (q < T.size) = false := by simp; omega
    have HF : fitsF e N.h q c = none := by rw [fitsF, if_neg (by omega), if_pos hk, ← hT, toList_len, if_neg h]
    rw [HF]
    clear HF hb hN hc hT h6 hq h hk
    simp only [fitsI]
    go_enter Try.func103, Try.ntmps103
    go_wp2_with fail
    go_ret
    exact ⟨rfl, Keep.refl _ _⟩

set_option maxRecDepth 100000 in
set_option maxHeartbeats 1000000 in
theorem fits_3 (hk : N.h.k = 3) : Calls Try.prog 103 #[.pointer (some ⟨p, 0, none⟩), .pointer (some ⟨nb, no, none⟩), .int .i64 (q : Int)] w fun x w' => x = .returned (.int .i64 (fitsI (fitsF e N.h q c))) ∧ Keep Nb w w' := by
  have c0 := hb.cell 0 (u := .string T) rfl
  have c1 := hb.cell 1 (u := .bool e.bound) rfl
  have hl := hb.lt
  have n0 := hN.c0
  have n1 := hN.c1
  have n2 := hN.c2
  have n3 := hN.c3
  have n4 := hN.c4
  have n5 := hN.c5
  have n6 := hN.c6
  have nl := hN.lt
  have j0 : (0 : Int) ≤ (q : Int) := by omega
  rw [hk] at n0
  by_cases h : q < T.size
  · have g1 : decide ((q : Int) < (T.size : Int)) = true := by simp; omega
    have g2 : decide (q < T.size) = true := by simp; omega
    have i1 : (q : Int) < (T.size : Int) := by omega
    obtain ⟨x, hx⟩ : ∃ x, T.toList[q]? = some x := ⟨_, List.getElem?_eq_getElem (by rw [toList_len]; omega)⟩
    obtain ⟨b0, e0⟩ := byte_at hx
    have HH := Lib.hid (fun wx => has_t N.h x.toNat (UInt8.toNat_lt x) wx)
    cases hh : hasH N.h x.toNat with
    | true =>
      rw [hh] at HH
      have HF : fitsF e N.h q c = some 1 := by rw [fitsF, if_neg (by omega), if_neg (by omega), if_pos hk, ← hT, hx]; simp only []; rw [if_pos hh]
      rw [HF]
      clear HF hb hN hc hT h6 hq hx hh h hk
      simp only [fitsI]
      go_enter Try.func103, Try.ntmps103
      go_wp2_with fail
      (refine wp_region_f [14] (InX Nb _) (by kernel_rfl) (InX.mk (Keep.drew (Keep.refl _ _))) (fun hI => ?_))
      have xx : ∀ k, ¬ Nb k := fun _ h => h
      have hK0 : Keep Nb w w.drew := (Keep.refl _ _).drew
      generalize w.drew = x0 at hK0 hI ⊢
      (refine wpF_take (v := ?_) 0 rfl (by kernel_rfl) (by kernel_rfl) (by kernel_rfl) (by kernel_rfl) (fun _ _ _ h => h) (by assumption) rfl ?_ ?_; rotate_left; (focus (rintro _ ⟨E, rfl⟩; go_simp; (try with_reducible rfl))); simp only [Act.put, List.getElem_toArray, List.getElem_cons_succ, List.getElem_cons_zero, List.setIfInBounds_toArray, List.set_cons_zero, List.set_cons_succ])
      (refine wpF_take (v := ?_) 1 rfl (by kernel_rfl) (by kernel_rfl) (by kernel_rfl) (by kernel_rfl) (fun _ _ _ h => h) (by assumption) rfl ?_ ?_; rotate_left; (focus (rintro _ ⟨E, rfl⟩; go_simp; (try with_reducible rfl))); simp only [Act.put, List.getElem_toArray, List.getElem_cons_succ, List.getElem_cons_zero, List.setIfInBounds_toArray, List.set_cons_zero, List.set_cons_succ])
      (refine wpF_take (v := ?_) 2 rfl (by kernel_rfl) (by kernel_rfl) (by kernel_rfl) (by kernel_rfl) (fun _ _ _ h => h) (by assumption) rfl ?_ ?_; rotate_left; (focus (rintro _ ⟨E, rfl⟩; go_simp; (try with_reducible rfl))); simp only [Act.put, List.getElem_toArray, List.getElem_cons_succ, List.getElem_cons_zero, List.setIfInBounds_toArray, List.set_cons_zero, List.set_cons_succ])
      (refine wpF_take (v := ?_) 3 rfl (by kernel_rfl) (by kernel_rfl) (by kernel_rfl) (by kernel_rfl) (fun _ _ _ h => h) (by assumption) rfl ?_ ?_; rotate_left; (focus (rintro _ ⟨E, rfl⟩; go_simp; (try with_reducible rfl))); simp only [Act.put, List.getElem_toArray, List.getElem_cons_succ, List.getElem_cons_zero, List.setIfInBounds_toArray, List.set_cons_zero, List.set_cons_succ])
      (refine wpF_take (v := ?_) 4 rfl (by kernel_rfl) (by kernel_rfl) (by kernel_rfl) (by kernel_rfl) (fun _ _ _ h => h) (by assumption) rfl ?_ ?_; rotate_left; (focus (rintro _ ⟨E, rfl⟩; go_simp; (try with_reducible rfl))); simp only [Act.put, List.getElem_toArray, List.getElem_cons_succ, List.getElem_cons_zero, List.setIfInBounds_toArray, List.set_cons_zero, List.set_cons_succ])
      (refine wpF_take (v := ?_) 5 rfl (by kernel_rfl) (by kernel_rfl) (by kernel_rfl) (by kernel_rfl) (fun _ _ _ h => h) (by assumption) rfl ?_ ?_; rotate_left; (focus (rintro _ ⟨E, rfl⟩; go_simp; (try with_reducible rfl))); simp only [Act.put, List.getElem_toArray, List.getElem_cons_succ, List.getElem_cons_zero, List.setIfInBounds_toArray, List.set_cons_zero, List.set_cons_succ])
      (refine wpF_take (v := ?_) 6 rfl (by kernel_rfl) (by kernel_rfl) (by kernel_rfl) (by kernel_rfl) (fun _ _ _ h => h) (by assumption) rfl ?_ ?_; rotate_left; (focus (rintro _ ⟨E, rfl⟩; go_simp; (try with_reducible rfl))); simp only [Act.put, List.getElem_toArray, List.getElem_cons_succ, List.getElem_cons_zero, List.setIfInBounds_toArray, List.set_cons_zero, List.set_cons_succ])
      (refine wpF_take (v := ?_) 7 rfl (by kernel_rfl) (by kernel_rfl) (by kernel_rfl) (by kernel_rfl) (fun _ _ _ h => h) (by assumption) rfl ?_ ?_; rotate_left; (focus (rintro _ ⟨E, rfl⟩; go_simp; (try with_reducible rfl))); simp only [Act.put, List.getElem_toArray, List.getElem_cons_succ, List.getElem_cons_zero, List.setIfInBounds_toArray, List.set_cons_zero, List.set_cons_succ])
      (refine wpF_take (v := ?_) 8 rfl (by kernel_rfl) (by kernel_rfl) (by kernel_rfl) (by kernel_rfl) (fun _ _ _ h => h) (by assumption) rfl ?_ ?_; rotate_left; (focus (rintro _ ⟨E, rfl⟩; go_simp; (try with_reducible rfl))); simp only [Act.put, List.getElem_toArray, List.getElem_cons_succ, List.getElem_cons_zero, List.setIfInBounds_toArray, List.set_cons_zero, List.set_cons_succ])
      (refine wpF_take (v := ?_) 9 rfl (by kernel_rfl) (by kernel_rfl) (by kernel_rfl) (by kernel_rfl) (fun _ _ _ h => h) (by assumption) rfl ?_ ?_; rotate_left; (focus (rintro _ ⟨E, rfl⟩; go_simp; (try with_reducible rfl))); simp only [Act.put, List.getElem_toArray, List.getElem_cons_succ, List.getElem_cons_zero, List.setIfInBounds_toArray, List.set_cons_zero, List.set_cons_succ])
      (refine wpF_take (v := ?_) 10 rfl (by kernel_rfl) (by kernel_rfl) (by kernel_rfl) (by kernel_rfl) (fun _ _ _ h => h) (by assumption) rfl ?_ ?_; rotate_left; (focus (rintro _ ⟨E, rfl⟩; go_simp; (try with_reducible rfl))); simp only [Act.put, List.getElem_toArray, List.getElem_cons_succ, List.getElem_cons_zero, List.setIfInBounds_toArray, List.set_cons_zero, List.set_cons_succ])
      (refine wpF_take (v := ?_) 11 rfl (by kernel_rfl) (by kernel_rfl) (by kernel_rfl) (by kernel_rfl) (fun _ _ _ h => h) (by assumption) rfl ?_ ?_; rotate_left; (focus (rintro _ ⟨E, rfl⟩; go_simp; (try with_reducible rfl))); simp only [Act.put, List.getElem_toArray, List.getElem_cons_succ, List.getElem_cons_zero, List.setIfInBounds_toArray, List.set_cons_zero, List.set_cons_succ])
      (refine wpF_one 12 rfl (by kernel_rfl) rfl (fun K hK => ?_))
      go_simp
      refine (HH.out _).mono ?_
      rintro y x1 ⟨he, hkn⟩
      subst he
      replace hK0 := Keep.trans hK0 hkn (fun _ _ h => h)
      clear hkn
      (refine hK _ _ (fun _ => InX.mk hK0) (fun hI => ?_); have hI := hI (by simp); clear hK K; try simp only [Act.put, List.getElem_toArray, List.getElem_cons_succ, List.getElem_cons_zero, List.setIfInBounds_toArray, List.set_cons_zero, List.set_cons_succ])
      (refine wpF_take (v := ?_) 13 rfl (by kernel_rfl) (by kernel_rfl) (by kernel_rfl) (by kernel_rfl) (fun _ _ _ h => h) (by assumption) rfl ?_ ?_; rotate_left; (focus (rintro _ ⟨E, rfl⟩; go_simp; (try with_reducible rfl))); simp only [Act.put, List.getElem_toArray, List.getElem_cons_succ, List.getElem_cons_zero, List.setIfInBounds_toArray, List.set_cons_zero, List.set_cons_succ])
      (refine wpF_one 14 rfl (by kernel_rfl) rfl (fun K hK => ?_))
      go_simp
      (refine hK _ _ (fun h => absurd (by simp) h) (fun _ => ?_); clear hK K; try simp only [Act.put, List.getElem_toArray, List.getElem_cons_succ, List.getElem_cons_zero, List.setIfInBounds_toArray, List.set_cons_zero, List.set_cons_succ])
      (refine wpF_done (by kernel_rfl) ?_ _)
      go_wp2_with fail
      go_ret
      exact ⟨rfl, hK0⟩
    | false =>
      rw [hh] at HH
      have HF : fitsF e N.h q c = none := by rw [fitsF, if_neg (by omega), if_neg (by omega), if_pos hk, ← hT, hx]; simp only []; rw [if_neg (by rw [hh]; simp)]
      rw [HF]
      clear HF hb hN hc hT h6 hq hx hh h hk
      simp only [fitsI]
      go_enter Try.func103, Try.ntmps103
      go_wp2_with fail
      (refine wp_region_f [14] (InX Nb _) (by kernel_rfl) (InX.mk (Keep.drew (Keep.refl _ _))) (fun hI => ?_))
      have xx : ∀ k, ¬ Nb k := fun _ h => h
      have hK0 : Keep Nb w w.drew := (Keep.refl _ _).drew
      generalize w.drew = x0 at hK0 hI ⊢
      (refine wpF_take (v := ?_) 0 rfl (by kernel_rfl) (by kernel_rfl) (by kernel_rfl) (by kernel_rfl) (fun _ _ _ h => h) (by assumption) rfl ?_ ?_; rotate_left; (focus (rintro _ ⟨E, rfl⟩; go_simp; (try with_reducible rfl))); simp only [Act.put, List.getElem_toArray, List.getElem_cons_succ, List.getElem_cons_zero, List.setIfInBounds_toArray, List.set_cons_zero, List.set_cons_succ])
      (refine wpF_take (v := ?_) 1 rfl (by kernel_rfl) (by kernel_rfl) (by kernel_rfl) (by kernel_rfl) (fun _ _ _ h => h) (by assumption) rfl ?_ ?_; rotate_left; (focus (rintro _ ⟨E, rfl⟩; go_simp; (try with_reducible rfl))); simp only [Act.put, List.getElem_toArray, List.getElem_cons_succ, List.getElem_cons_zero, List.setIfInBounds_toArray, List.set_cons_zero, List.set_cons_succ])
      (refine wpF_take (v := ?_) 2 rfl (by kernel_rfl) (by kernel_rfl) (by kernel_rfl) (by kernel_rfl) (fun _ _ _ h => h) (by assumption) rfl ?_ ?_; rotate_left; (focus (rintro _ ⟨E, rfl⟩; go_simp; (try with_reducible rfl))); simp only [Act.put, List.getElem_toArray, List.getElem_cons_succ, List.getElem_cons_zero, List.setIfInBounds_toArray, List.set_cons_zero, List.set_cons_succ])
      (refine wpF_take (v := ?_) 3 rfl (by kernel_rfl) (by kernel_rfl) (by kernel_rfl) (by kernel_rfl) (fun _ _ _ h => h) (by assumption) rfl ?_ ?_; rotate_left; (focus (rintro _ ⟨E, rfl⟩; go_simp; (try with_reducible rfl))); simp only [Act.put, List.getElem_toArray, List.getElem_cons_succ, List.getElem_cons_zero, List.setIfInBounds_toArray, List.set_cons_zero, List.set_cons_succ])
      (refine wpF_take (v := ?_) 4 rfl (by kernel_rfl) (by kernel_rfl) (by kernel_rfl) (by kernel_rfl) (fun _ _ _ h => h) (by assumption) rfl ?_ ?_; rotate_left; (focus (rintro _ ⟨E, rfl⟩; go_simp; (try with_reducible rfl))); simp only [Act.put, List.getElem_toArray, List.getElem_cons_succ, List.getElem_cons_zero, List.setIfInBounds_toArray, List.set_cons_zero, List.set_cons_succ])
      (refine wpF_take (v := ?_) 5 rfl (by kernel_rfl) (by kernel_rfl) (by kernel_rfl) (by kernel_rfl) (fun _ _ _ h => h) (by assumption) rfl ?_ ?_; rotate_left; (focus (rintro _ ⟨E, rfl⟩; go_simp; (try with_reducible rfl))); simp only [Act.put, List.getElem_toArray, List.getElem_cons_succ, List.getElem_cons_zero, List.setIfInBounds_toArray, List.set_cons_zero, List.set_cons_succ])
      (refine wpF_take (v := ?_) 6 rfl (by kernel_rfl) (by kernel_rfl) (by kernel_rfl) (by kernel_rfl) (fun _ _ _ h => h) (by assumption) rfl ?_ ?_; rotate_left; (focus (rintro _ ⟨E, rfl⟩; go_simp; (try with_reducible rfl))); simp only [Act.put, List.getElem_toArray, List.getElem_cons_succ, List.getElem_cons_zero, List.setIfInBounds_toArray, List.set_cons_zero, List.set_cons_succ])
      (refine wpF_take (v := ?_) 7 rfl (by kernel_rfl) (by kernel_rfl) (by kernel_rfl) (by kernel_rfl) (fun _ _ _ h => h) (by assumption) rfl ?_ ?_; rotate_left; (focus (rintro _ ⟨E, rfl⟩; go_simp; (try with_reducible rfl))); simp only [Act.put, List.getElem_toArray, List.getElem_cons_succ, List.getElem_cons_zero, List.setIfInBounds_toArray, List.set_cons_zero, List.set_cons_succ])
      (refine wpF_take (v := ?_) 8 rfl (by kernel_rfl) (by kernel_rfl) (by kernel_rfl) (by kernel_rfl) (fun _ _ _ h => h) (by assumption) rfl ?_ ?_; rotate_left; (focus (rintro _ ⟨E, rfl⟩; go_simp; (try with_reducible rfl))); simp only [Act.put, List.getElem_toArray, List.getElem_cons_succ, List.getElem_cons_zero, List.setIfInBounds_toArray, List.set_cons_zero, List.set_cons_succ])
      (refine wpF_take (v := ?_) 9 rfl (by kernel_rfl) (by kernel_rfl) (by kernel_rfl) (by kernel_rfl) (fun _ _ _ h => h) (by assumption) rfl ?_ ?_; rotate_left; (focus (rintro _ ⟨E, rfl⟩; go_simp; (try with_reducible rfl))); simp only [Act.put, List.getElem_toArray, List.getElem_cons_succ, List.getElem_cons_zero, List.setIfInBounds_toArray, List.set_cons_zero, List.set_cons_succ])
      (refine wpF_take (v := ?_) 10 rfl (by kernel_rfl) (by kernel_rfl) (by kernel_rfl) (by kernel_rfl) (fun _ _ _ h => h) (by assumption) rfl ?_ ?_; rotate_left; (focus (rintro _ ⟨E, rfl⟩; go_simp; (try with_reducible rfl))); simp only [Act.put, List.getElem_toArray, List.getElem_cons_succ, List.getElem_cons_zero, List.setIfInBounds_toArray, List.set_cons_zero, List.set_cons_succ])
      (refine wpF_take (v := ?_) 11 rfl (by kernel_rfl) (by kernel_rfl) (by kernel_rfl) (by kernel_rfl) (fun _ _ _ h => h) (by assumption) rfl ?_ ?_; rotate_left; (focus (rintro _ ⟨E, rfl⟩; go_simp; (try with_reducible rfl))); simp only [Act.put, List.getElem_toArray, List.getElem_cons_succ, List.getElem_cons_zero, List.setIfInBounds_toArray, List.set_cons_zero, List.set_cons_succ])
      (refine wpF_one 12 rfl (by kernel_rfl) rfl (fun K hK => ?_))
      go_simp
      refine (HH.out _).mono ?_
      rintro y x1 ⟨he, hkn⟩
      subst he
      replace hK0 := Keep.trans hK0 hkn (fun _ _ h => h)
      clear hkn
      (refine hK _ _ (fun _ => InX.mk hK0) (fun hI => ?_); have hI := hI (by simp); clear hK K; try simp only [Act.put, List.getElem_toArray, List.getElem_cons_succ, List.getElem_cons_zero, List.setIfInBounds_toArray, List.set_cons_zero, List.set_cons_succ])
      (refine wpF_take (v := ?_) 13 rfl (by kernel_rfl) (by kernel_rfl) (by kernel_rfl) (by kernel_rfl) (fun _ _ _ h => h) (by assumption) rfl ?_ ?_; rotate_left; (focus (rintro _ ⟨E, rfl⟩; go_simp; (try with_reducible rfl))); simp only [Act.put, List.getElem_toArray, List.getElem_cons_succ, List.getElem_cons_zero, List.setIfInBounds_toArray, List.set_cons_zero, List.set_cons_succ])
      (refine wpF_one 14 rfl (by kernel_rfl) rfl (fun K hK => ?_))
      go_simp
      (refine hK _ _ (fun h => absurd (by simp) h) (fun _ => ?_); clear hK K; try simp only [Act.put, List.getElem_toArray, List.getElem_cons_succ, List.getElem_cons_zero, List.setIfInBounds_toArray, List.set_cons_zero, List.set_cons_succ])
      (refine wpF_done (by kernel_rfl) ?_ _)
      go_wp2_with fail
      go_ret
      exact ⟨rfl, hK0⟩
  · have g1 : decide ((q : Int) < (T.size : Int)) = false := by simp; omega
    have g2 : decide (q < T.size) = false := by simp; omega
    have hx : T.toList[q]? = none := List.getElem?_eq_none (by rw [toList_len]; omega)
    have HF : fitsF e N.h q c = none := by rw [fitsF, if_neg (by omega), if_neg (by omega), if_pos hk, ← hT, hx]
    rw [HF]
    clear HF hb hN hc hT h6 hq hx h hk
    simp only [fitsI]
    go_enter Try.func103, Try.ntmps103
    go_wp2_with fail
    (refine wp_region_f [14] (InX Nb _) (by kernel_rfl) (InX.mk (Keep.drew (Keep.refl _ _))) (fun hI => ?_))
    have xx : ∀ k, ¬ Nb k := fun _ h => h
    have hK0 : Keep Nb w w.drew := (Keep.refl _ _).drew
    generalize w.drew = x0 at hK0 hI ⊢
    (refine wpF_take (v := ?_) 0 rfl (by kernel_rfl) (by kernel_rfl) (by kernel_rfl) (by kernel_rfl) (fun _ _ _ h => h) (by assumption) rfl ?_ ?_; rotate_left; (focus (rintro _ ⟨E, rfl⟩; go_simp; (try with_reducible rfl))); simp only [Act.put, List.getElem_toArray, List.getElem_cons_succ, List.getElem_cons_zero, List.setIfInBounds_toArray, List.set_cons_zero, List.set_cons_succ])
    (refine wpF_take (v := ?_) 1 rfl (by kernel_rfl) (by kernel_rfl) (by kernel_rfl) (by kernel_rfl) (fun _ _ _ h => h) (by assumption) rfl ?_ ?_; rotate_left; (focus (rintro _ ⟨E, rfl⟩; go_simp; (try with_reducible rfl))); simp only [Act.put, List.getElem_toArray, List.getElem_cons_succ, List.getElem_cons_zero, List.setIfInBounds_toArray, List.set_cons_zero, List.set_cons_succ])
    (refine wpF_skip 2 rfl (by kernel_rfl) (by kernel_rfl) (by kernel_rfl) (by kernel_rfl) (fun _ _ _ h => h) (by assumption) rfl ?_; simp only [Act.put, List.getElem_toArray, List.getElem_cons_succ, List.getElem_cons_zero, List.setIfInBounds_toArray, List.set_cons_zero, List.set_cons_succ])
    (refine wpF_skip 3 rfl (by kernel_rfl) (by kernel_rfl) (by kernel_rfl) (by kernel_rfl) (fun _ _ _ h => h) (by assumption) rfl ?_; simp only [Act.put, List.getElem_toArray, List.getElem_cons_succ, List.getElem_cons_zero, List.setIfInBounds_toArray, List.set_cons_zero, List.set_cons_succ])
    (refine wpF_skip 4 rfl (by kernel_rfl) (by kernel_rfl) (by kernel_rfl) (by kernel_rfl) (fun _ _ _ h => h) (by assumption) rfl ?_; simp only [Act.put, List.getElem_toArray, List.getElem_cons_succ, List.getElem_cons_zero, List.setIfInBounds_toArray, List.set_cons_zero, List.set_cons_succ])
    (refine wpF_skip 5 rfl (by kernel_rfl) (by kernel_rfl) (by kernel_rfl) (by kernel_rfl) (fun _ _ _ h => h) (by assumption) rfl ?_; simp only [Act.put, List.getElem_toArray, List.getElem_cons_succ, List.getElem_cons_zero, List.setIfInBounds_toArray, List.set_cons_zero, List.set_cons_succ])
    (refine wpF_skip 6 rfl (by kernel_rfl) (by kernel_rfl) (by kernel_rfl) (by kernel_rfl) (fun _ _ _ h => h) (by assumption) rfl ?_; simp only [Act.put, List.getElem_toArray, List.getElem_cons_succ, List.getElem_cons_zero, List.setIfInBounds_toArray, List.set_cons_zero, List.set_cons_succ])
    (refine wpF_skip 7 rfl (by kernel_rfl) (by kernel_rfl) (by kernel_rfl) (by kernel_rfl) (fun _ _ _ h => h) (by assumption) rfl ?_; simp only [Act.put, List.getElem_toArray, List.getElem_cons_succ, List.getElem_cons_zero, List.setIfInBounds_toArray, List.set_cons_zero, List.set_cons_succ])
    (refine wpF_skip 8 rfl (by kernel_rfl) (by kernel_rfl) (by kernel_rfl) (by kernel_rfl) (fun _ _ _ h => h) (by assumption) rfl ?_; simp only [Act.put, List.getElem_toArray, List.getElem_cons_succ, List.getElem_cons_zero, List.setIfInBounds_toArray, List.set_cons_zero, List.set_cons_succ])
    (refine wpF_skip 9 rfl (by kernel_rfl) (by kernel_rfl) (by kernel_rfl) (by kernel_rfl) (fun _ _ _ h => h) (by assumption) rfl ?_; simp only [Act.put, List.getElem_toArray, List.getElem_cons_succ, List.getElem_cons_zero, List.setIfInBounds_toArray, List.set_cons_zero, List.set_cons_succ])
    (refine wpF_skip 10 rfl (by kernel_rfl) (by kernel_rfl) (by kernel_rfl) (by kernel_rfl) (fun _ _ _ h => h) (by assumption) rfl ?_; simp only [Act.put, List.getElem_toArray, List.getElem_cons_succ, List.getElem_cons_zero, List.setIfInBounds_toArray, List.set_cons_zero, List.set_cons_succ])
    (refine wpF_skip 11 rfl (by kernel_rfl) (by kernel_rfl) (by kernel_rfl) (by kernel_rfl) (fun _ _ _ h => h) (by assumption) rfl ?_; simp only [Act.put, List.getElem_toArray, List.getElem_cons_succ, List.getElem_cons_zero, List.setIfInBounds_toArray, List.set_cons_zero, List.set_cons_succ])
    (refine wpF_skip 12 rfl (by kernel_rfl) (by kernel_rfl) (by kernel_rfl) (by kernel_rfl) (fun _ _ _ h => h) (by assumption) rfl ?_; simp only [Act.put, List.getElem_toArray, List.getElem_cons_succ, List.getElem_cons_zero, List.setIfInBounds_toArray, List.set_cons_zero, List.set_cons_succ])
    (refine wpF_take (v := ?_) 13 rfl (by kernel_rfl) (by kernel_rfl) (by kernel_rfl) (by kernel_rfl) (fun _ _ _ h => h) (by assumption) rfl ?_ ?_; rotate_left; (focus (rintro _ ⟨E, rfl⟩; go_simp; (try with_reducible rfl))); simp only [Act.put, List.getElem_toArray, List.getElem_cons_succ, List.getElem_cons_zero, List.setIfInBounds_toArray, List.set_cons_zero, List.set_cons_succ])
    (refine wpF_one 14 rfl (by kernel_rfl) rfl (fun K hK => ?_))
    go_simp
    (refine hK _ _ (fun h => absurd (by simp) h) (fun _ => ?_); clear hK K; try simp only [Act.put, List.getElem_toArray, List.getElem_cons_succ, List.getElem_cons_zero, List.setIfInBounds_toArray, List.set_cons_zero, List.set_cons_succ])
    (refine wpF_done (by kernel_rfl) ?_ _)
    go_wp2_with fail
    go_ret
    exact ⟨rfl, hK0⟩

set_option maxRecDepth 100000 in
set_option maxHeartbeats 1000000 in
theorem fits_4 (hk : N.h.k = 4) : Calls Try.prog 103 #[.pointer (some ⟨p, 0, none⟩), .pointer (some ⟨nb, no, none⟩), .int .i64 (q : Int)] w fun x w' => x = .returned (.int .i64 (fitsI (fitsF e N.h q c))) ∧ Keep Nb w w' := by
  have c0 := hb.cell 0 (u := .string T) rfl
  have c1 := hb.cell 1 (u := .bool e.bound) rfl
  have hl := hb.lt
  have n0 := hN.c0
  have n1 := hN.c1
  have n2 := hN.c2
  have n3 := hN.c3
  have n4 := hN.c4
  have n5 := hN.c5
  have n6 := hN.c6
  have nl := hN.lt
  have j0 : (0 : Int) ≤ (q : Int) := by omega
  rw [hk] at n0
  by_cases h : q < T.size
  all_goals
    first
    | (have g1 : decide ((q : Int) < (T.size : Int)) = true := by simp; omega
       have g2 : decide (q < T.size) = true := by simp; omega)
    | (have g1 : decide ((q : Int) < (T.size : Int)) = false := by simp; omega
       have g2 : decide (q < T.size) = false := by simp; omega)
    by_cases h0 : q = 0
    · have m0 : ((q : Int) == 0) = true := beq_int (by omega)
      cases hbd : e.bound with
      | true =>
        have HF : fitsF e N.h q c = none := by rw [fitsF, if_neg (by omega), if_neg (by omega), if_neg (by omega), if_pos hk, if_neg (by rw [hbd]; simp)]
        rw [hbd] at c1
        rw [HF]
        clear HF hb hN hc hT h6 hq h h0 hk
        simp only [fitsI]
        go_enter Try.func103, Try.ntmps103
        go_wp2_with fail
        go_ret
        exact ⟨rfl, Keep.refl _ _⟩
      | false =>
        have HF : fitsF e N.h q c = some 0 := by rw [fitsF, if_neg (by omega), if_neg (by omega), if_neg (by omega), if_pos hk, if_pos ⟨h0, hbd⟩]
        rw [hbd] at c1
        rw [HF]
        clear HF hb hN hc hT h6 hq h h0 hk
        simp only [fitsI]
        go_enter Try.func103, Try.ntmps103
        go_wp2_with fail
        go_ret
        exact ⟨rfl, Keep.refl _ _⟩
    · have m0 : ((q : Int) == 0) = false := bne_int (by omega)
      have m1 : ¬ ((q : Int) = 0) := by omega
      have m2 : ¬ q = 0 := h0
      have HF : fitsF e N.h q c = none := by rw [fitsF, if_neg (by omega), if_neg (by omega), if_neg (by omega), if_pos hk, if_neg (fun hh => h0 hh.1)]
      rw [HF]
      clear HF hb hN hc hT h6 hq h h0 hk
      simp only [fitsI]
      go_enter Try.func103, Try.ntmps103
      go_wp2_with fail
      go_ret
      exact ⟨rfl, Keep.refl _ _⟩

set_option maxRecDepth 100000 in
set_option maxHeartbeats 1000000 in
theorem fits_5 (hk : N.h.k = 5) : Calls Try.prog 103 #[.pointer (some ⟨p, 0, none⟩), .pointer (some ⟨nb, no, none⟩), .int .i64 (q : Int)] w fun x w' => x = .returned (.int .i64 (fitsI (fitsF e N.h q c))) ∧ Keep Nb w w' := by
  have c0 := hb.cell 0 (u := .string T) rfl
  have c1 := hb.cell 1 (u := .bool e.bound) rfl
  have hl := hb.lt
  have n0 := hN.c0
  have n1 := hN.c1
  have n2 := hN.c2
  have n3 := hN.c3
  have n4 := hN.c4
  have n5 := hN.c5
  have n6 := hN.c6
  have nl := hN.lt
  have j0 : (0 : Int) ≤ (q : Int) := by omega
  rw [hk] at n0
  by_cases h : q < T.size
  · have g1 : decide ((q : Int) < (T.size : Int)) = true := by simp; omega
    have g2 : decide (q < T.size) = true := by simp; omega
    have i1 : (q : Int) < (T.size : Int) := by omega
    have HF : fitsF e N.h q c = none := by rw [fitsF, if_neg (by omega), if_neg (by omega), if_neg (by omega), if_neg (by omega), if_pos hk, ← hT, toList_len, if_pos h]
    rw [HF]
    clear HF hb hN hc hT h6 hq h hk
    simp only [fitsI]
    go_enter Try.func103, Try.ntmps103
    go_wp2_with fail
    go_ret
    exact ⟨rfl, Keep.refl _ _⟩
  · have g1 : decide ((q : Int) < (T.size : Int)) = false := by simp; omega
    have g2 : decide (q < T.size) = false := by simp; omega
    have HF : fitsF e N.h q c = some 0 := by rw [fitsF, if_neg (by omega), if_neg (by omega), if_neg (by omega), if_neg (by omega), if_pos hk, ← hT, toList_len, if_neg h]
    rw [HF]
    clear HF hb hN hc hT h6 hq h hk
    simp only [fitsI]
    go_enter Try.func103, Try.ntmps103
    go_wp2_with fail
    go_ret
    exact ⟨rfl, Keep.refl _ _⟩

set_option maxRecDepth 100000 in
set_option maxHeartbeats 1000000 in
theorem fits_7 (hk : N.h.k = 7) (hn : 1 ≤ N.h.n ∧ N.h.n ≤ 9) : Calls Try.prog 103 #[.pointer (some ⟨p, 0, none⟩), .pointer (some ⟨nb, no, none⟩), .int .i64 (q : Int)] w fun x w' => x = .returned (.int .i64 (fitsI (fitsF e N.h q c))) ∧ Keep Nb w w' := by
  have c0 := hb.cell 0 (u := .string T) rfl
  have c1 := hb.cell 1 (u := .bool e.bound) rfl
  have hl := hb.lt
  have n0 := hN.c0
  have n1 := hN.c1
  have n2 := hN.c2
  have n3 := hN.c3
  have n4 := hN.c4
  have n5 := hN.c5
  have n6 := hN.c6
  have nl := hN.lt
  have j0 : (0 : Int) ≤ (q : Int) := by omega
  rw [hk] at n0
  obtain ⟨m, hm⟩ : ∃ m : Nat, N.h.n = (m : Int) := ⟨N.h.n.toNat, by omega⟩
  rw [hm] at n6
  have HB := Lib.hid (fun wx (hx : FAt wx p T e s c) => back_any p T e s c m q wx hT h6 (by omega) hq hc hx)
  have HB := Lib.hid (HB.out w hb)
  have HF : fitsF e N.h q c = (match c m with
      | none => none
      | some (a, b) => if (e.L.drop q).take (b - a) = (e.L.drop a).take (b - a) then some (b - a) else none) := by rw [fitsF, if_neg (by omega), if_neg (by omega), if_neg (by omega), if_neg (by omega), if_neg (by omega), if_pos hk, hm, Int.toNat_natCast]; rfl
  have hi : fitsI (fitsF e N.h q c) = backI e m q c := by
    rw [HF, backI]
    cases c m with
    | none => rfl
    | some ab => obtain ⟨a, b⟩ := ab; simp only []; split <;> rfl
  have hr : (fitsF e N.h q c = none ∧ backI e m q c = -1) ∨ (∃ j : Nat, backI e m q c = (j : Int)) := by
    rw [HF, backI]
    cases c m with
    | none => exact .inl ⟨rfl, rfl⟩
    | some ab => obtain ⟨a, b⟩ := ab; simp only []; split; exact .inr ⟨_, rfl⟩; exact .inl ⟨rfl, rfl⟩
  rw [hi]
  generalize backI e m q c = v at HB hr ⊢
  by_cases h : q < T.size
  all_goals
    first
    | (have g1 : decide ((q : Int) < (T.size : Int)) = true := by simp; omega
       have g2 : decide (q < T.size) = true := by simp; omega)
    | (have g1 : decide ((q : Int) < (T.size : Int)) = false := by simp; omega
       have g2 : decide (q < T.size) = false := by simp; omega)
    rcases hr with ⟨_, rfl⟩ | ⟨j, rfl⟩
    · clear HF hi hb hN hc hT h6 hq h hk hn hm
      go_enter Try.func103, Try.ntmps103
      go_wp2_with fail
      refine HB.out.mono ?_
      rintro y w2 ⟨rfl, hk2⟩
      go_wp2_with fail
      go_ret
      exact ⟨rfl, hk2⟩
    · have z1 : (0 : Int) ≤ (j : Int) := by omega
      have z2 : decide ((0 : Int) ≤ (j : Int)) = true := by simp
      clear HF hi hb hN hc hT h6 hq h hk hn hm
      go_enter Try.func103, Try.ntmps103
      go_wp2_with fail
      refine HB.out.mono ?_
      rintro y w2 ⟨rfl, hk2⟩
      go_wp2_with fail
      go_ret
      exact ⟨rfl, hk2⟩

set_option maxRecDepth 100000 in
set_option maxHeartbeats 1000000 in
theorem fits_0 (hk : ¬ N.h.k = 1 ∧ ¬ N.h.k = 2 ∧ ¬ N.h.k = 3 ∧ ¬ N.h.k = 4 ∧ ¬ N.h.k = 5 ∧ ¬ N.h.k = 7) : Calls Try.prog 103 #[.pointer (some ⟨p, 0, none⟩), .pointer (some ⟨nb, no, none⟩), .int .i64 (q : Int)] w fun x w' => x = .returned (.int .i64 (fitsI (fitsF e N.h q c))) ∧ Keep Nb w w' := by
  have c0 := hb.cell 0 (u := .string T) rfl
  have c1 := hb.cell 1 (u := .bool e.bound) rfl
  have hl := hb.lt
  have n0 := hN.c0
  have n1 := hN.c1
  have n2 := hN.c2
  have n3 := hN.c3
  have n4 := hN.c4
  have n5 := hN.c5
  have n6 := hN.c6
  have nl := hN.lt
  have j0 : (0 : Int) ≤ (q : Int) := by omega
  by_cases h : q < T.size
  all_goals
    first
    | (have g1 : decide ((q : Int) < (T.size : Int)) = true := by simp; omega
       have g2 : decide (q < T.size) = true := by simp; omega)
    | (have g1 : decide ((q : Int) < (T.size : Int)) = false := by simp; omega
       have g2 : decide (q < T.size) = false := by simp; omega)
    have HF : fitsF e N.h q c = none := by rw [fitsF, if_neg hk.1, if_neg hk.2.1, if_neg hk.2.2.1, if_neg hk.2.2.2.1, if_neg hk.2.2.2.2.1, if_neg hk.2.2.2.2.2]
    have z1 := bne_int hk.1
    have z2 := bne_int hk.2.1
    have z3 := bne_int hk.2.2.1
    have z4 := bne_int hk.2.2.2.1
    have z5 := bne_int hk.2.2.2.2.1
    have z7 := bne_int hk.2.2.2.2.2
    rw [HF]
    clear HF hb hN hc hT h6 hq h hk
    simp only [fitsI]
    go_enter Try.func103, Try.ntmps103
    go_wp2_with fail
    go_ret
    exact ⟨rfl, Keep.refl _ _⟩

theorem fits_any (hok : okH N.h N.l.length) : Calls Try.prog 103 #[.pointer (some ⟨p, 0, none⟩), .pointer (some ⟨nb, no, none⟩), .int .i64 (q : Int)] w fun x w' => x = .returned (.int .i64 (fitsI (fitsF e N.h q c))) ∧ Keep Nb w w' := by
  by_cases k1 : N.h.k = 1
  · exact fits_1 p T e s c N S nb no q w hT h6 hq hc hb hN k1
  by_cases k2 : N.h.k = 2
  · exact fits_2 p T e s c N S nb no q w hT h6 hq hc hb hN k2
  by_cases k3 : N.h.k = 3
  · exact fits_3 p T e s c N S nb no q w hT h6 hq hc hb hN k3
  by_cases k4 : N.h.k = 4
  · exact fits_4 p T e s c N S nb no q w hT h6 hq hc hb hN k4
  by_cases k5 : N.h.k = 5
  · exact fits_5 p T e s c N S nb no q w hT h6 hq hc hb hN k5
  by_cases k7 : N.h.k = 7
  · exact fits_7 p T e s c N S nb no q w hT h6 hq hc hb hN k7 (hok.2.2.2.1 k7)
  exact fits_0 p T e s c N S nb no q w hT h6 hq hc hb hN ⟨k1, k2, k3, k4, k5, k7⟩
end

end Go.Proofs.Ytkidjbfapldmbaa
