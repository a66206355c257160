/- Whether two trees are alike: Same of the program. -/
import Derived.Test.YtkidjbfapldmbaaTop
import Derived.Test.YtkidjbfapldmbaaQuiet
namespace Go.Proofs.Ytkidjbfapldmbaa
set_option linter.unusedVariables false
set_option linter.unusedSimpArgs false
open Go.RowKit P8

set_option maxRecDepth 100000 in
set_option maxHeartbeats 1000000 in
theorem same_step (c : Nat) (HI : SameSaid c) (hc0 : c ≤ 900000) : SameSaid (c + 1) := by
  intro T U hd v v' w hl hl'
  have hlU := hl'
  have hlT := hl
  rw [Lies_def] at hlT hlU
  obtain ⟨A, cap, rfl, h1, h2, hL⟩ := hlT
  obtain ⟨A', cap', rfl, h1', h2', hL'⟩ := hlU
  have hlen : T.l.length ≤ 1000000 := by cases T; rw [count] at hd; have := countL_len ‹_›; simp only [Nd.l]; omega
  have hcl : countL T.l ≤ c := by cases T; rw [count] at hd; simp only [Nd.l]; omega
  have hlen' : U.l.length ≤ maxLen := by omega
  have hsame : same T U = (decide (T.h = U.h) && sameL T.l U.l) := by cases T; cases U; rw [same]; rfl
  rw [hsame]
  unfold maxLen at *
  have HI2 := Lib.hid HI; clear HI
  simp only [Nd.row]
  by_cases hh : T.h = U.h
  · have hg : headEq ⟨T.h.k, T.h.c, T.h.s0, T.h.s1, T.h.s2, T.h.s3, T.h.n, T.h.mn, T.h.mx⟩ ⟨U.h.k, U.h.c, U.h.s0, U.h.s1, U.h.s2, U.h.s3, U.h.n, U.h.mn, U.h.mx⟩ = true := headEq_iff.2 hh
    have HH := Lib.hid hh; clear hh
    go_enter Try.func23, Try.ntmps23
    go_wp2_with fail
    refine wp_region_x (by kernel_rfl) (by kernel_rfl) ?_; (repeat (go_big_quiet_step ((first | (go_at_call 59; exact Calls.ext _ (top_lit _ _ _)) | (go_at_call 60; exact Calls.ext _ (equal_any c HI2.out T.l U.l hcl A A' cap cap' _ hlen hlen' (LiesL_keep (Keep.trans (by repeat (first | assumption | exact Keep.refl _ _ | refine Keep.alloc ?_ _ | refine Keep.drew ?_ | refine Keep.setCell ?_ (Or.inl (by simp)) _ | refine Keep.setRow ?_ (Or.inl (by simp)) _)) (Ext.property _) (fun _ _ h => h)) hL) (LiesL_keep (Keep.trans (by repeat (first | assumption | exact Keep.refl _ _ | refine Keep.alloc ?_ _ | refine Keep.drew ?_ | refine Keep.setCell ?_ (Or.inl (by simp)) _ | refine Keep.setRow ?_ (Or.inl (by simp)) _)) (Ext.property _) (fun _ _ h => h)) hL'))))))); refine wpQuiet_nil ?_; rintro w2 ⟨⟨_, hk2⟩, rfl⟩
    go_wp2_with fail
    go_ret
    exact ⟨ret_bool (by simp [HH.out]), Keep.trans (by repeat (first | assumption | exact Keep.refl _ _ | refine Keep.alloc ?_ _ | refine Keep.drew ?_ | refine Keep.setCell ?_ (Or.inl (by simp)) _ | refine Keep.setRow ?_ (Or.inl (by simp)) _)) hk2 (fun _ _ h => h)⟩
  · have hg : headEq ⟨T.h.k, T.h.c, T.h.s0, T.h.s1, T.h.s2, T.h.s3, T.h.n, T.h.mn, T.h.mx⟩ ⟨U.h.k, U.h.c, U.h.s0, U.h.s1, U.h.s2, U.h.s3, U.h.n, U.h.mn, U.h.mx⟩ = false := by rw [Bool.eq_false_iff]; exact fun e => hh (headEq_iff.1 e)
    have HH := Lib.hid hh; clear hh
    go_enter Try.func23, Try.ntmps23
    go_wp2_with fail
    refine wp_region_x (by kernel_rfl) (by kernel_rfl) ?_; (repeat (go_big_quiet_step ((first | (go_at_call 59; exact Calls.ext _ (top_lit _ _ _)) | (go_at_call 60; exact Calls.ext _ (equal_any c HI2.out T.l U.l hcl A A' cap cap' _ hlen hlen' (LiesL_keep (Keep.trans (by repeat (first | assumption | exact Keep.refl _ _ | refine Keep.alloc ?_ _ | refine Keep.drew ?_ | refine Keep.setCell ?_ (Or.inl (by simp)) _ | refine Keep.setRow ?_ (Or.inl (by simp)) _)) (Ext.property _) (fun _ _ h => h)) hL) (LiesL_keep (Keep.trans (by repeat (first | assumption | exact Keep.refl _ _ | refine Keep.alloc ?_ _ | refine Keep.drew ?_ | refine Keep.setCell ?_ (Or.inl (by simp)) _ | refine Keep.setRow ?_ (Or.inl (by simp)) _)) (Ext.property _) (fun _ _ h => h)) hL'))))))); refine wpQuiet_nil ?_; rintro w2 ⟨⟨_, hk2⟩, rfl⟩
    go_wp2_with fail
    go_ret
    exact ⟨ret_bool (by simp [HH.out]), Keep.trans (by repeat (first | assumption | exact Keep.refl _ _ | refine Keep.alloc ?_ _ | refine Keep.drew ?_ | refine Keep.setCell ?_ (Or.inl (by simp)) _ | refine Keep.setRow ?_ (Or.inl (by simp)) _)) hk2 (fun _ _ h => h)⟩

theorem same_any : ∀ (c : Nat) (_ : c ≤ 900000), SameSaid c
  | 0, _ => fun T U h => by have := count_pos T; omega
  | c + 1, h => same_step c (same_any c (by omega)) (by omega)

end Go.Proofs.Ytkidjbfapldmbaa
