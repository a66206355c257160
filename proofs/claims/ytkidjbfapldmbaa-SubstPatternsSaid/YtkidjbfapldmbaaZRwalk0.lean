import Derived.Test.YtkidjbfapldmbaaZCount
import Derived.Test.YtkidjbfapldmbaaZBase
import Derived.Test.YtkidjbfapldmbaaZOwn2
import Derived.Test.YtkidjbfapldmbaaZFormed
import Derived.Test.YtkidjbfapldmbaaZTheirs
import Derived.Deep.DeepCutAuto
set_option linter.unusedVariables false
set_option linter.unusedSimpArgs false
namespace Go.Proofs.Ytkidjbfapldmbaa
open Go.RowKit P8
set_option maxRecDepth 100000 in
set_option maxHeartbeats 4000000 in
theorem plain_1 (c s0 s1 s2 s3 n mn mx : Int) (l : List Nd) (A : Option Addr) (cap : Nat) (w : World) :
  Calls Try.prog 83 #[.agg (Nd.row (.mk ⟨1, c, s0, s1, s2, s3, n, mn, mx⟩ l) (.slice A l.length cap))] w fun e w' => e = .returned (.bool (headOk (.mk ⟨1, c, s0, s1, s2, s3, n, mn, mx⟩ l))) ∧ Keep Nb w w' := by
 rw [Nd.row]
 simp only [Nd.h]
 obtain ⟨p0, q0⟩ : ∃ p, ((l.length : Int) == 0) = p := ⟨_, rfl⟩
 obtain ⟨p1, q1⟩ : ∃ p, setEq 0 0 0 0 s0 s1 s2 s3 = p := ⟨_, rfl⟩
 obtain ⟨p2, q2⟩ : ∃ p, ((0 : Int) == n) = p := ⟨_, rfl⟩
 obtain ⟨p3, q3⟩ : ∃ p, ((0 : Int) == mn) = p := ⟨_, rfl⟩
 obtain ⟨p4, q4⟩ : ∃ p, ((0 : Int) == mx) = p := ⟨_, rfl⟩
 have hR : headOk (.mk ⟨1, c, s0, s1, s2, s3, n, mn, mx⟩ l) = (p0 && p1 && p2 && p3 && p4) := by
  rw [← q0, ← q1, ← q2, ← q3, ← q4, Bool.eq_iff_iff]
  simp only [headOk, neededH, kidsOf, setEq, Nd.h, Nd.l, Hd.mk.injEq, decide_eq_true_eq, Bool.and_eq_true, beq_iff_eq, Int.reduceEq, ↓reduceIte, true_and, and_true]
  omega
 rw [hR]
 clear hR
 go_enter Try.func83, Try.ntmps83
 go_wp2_with fail
 all_goals
  go_ret
  exact ⟨ret_bool (by simp_all), kp⟩
set_option maxRecDepth 100000 in
set_option maxHeartbeats 4000000 in
theorem plain_2 (c s0 s1 s2 s3 n mn mx : Int) (l : List Nd) (A : Option Addr) (cap : Nat) (w : World) :
  Calls Try.prog 83 #[.agg (Nd.row (.mk ⟨2, c, s0, s1, s2, s3, n, mn, mx⟩ l) (.slice A l.length cap))] w fun e w' => e = .returned (.bool (headOk (.mk ⟨2, c, s0, s1, s2, s3, n, mn, mx⟩ l))) ∧ Keep Nb w w' := by
 rw [Nd.row]
 simp only [Nd.h]
 obtain ⟨p0, q0⟩ : ∃ p, ((l.length : Int) == 0) = p := ⟨_, rfl⟩
 obtain ⟨p1, q1⟩ : ∃ p, ((0 : Int) == c) = p := ⟨_, rfl⟩
 obtain ⟨p2, q2⟩ : ∃ p, setEq 0 0 0 0 s0 s1 s2 s3 = p := ⟨_, rfl⟩
 obtain ⟨p3, q3⟩ : ∃ p, ((0 : Int) == n) = p := ⟨_, rfl⟩
 obtain ⟨p4, q4⟩ : ∃ p, ((0 : Int) == mn) = p := ⟨_, rfl⟩
 obtain ⟨p5, q5⟩ : ∃ p, ((0 : Int) == mx) = p := ⟨_, rfl⟩
 have hR : headOk (.mk ⟨2, c, s0, s1, s2, s3, n, mn, mx⟩ l) = (p0 && p1 && p2 && p3 && p4 && p5) := by
  rw [← q0, ← q1, ← q2, ← q3, ← q4, ← q5, Bool.eq_iff_iff]
  simp only [headOk, neededH, kidsOf, setEq, Nd.h, Nd.l, Hd.mk.injEq, decide_eq_true_eq, Bool.and_eq_true, beq_iff_eq, Int.reduceEq, ↓reduceIte, true_and, and_true]
  omega
 rw [hR]
 clear hR
 go_enter Try.func83, Try.ntmps83
 go_wp2_with fail
 all_goals
  go_ret
  exact ⟨ret_bool (by simp_all), kp⟩
set_option maxRecDepth 100000 in
set_option maxHeartbeats 4000000 in
theorem plain_3 (c s0 s1 s2 s3 n mn mx : Int) (l : List Nd) (A : Option Addr) (cap : Nat) (w : World) :
  Calls Try.prog 83 #[.agg (Nd.row (.mk ⟨3, c, s0, s1, s2, s3, n, mn, mx⟩ l) (.slice A l.length cap))] w fun e w' => e = .returned (.bool (headOk (.mk ⟨3, c, s0, s1, s2, s3, n, mn, mx⟩ l))) ∧ Keep Nb w w' := by
 rw [Nd.row]
 simp only [Nd.h]
 obtain ⟨p0, q0⟩ : ∃ p, ((l.length : Int) == 0) = p := ⟨_, rfl⟩
 obtain ⟨p1, q1⟩ : ∃ p, ((0 : Int) == c) = p := ⟨_, rfl⟩
 obtain ⟨p2, q2⟩ : ∃ p, ((0 : Int) == n) = p := ⟨_, rfl⟩
 obtain ⟨p3, q3⟩ : ∃ p, ((0 : Int) == mn) = p := ⟨_, rfl⟩
 obtain ⟨p4, q4⟩ : ∃ p, ((0 : Int) == mx) = p := ⟨_, rfl⟩
 have hR : headOk (.mk ⟨3, c, s0, s1, s2, s3, n, mn, mx⟩ l) = (p0 && p1 && p2 && p3 && p4) := by
  rw [← q0, ← q1, ← q2, ← q3, ← q4, Bool.eq_iff_iff]
  simp only [headOk, neededH, kidsOf, setEq, Nd.h, Nd.l, Hd.mk.injEq, decide_eq_true_eq, Bool.and_eq_true, beq_iff_eq, Int.reduceEq, ↓reduceIte, true_and, and_true]
  omega
 have qs : setEq s0 s1 s2 s3 s0 s1 s2 s3 = true := by simp [setEq]
 rw [hR]
 clear hR
 go_enter Try.func83, Try.ntmps83
 go_wp2_with fail
 all_goals
  go_ret
  exact ⟨ret_bool (by simp_all), kp⟩
set_option maxRecDepth 100000 in
set_option maxHeartbeats 4000000 in
theorem plain_4 (c s0 s1 s2 s3 n mn mx : Int) (l : List Nd) (A : Option Addr) (cap : Nat) (w : World) :
  Calls Try.prog 83 #[.agg (Nd.row (.mk ⟨4, c, s0, s1, s2, s3, n, mn, mx⟩ l) (.slice A l.length cap))] w fun e w' => e = .returned (.bool (headOk (.mk ⟨4, c, s0, s1, s2, s3, n, mn, mx⟩ l))) ∧ Keep Nb w w' := by
 rw [Nd.row]
 simp only [Nd.h]
 obtain ⟨p0, q0⟩ : ∃ p, ((l.length : Int) == 0) = p := ⟨_, rfl⟩
 obtain ⟨p1, q1⟩ : ∃ p, ((0 : Int) == c) = p := ⟨_, rfl⟩
 obtain ⟨p2, q2⟩ : ∃ p, setEq 0 0 0 0 s0 s1 s2 s3 = p := ⟨_, rfl⟩
 obtain ⟨p3, q3⟩ : ∃ p, ((0 : Int) == n) = p := ⟨_, rfl⟩
 obtain ⟨p4, q4⟩ : ∃ p, ((0 : Int) == mn) = p := ⟨_, rfl⟩
 obtain ⟨p5, q5⟩ : ∃ p, ((0 : Int) == mx) = p := ⟨_, rfl⟩
 have hR : headOk (.mk ⟨4, c, s0, s1, s2, s3, n, mn, mx⟩ l) = (p0 && p1 && p2 && p3 && p4 && p5) := by
  rw [← q0, ← q1, ← q2, ← q3, ← q4, ← q5, Bool.eq_iff_iff]
  simp only [headOk, neededH, kidsOf, setEq, Nd.h, Nd.l, Hd.mk.injEq, decide_eq_true_eq, Bool.and_eq_true, beq_iff_eq, Int.reduceEq, ↓reduceIte, true_and, and_true]
  omega
 rw [hR]
 clear hR
 go_enter Try.func83, Try.ntmps83
 go_wp2_with fail
 all_goals
  go_ret
  exact ⟨ret_bool (by simp_all), kp⟩
set_option maxRecDepth 100000 in
set_option maxHeartbeats 4000000 in
theorem plain_5 (c s0 s1 s2 s3 n mn mx : Int) (l : List Nd) (A : Option Addr) (cap : Nat) (w : World) :
  Calls Try.prog 83 #[.agg (Nd.row (.mk ⟨5, c, s0, s1, s2, s3, n, mn, mx⟩ l) (.slice A l.length cap))] w fun e w' => e = .returned (.bool (headOk (.mk ⟨5, c, s0, s1, s2, s3, n, mn, mx⟩ l))) ∧ Keep Nb w w' := by
 rw [Nd.row]
 simp only [Nd.h]
 obtain ⟨p0, q0⟩ : ∃ p, ((l.length : Int) == 0) = p := ⟨_, rfl⟩
 obtain ⟨p1, q1⟩ : ∃ p, ((0 : Int) == c) = p := ⟨_, rfl⟩
 obtain ⟨p2, q2⟩ : ∃ p, setEq 0 0 0 0 s0 s1 s2 s3 = p := ⟨_, rfl⟩
 obtain ⟨p3, q3⟩ : ∃ p, ((0 : Int) == n) = p := ⟨_, rfl⟩
 obtain ⟨p4, q4⟩ : ∃ p, ((0 : Int) == mn) = p := ⟨_, rfl⟩
 obtain ⟨p5, q5⟩ : ∃ p, ((0 : Int) == mx) = p := ⟨_, rfl⟩
 have hR : headOk (.mk ⟨5, c, s0, s1, s2, s3, n, mn, mx⟩ l) = (p0 && p1 && p2 && p3 && p4 && p5) := by
  rw [← q0, ← q1, ← q2, ← q3, ← q4, ← q5, Bool.eq_iff_iff]
  simp only [headOk, neededH, kidsOf, setEq, Nd.h, Nd.l, Hd.mk.injEq, decide_eq_true_eq, Bool.and_eq_true, beq_iff_eq, Int.reduceEq, ↓reduceIte, true_and, and_true]
  omega
 rw [hR]
 clear hR
 go_enter Try.func83, Try.ntmps83
 go_wp2_with fail
 all_goals
  go_ret
  exact ⟨ret_bool (by simp_all), kp⟩
set_option maxRecDepth 100000 in
set_option maxHeartbeats 4000000 in
theorem plain_6 (c s0 s1 s2 s3 n mn mx : Int) (l : List Nd) (A : Option Addr) (cap : Nat) (w : World) :
  Calls Try.prog 83 #[.agg (Nd.row (.mk ⟨6, c, s0, s1, s2, s3, n, mn, mx⟩ l) (.slice A l.length cap))] w fun e w' => e = .returned (.bool (headOk (.mk ⟨6, c, s0, s1, s2, s3, n, mn, mx⟩ l))) ∧ Keep Nb w w' := by
 rw [Nd.row]
 simp only [Nd.h]
 obtain ⟨p0, q0⟩ : ∃ p, ((l.length : Int) == 1) = p := ⟨_, rfl⟩
 obtain ⟨p1, q1⟩ : ∃ p, ((0 : Int) == c) = p := ⟨_, rfl⟩
 obtain ⟨p2, q2⟩ : ∃ p, setEq 0 0 0 0 s0 s1 s2 s3 = p := ⟨_, rfl⟩
 obtain ⟨p3, q3⟩ : ∃ p, ((0 : Int) == mn) = p := ⟨_, rfl⟩
 obtain ⟨p4, q4⟩ : ∃ p, ((0 : Int) == mx) = p := ⟨_, rfl⟩
 have hR : headOk (.mk ⟨6, c, s0, s1, s2, s3, n, mn, mx⟩ l) = (p0 && p1 && p2 && p3 && p4) := by
  rw [← q0, ← q1, ← q2, ← q3, ← q4, Bool.eq_iff_iff]
  simp only [headOk, neededH, kidsOf, setEq, Nd.h, Nd.l, Hd.mk.injEq, decide_eq_true_eq, Bool.and_eq_true, beq_iff_eq, Int.reduceEq, ↓reduceIte, true_and, and_true]
  omega
 rw [hR]
 clear hR
 go_enter Try.func83, Try.ntmps83
 go_wp2_with fail
 all_goals
  go_ret
  exact ⟨ret_bool (by simp_all), kp⟩
set_option maxRecDepth 100000 in
set_option maxHeartbeats 4000000 in
theorem plain_7 (c s0 s1 s2 s3 n mn mx : Int) (l : List Nd) (A : Option Addr) (cap : Nat) (w : World) :
  Calls Try.prog 83 #[.agg (Nd.row (.mk ⟨7, c, s0, s1, s2, s3, n, mn, mx⟩ l) (.slice A l.length cap))] w fun e w' => e = .returned (.bool (headOk (.mk ⟨7, c, s0, s1, s2, s3, n, mn, mx⟩ l))) ∧ Keep Nb w w' := by
 rw [Nd.row]
 simp only [Nd.h]
 obtain ⟨p0, q0⟩ : ∃ p, ((l.length : Int) == 0) = p := ⟨_, rfl⟩
 obtain ⟨p1, q1⟩ : ∃ p, ((0 : Int) == c) = p := ⟨_, rfl⟩
 obtain ⟨p2, q2⟩ : ∃ p, setEq 0 0 0 0 s0 s1 s2 s3 = p := ⟨_, rfl⟩
 obtain ⟨p3, q3⟩ : ∃ p, ((0 : Int) == mn) = p := ⟨_, rfl⟩
 obtain ⟨p4, q4⟩ : ∃ p, ((0 : Int) == mx) = p := ⟨_, rfl⟩
 have hR : headOk (.mk ⟨7, c, s0, s1, s2, s3, n, mn, mx⟩ l) = (p0 && p1 && p2 && p3 && p4) := by
  rw [← q0, ← q1, ← q2, ← q3, ← q4, Bool.eq_iff_iff]
  simp only [headOk, neededH, kidsOf, setEq, Nd.h, Nd.l, Hd.mk.injEq, decide_eq_true_eq, Bool.and_eq_true, beq_iff_eq, Int.reduceEq, ↓reduceIte, true_and, and_true]
  omega
 rw [hR]
 clear hR
 go_enter Try.func83, Try.ntmps83
 go_wp2_with fail
 all_goals
  go_ret
  exact ⟨ret_bool (by simp_all), kp⟩
set_option maxRecDepth 100000 in
set_option maxHeartbeats 4000000 in
theorem plain_8 (c s0 s1 s2 s3 n mn mx : Int) (l : List Nd) (A : Option Addr) (cap : Nat) (w : World) :
  Calls Try.prog 83 #[.agg (Nd.row (.mk ⟨8, c, s0, s1, s2, s3, n, mn, mx⟩ l) (.slice A l.length cap))] w fun e w' => e = .returned (.bool (headOk (.mk ⟨8, c, s0, s1, s2, s3, n, mn, mx⟩ l))) ∧ Keep Nb w w' := by
 rw [Nd.row]
 simp only [Nd.h]
 obtain ⟨p0, q0⟩ : ∃ p, ((0 : Int) == c) = p := ⟨_, rfl⟩
 obtain ⟨p1, q1⟩ : ∃ p, setEq 0 0 0 0 s0 s1 s2 s3 = p := ⟨_, rfl⟩
 obtain ⟨p2, q2⟩ : ∃ p, ((0 : Int) == n) = p := ⟨_, rfl⟩
 obtain ⟨p3, q3⟩ : ∃ p, ((0 : Int) == mn) = p := ⟨_, rfl⟩
 obtain ⟨p4, q4⟩ : ∃ p, ((0 : Int) == mx) = p := ⟨_, rfl⟩
 have hR : headOk (.mk ⟨8, c, s0, s1, s2, s3, n, mn, mx⟩ l) = (p0 && p1 && p2 && p3 && p4) := by
  rw [← q0, ← q1, ← q2, ← q3, ← q4, Bool.eq_iff_iff]
  simp only [headOk, neededH, kidsOf, setEq, Nd.h, Nd.l, Hd.mk.injEq, decide_eq_true_eq, Bool.and_eq_true, beq_iff_eq, Int.reduceEq, ↓reduceIte, true_and, and_true]
  omega
 rw [hR]
 clear hR
 go_enter Try.func83, Try.ntmps83
 go_wp2_with fail
 all_goals
  go_ret
  exact ⟨ret_bool (by simp_all), kp⟩
set_option maxRecDepth 100000 in
set_option maxHeartbeats 4000000 in
theorem plain_9 (c s0 s1 s2 s3 n mn mx : Int) (l : List Nd) (A : Option Addr) (cap : Nat) (w : World) :
  Calls Try.prog 83 #[.agg (Nd.row (.mk ⟨9, c, s0, s1, s2, s3, n, mn, mx⟩ l) (.slice A l.length cap))] w fun e w' => e = .returned (.bool (headOk (.mk ⟨9, c, s0, s1, s2, s3, n, mn, mx⟩ l))) ∧ Keep Nb w w' := by
 rw [Nd.row]
 simp only [Nd.h]
 obtain ⟨p0, q0⟩ : ∃ p, ((0 : Int) == c) = p := ⟨_, rfl⟩
 obtain ⟨p1, q1⟩ : ∃ p, setEq 0 0 0 0 s0 s1 s2 s3 = p := ⟨_, rfl⟩
 obtain ⟨p2, q2⟩ : ∃ p, ((0 : Int) == n) = p := ⟨_, rfl⟩
 obtain ⟨p3, q3⟩ : ∃ p, ((0 : Int) == mn) = p := ⟨_, rfl⟩
 obtain ⟨p4, q4⟩ : ∃ p, ((0 : Int) == mx) = p := ⟨_, rfl⟩
 have hR : headOk (.mk ⟨9, c, s0, s1, s2, s3, n, mn, mx⟩ l) = (p0 && p1 && p2 && p3 && p4) := by
  rw [← q0, ← q1, ← q2, ← q3, ← q4, Bool.eq_iff_iff]
  simp only [headOk, neededH, kidsOf, setEq, Nd.h, Nd.l, Hd.mk.injEq, decide_eq_true_eq, Bool.and_eq_true, beq_iff_eq, Int.reduceEq, ↓reduceIte, true_and, and_true]
  omega
 rw [hR]
 clear hR
 go_enter Try.func83, Try.ntmps83
 go_wp2_with fail
 all_goals
  go_ret
  exact ⟨ret_bool (by simp_all), kp⟩
set_option maxRecDepth 100000 in
set_option maxHeartbeats 4000000 in
theorem plain_10 (c s0 s1 s2 s3 n mn mx : Int) (l : List Nd) (A : Option Addr) (cap : Nat) (w : World) :
  Calls Try.prog 83 #[.agg (Nd.row (.mk ⟨10, c, s0, s1, s2, s3, n, mn, mx⟩ l) (.slice A l.length cap))] w fun e w' => e = .returned (.bool (headOk (.mk ⟨10, c, s0, s1, s2, s3, n, mn, mx⟩ l))) ∧ Keep Nb w w' := by
 rw [Nd.row]
 simp only [Nd.h]
 obtain ⟨p0, q0⟩ : ∃ p, ((l.length : Int) == 1) = p := ⟨_, rfl⟩
 obtain ⟨p1, q1⟩ : ∃ p, ((0 : Int) == c) = p := ⟨_, rfl⟩
 obtain ⟨p2, q2⟩ : ∃ p, setEq 0 0 0 0 s0 s1 s2 s3 = p := ⟨_, rfl⟩
 obtain ⟨p3, q3⟩ : ∃ p, ((0 : Int) == n) = p := ⟨_, rfl⟩
 have hR : headOk (.mk ⟨10, c, s0, s1, s2, s3, n, mn, mx⟩ l) = (p0 && p1 && p2 && p3) := by
  rw [← q0, ← q1, ← q2, ← q3, Bool.eq_iff_iff]
  simp only [headOk, neededH, kidsOf, setEq, Nd.h, Nd.l, Hd.mk.injEq, decide_eq_true_eq, Bool.and_eq_true, beq_iff_eq, Int.reduceEq, ↓reduceIte, true_and, and_true]
  omega
 rw [hR]
 clear hR
 go_enter Try.func83, Try.ntmps83
 go_wp2_with fail
 (refine wp_region_f [7, 8] (InX (Ob (w.heap.size + 1)) _) (by kernel_rfl) (InX.mk (Keep.drew (Keep.refl _ _))) (fun hI => ?_))
 have x0 : ¬ Ob (w.heap.size + 1) w.heap.size := by simp only [Ob]; omega
 (refine wpI_from 0 ?_; (iterate 5 ((first | (refine wpI_take (v := ?_) rfl (by kernel_rfl) (fun _ _ _ h => h) hI rfl ?_ ?_; rotate_left; (focus (rintro _ ⟨E, rfl⟩; go_simp; (try with_reducible rfl)))) | refine wpI_skip rfl (by kernel_rfl) (fun _ _ _ h => h) hI rfl ?_); simp only [Act.put, tk, Nat.reduceAdd])); refine wpI_till ?_)
 (refine wpF_one 5 rfl (by kernel_rfl) rfl (fun K hK => ?_))
 go_simp
 (refine hK _ _ (fun _ => InX.mk (Keep.drew (Keep.relit (by simp) _ _))) (fun hI => ?_); have hI := hI (by simp); clear hK K; try simp only [Act.put, tk])
 (refine wpF_take2 (v := ?_) 6 rfl (by kernel_rfl) (fun _ _ _ h => h) hI rfl ?_ ?_; rotate_left; (focus (rintro _ ⟨E, rfl⟩; go_simp; (try with_reducible rfl))); simp only [Act.put, tk])
 (refine wpF_one 7 rfl (by kernel_rfl) rfl (fun K hK => ?_))
 go_simp
 (refine hK _ _ (fun h => absurd (by simp) h) (fun _ => ?_); clear hK K; try simp only [Act.put, tk])
 (refine wpF_one 8 rfl (by kernel_rfl) rfl (fun K hK => ?_))
 go_simp
 (refine hK _ _ (fun h => absurd (by simp) h) (fun _ => ?_); clear hK K; try simp only [Act.put, tk])
 (refine wpF_done (by kernel_rfl) ?_ _)
 go_wp2_with fail
 all_goals
  go_ret
  exact ⟨ret_bool (by simp_all), kp⟩
set_option maxRecDepth 100000 in
set_option maxHeartbeats 4000000 in
theorem plain_no (k c s0 s1 s2 s3 n mn mx : Int) (hk : k < 1 ∨ 10 < k) (l : List Nd) (A : Option Addr) (cap : Nat) (w : World) :
  Calls Try.prog 83 #[.agg (Nd.row (.mk ⟨k, c, s0, s1, s2, s3, n, mn, mx⟩ l) (.slice A l.length cap))] w fun e w' => e = .returned (.bool (headOk (.mk ⟨k, c, s0, s1, s2, s3, n, mn, mx⟩ l))) ∧ Keep Nb w w' := by
 rw [Nd.row]
 simp only [Nd.h]
 have b1 : (k == 1) = false := beq_eq_false_iff_ne.2 (by omega)
 have b2 : (k == 2) = false := beq_eq_false_iff_ne.2 (by omega)
 have b4 : (k == 4) = false := beq_eq_false_iff_ne.2 (by omega)
 have b5 : (k == 5) = false := beq_eq_false_iff_ne.2 (by omega)
 have b3 : (k == 3) = false := beq_eq_false_iff_ne.2 (by omega)
 have b6 : (k == 6) = false := beq_eq_false_iff_ne.2 (by omega)
 have b7 : (k == 7) = false := beq_eq_false_iff_ne.2 (by omega)
 have b8 : (k == 8) = false := beq_eq_false_iff_ne.2 (by omega)
 have b9 : (k == 9) = false := beq_eq_false_iff_ne.2 (by omega)
 have b10 : (k == 10) = false := beq_eq_false_iff_ne.2 (by omega)
 have hR : headOk (.mk ⟨k, c, s0, s1, s2, s3, n, mn, mx⟩ l) = false := decide_eq_false_iff_not.2 fun h => by have h1 := h.1; have h2 := h.2.1; simp only [Nd.h] at h1 h2; omega
 rw [hR]
 clear hR hk
 go_enter Try.func83, Try.ntmps83
 go_wp2_with fail
 go_ret
 exact ⟨rfl, kp⟩
theorem plain_any (T : Nd) (v : Value) (w : World) (hl : Lies w T v) :
  Calls Try.prog 83 #[.agg (Nd.row T v)] w fun e w' => e = .returned (.bool (headOk T)) ∧ Keep Nb w w' := by
 obtain ⟨⟨k, c, s0, s1, s2, s3, n, mn, mx⟩, l⟩ := T
 rw [Lies_mk] at hl
 obtain ⟨A, cap, rfl, _⟩ := hl
 by_cases hk : k < 1 ∨ 10 < k
 ·exact plain_no k c s0 s1 s2 s3 n mn mx hk l A cap w
 obtain h | h | h | h | h | h | h | h | h | h : k = 1 ∨ k = 2 ∨ k = 3 ∨ k = 4 ∨ k = 5 ∨ k = 6 ∨ k = 7 ∨ k = 8 ∨ k = 9 ∨ k = 10 := by omega
 ·subst h; exact plain_1 c s0 s1 s2 s3 n mn mx l A cap w
 ·subst h; exact plain_2 c s0 s1 s2 s3 n mn mx l A cap w
 ·subst h; exact plain_3 c s0 s1 s2 s3 n mn mx l A cap w
 ·subst h; exact plain_4 c s0 s1 s2 s3 n mn mx l A cap w
 ·subst h; exact plain_5 c s0 s1 s2 s3 n mn mx l A cap w
 ·subst h; exact plain_6 c s0 s1 s2 s3 n mn mx l A cap w
 ·subst h; exact plain_7 c s0 s1 s2 s3 n mn mx l A cap w
 ·subst h; exact plain_8 c s0 s1 s2 s3 n mn mx l A cap w
 ·subst h; exact plain_9 c s0 s1 s2 s3 n mn mx l A cap w
 ·subst h; exact plain_10 c s0 s1 s2 s3 n mn mx l A cap w
def boolRow (E : Nat → Bool) : Array Value := #[.bool (E 0), .bool (E 1), .bool (E 2), .bool (E 3), .bool (E 4), .bool (E 5), .bool (E 6), .bool (E 7), .bool (E 8), .bool (E 9)]
theorem size47 : (Try.prog.info? 47).map (·.size) = some 10 := by kernel_rfl
theorem results_tct {P : Program} {fn : Func} {t p u : Tmp} {ty : TypeId} (h : fn.results = #[.tmp t, .cell p ty, .tmp u]) (tmps : Array Value) (w : World) (g : Nat) (tt : TypeId) (cs : Array Value) (fr : Nat × Nat) (d : TypeDesc)
  (hp : tmps.getD p undef = .pointer (some ⟨g, 0, none⟩)) (hg : w.heap[g]? = some (.cells cs tt fr))
  (hu : P.underlying ty = some d) (hd : (match d with | .struct _ | .array _ _ => true | _ => false) = true) (hi : (P.info? ty).map (·.size) = some cs.size) :
  (results fn tmps).run P w = .ok (.tuple #[tmps.getD t undef, .agg cs, tmps.getD u undef]) w := by
 have e1 : Sem.run P (asAddr (tmps[p]?.getD undef)) w = .ok ⟨g, 0, none⟩ w := by rw [← Array.getD_eq_getD_getElem?, hp]; rfl
 have e2 := run_loadVar_row w g tt ty cs fr d hg hu hd hi
 simp only [results, h]
 simp [Sem.run_bind, Result.andThen, e1, e2]
end Go.Proofs.Ytkidjbfapldmbaa
