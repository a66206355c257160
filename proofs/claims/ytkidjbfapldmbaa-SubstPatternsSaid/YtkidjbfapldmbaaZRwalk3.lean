import Derived.Test.YtkidjbfapldmbaaZRwalk0
import Derived.Test.YtkidjbfapldmbaaZFormed
import Derived.Deep.DeepCutAuto
set_option linter.unusedVariables false
set_option linter.unusedSimpArgs false
namespace Go.Proofs.Ytkidjbfapldmbaa
open Go.RowKit P8
set_option maxRecDepth 100000 in
set_option maxHeartbeats 1000000 in
theorem rwalk_10f (T : Nd) (s : Chk) (cap b off : Nat) (hk : T.h.k = 10) (w : World) (x0 : Nd) (S0 : Value) (hten : Ten w b off x0 S0) (hl0 : (0 : Int) < (T.l.length : Int)) (p0 : decide (T.h.mn < 0) = false) (p1 : decide (255 < T.h.mn) = false) (p2 : (T.h.mx != -1) = false) (p5 : (x0.h.k == 4) = false) (p6 : (x0.h.k == 5) = true) (hl : Lies w T (.slice (some ⟨b, off, none⟩) T.l.length cap))
  (HP : Hid (∀ wx, Lies wx T (.slice (some ⟨b, off, none⟩) T.l.length cap) → Calls Try.prog 83 #[.agg (Nd.row T (.slice (some ⟨b, off, none⟩) T.l.length cap))] wx fun e w' => e = .returned (.bool true) ∧ Keep Nb wx w')) :
  Calls Try.prog 64 #[.agg (Nd.row T (.slice (some ⟨b, off, none⟩) T.l.length cap)), .int .i64 s.g, .agg (boolRow s.E)] w fun e w' => ∃ s' : Chk, e = .returned (.tuple #[.int .i64 s'.g, .agg (boolRow s'.E), .bool false]) ∧ Keep Nb w w' := by
 have m6 : (T.h.k == 6) = false := by rw [hk]; rfl
 have m7 : (T.h.k == 7) = false := by rw [hk]; rfl
 have m8 : (T.h.k == 8) = false := by rw [hk]; rfl
 have m9 : (T.h.k == 9) = false := by rw [hk]; rfl
 have m10 : (T.h.k == 10) = true := by rw [hk]; rfl
 clear hk
 simp only [Nd.row, boolRow]
 go_enter Try.func64, Try.ntmps64
 go_wp2_with fail
 refine (HP.out _ (Lies_keep kp hl)).mono ?_
 rintro e w2 ⟨rfl, hk2⟩
 have hkw : Keep Nb w w2 := Keep.trans kp hk2 (fun _ _ h => h)
 have hX : Blk w2 w.heap.size (Nd.row T (.slice (some ⟨b, off, none⟩) T.l.length cap)) 27 := (((Blk.new w _ _).alloc _).alloc _).keep hk2 id
 have hD : Blk w2 (w.heap.size + 1) (boolRow s.E) 47 := ((Blk.new' (by simp) _ _).alloc _).keep hk2 id
 have hZ : Blk w2 (w.heap.size + 2) (boolRow fun _ => false) 47 := (Blk.new' (by simp) _ _).keep hk2 id
 (have o0 := Blk.cell hX 0 (u := .int .i64 T.h.k) rfl; have o1 := Blk.cell hX 1 (u := .int .u8 T.h.c) rfl; have o2 := Blk.cell hX 2 (u := .int .u64 T.h.s0) rfl; have o3 := Blk.cell hX 3 (u := .int .u64 T.h.s1) rfl; have o4 := Blk.cell hX 4 (u := .int .u64 T.h.s2) rfl; have o5 := Blk.cell hX 5 (u := .int .u64 T.h.s3) rfl; have o6 := Blk.cell hX 6 (u := .int .i64 T.h.n) rfl; have o7 := Blk.cell hX 7 (u := .int .i64 T.h.mn) rfl; have o8 := Blk.cell hX 8 (u := .int .i64 T.h.mx) rfl; have o9 := Blk.cell hX 9 (u := (.slice (some ⟨b, off, none⟩) T.l.length cap)) rfl)
 (have d0 := Blk.cell hD 0 (u := .bool (s.E 0)) rfl; have d1 := Blk.cell hD 1 (u := .bool (s.E 1)) rfl; have d2 := Blk.cell hD 2 (u := .bool (s.E 2)) rfl; have d3 := Blk.cell hD 3 (u := .bool (s.E 3)) rfl; have d4 := Blk.cell hD 4 (u := .bool (s.E 4)) rfl; have d5 := Blk.cell hD 5 (u := .bool (s.E 5)) rfl; have d6 := Blk.cell hD 6 (u := .bool (s.E 6)) rfl; have d7 := Blk.cell hD 7 (u := .bool (s.E 7)) rfl; have d8 := Blk.cell hD 8 (u := .bool (s.E 8)) rfl; have d9 := Blk.cell hD 9 (u := .bool (s.E 9)) rfl)
 have sX := hX.lt
 have sD := hD.lt
 have sZ := hZ.lt
 clear hk2
 have q0 := (hten.keep hkw).c0
 have ql := (hten.keep hkw).lt
 go_wp2_with fail
 (refine wp_region_f [3, 4] (InX (Ob (w.heap.size + 2)) _) (by kernel_rfl) (InX.mk (Keep.drew (Keep.refl _ _))) (fun hI => ?_))
 have x1 : ¬ Ob (w.heap.size + 2) (w.heap.size + 1) := by simp only [Ob]; omega
 (refine wpI_from 0 ?_; (iterate 3 ((first | (refine wpI_take (v := ?_) rfl (by kernel_rfl) (fun _ _ _ h => h) hI rfl ?_ ?_; rotate_left; (focus (rintro _ ⟨E, rfl⟩; go_simp; (try with_reducible rfl)))) | refine wpI_skip rfl (by kernel_rfl) (fun _ _ _ h => h) hI rfl ?_); simp only [Act.put, tk, Nat.reduceAdd])); refine wpI_till ?_)
 (refine wpF_one 3 rfl (by kernel_rfl) rfl (fun K hK => ?_))
 refine wp_store_row 47 (.tmp 7) (.tmp 113) rfl (w.heap.size + 2) _ rfl rfl 47 _ (hZ.drew) size47 rfl (by simp [Value.oneCell']) ?_
 (refine hK _ _ (fun h => absurd (by simp) h) (fun _ => ?_); clear hK K; try simp only [Act.put, tk])
 (refine wpF_one 4 rfl (by kernel_rfl) rfl (fun K hK => ?_))
 go_simp
 (refine hK _ _ (fun h => absurd (by simp) h) (fun _ => ?_); clear hK K; try simp only [Act.put, tk])
 (refine wpF_done (by kernel_rfl) ?_ _)
 go_wp2_with fail
 refine bodyPost_ret (results_tct Try.results64 _ _ (w.heap.size + 2) 47 _ (0, 0) _ rfl ((hZ.drew).setRow _) Try.underlying47 rfl size47) rfl ?_
 refine ⟨⟨s.g, s.E⟩, ?_, Keep.setRow (Keep.drew hkw) (Or.inl (Nat.le_add_right _ _)) _⟩
 go_simp
set_option maxRecDepth 100000 in
set_option maxHeartbeats 1000000 in
theorem rwalk_10g (T : Nd) (s : Chk) (cap b off : Nat) (hk : T.h.k = 10) (w : World) (x0 : Nd) (S0 : Value) (hten : Ten w b off x0 S0) (hl0 : (0 : Int) < (T.l.length : Int)) (p0 : decide (T.h.mn < 0) = false) (p1 : decide (255 < T.h.mn) = false) (p2 : (T.h.mx != -1) = false) (p5 : (x0.h.k == 4) = false) (p6 : (x0.h.k == 5) = false) (p7 : (x0.h.k == 10) = true) (hl : Lies w T (.slice (some ⟨b, off, none⟩) T.l.length cap))
  (HP : Hid (∀ wx, Lies wx T (.slice (some ⟨b, off, none⟩) T.l.length cap) → Calls Try.prog 83 #[.agg (Nd.row T (.slice (some ⟨b, off, none⟩) T.l.length cap))] wx fun e w' => e = .returned (.bool true) ∧ Keep Nb wx w')) :
  Calls Try.prog 64 #[.agg (Nd.row T (.slice (some ⟨b, off, none⟩) T.l.length cap)), .int .i64 s.g, .agg (boolRow s.E)] w fun e w' => ∃ s' : Chk, e = .returned (.tuple #[.int .i64 s'.g, .agg (boolRow s'.E), .bool false]) ∧ Keep Nb w w' := by
 have m6 : (T.h.k == 6) = false := by rw [hk]; rfl
 have m7 : (T.h.k == 7) = false := by rw [hk]; rfl
 have m8 : (T.h.k == 8) = false := by rw [hk]; rfl
 have m9 : (T.h.k == 9) = false := by rw [hk]; rfl
 have m10 : (T.h.k == 10) = true := by rw [hk]; rfl
 clear hk
 simp only [Nd.row, boolRow]
 go_enter Try.func64, Try.ntmps64
 go_wp2_with fail
 refine (HP.out _ (Lies_keep kp hl)).mono ?_
 rintro e w2 ⟨rfl, hk2⟩
 have hkw : Keep Nb w w2 := Keep.trans kp hk2 (fun _ _ h => h)
 have hX : Blk w2 w.heap.size (Nd.row T (.slice (some ⟨b, off, none⟩) T.l.length cap)) 27 := (((Blk.new w _ _).alloc _).alloc _).keep hk2 id
 have hD : Blk w2 (w.heap.size + 1) (boolRow s.E) 47 := ((Blk.new' (by simp) _ _).alloc _).keep hk2 id
 have hZ : Blk w2 (w.heap.size + 2) (boolRow fun _ => false) 47 := (Blk.new' (by simp) _ _).keep hk2 id
 (have o0 := Blk.cell hX 0 (u := .int .i64 T.h.k) rfl; have o1 := Blk.cell hX 1 (u := .int .u8 T.h.c) rfl; have o2 := Blk.cell hX 2 (u := .int .u64 T.h.s0) rfl; have o3 := Blk.cell hX 3 (u := .int .u64 T.h.s1) rfl; have o4 := Blk.cell hX 4 (u := .int .u64 T.h.s2) rfl; have o5 := Blk.cell hX 5 (u := .int .u64 T.h.s3) rfl; have o6 := Blk.cell hX 6 (u := .int .i64 T.h.n) rfl; have o7 := Blk.cell hX 7 (u := .int .i64 T.h.mn) rfl; have o8 := Blk.cell hX 8 (u := .int .i64 T.h.mx) rfl; have o9 := Blk.cell hX 9 (u := (.slice (some ⟨b, off, none⟩) T.l.length cap)) rfl)
 (have d0 := Blk.cell hD 0 (u := .bool (s.E 0)) rfl; have d1 := Blk.cell hD 1 (u := .bool (s.E 1)) rfl; have d2 := Blk.cell hD 2 (u := .bool (s.E 2)) rfl; have d3 := Blk.cell hD 3 (u := .bool (s.E 3)) rfl; have d4 := Blk.cell hD 4 (u := .bool (s.E 4)) rfl; have d5 := Blk.cell hD 5 (u := .bool (s.E 5)) rfl; have d6 := Blk.cell hD 6 (u := .bool (s.E 6)) rfl; have d7 := Blk.cell hD 7 (u := .bool (s.E 7)) rfl; have d8 := Blk.cell hD 8 (u := .bool (s.E 8)) rfl; have d9 := Blk.cell hD 9 (u := .bool (s.E 9)) rfl)
 have sX := hX.lt
 have sD := hD.lt
 have sZ := hZ.lt
 clear hk2
 have q0 := (hten.keep hkw).c0
 have ql := (hten.keep hkw).lt
 go_wp2_with fail
 (refine wp_region_f [3, 4] (InX (Ob (w.heap.size + 2)) _) (by kernel_rfl) (InX.mk (Keep.drew (Keep.refl _ _))) (fun hI => ?_))
 have x1 : ¬ Ob (w.heap.size + 2) (w.heap.size + 1) := by simp only [Ob]; omega
 (refine wpI_from 0 ?_; (iterate 3 ((first | (refine wpI_take (v := ?_) rfl (by kernel_rfl) (fun _ _ _ h => h) hI rfl ?_ ?_; rotate_left; (focus (rintro _ ⟨E, rfl⟩; go_simp; (try with_reducible rfl)))) | refine wpI_skip rfl (by kernel_rfl) (fun _ _ _ h => h) hI rfl ?_); simp only [Act.put, tk, Nat.reduceAdd])); refine wpI_till ?_)
 (refine wpF_one 3 rfl (by kernel_rfl) rfl (fun K hK => ?_))
 refine wp_store_row 47 (.tmp 7) (.tmp 113) rfl (w.heap.size + 2) _ rfl rfl 47 _ (hZ.drew) size47 rfl (by simp [Value.oneCell']) ?_
 (refine hK _ _ (fun h => absurd (by simp) h) (fun _ => ?_); clear hK K; try simp only [Act.put, tk])
 (refine wpF_one 4 rfl (by kernel_rfl) rfl (fun K hK => ?_))
 go_simp
 (refine hK _ _ (fun h => absurd (by simp) h) (fun _ => ?_); clear hK K; try simp only [Act.put, tk])
 (refine wpF_done (by kernel_rfl) ?_ _)
 go_wp2_with fail
 refine bodyPost_ret (results_tct Try.results64 _ _ (w.heap.size + 2) 47 _ (0, 0) _ rfl ((hZ.drew).setRow _) Try.underlying47 rfl size47) rfl ?_
 refine ⟨⟨s.g, s.E⟩, ?_, Keep.setRow (Keep.drew hkw) (Or.inl (Nat.le_add_right _ _)) _⟩
 go_simp
set_option maxRecDepth 100000 in
set_option maxHeartbeats 1000000 in
theorem rwalk_10h (T : Nd) (s : Chk) (cap b off : Nat) (hk : T.h.k = 10) (w : World) (x0 : Nd) (S0 : Value) (hten : Ten w b off x0 S0) (hl0 : (0 : Int) < (T.l.length : Int)) (p0 : decide (T.h.mn < 0) = false) (p1 : decide (255 < T.h.mn) = false) (p2 : (T.h.mx != -1) = true) (p3 : decide (T.h.mx < T.h.mn) = false) (p4 : decide (255 < T.h.mx) = false) (p5 : (x0.h.k == 4) = true) (hl : Lies w T (.slice (some ⟨b, off, none⟩) T.l.length cap))
  (HP : Hid (∀ wx, Lies wx T (.slice (some ⟨b, off, none⟩) T.l.length cap) → Calls Try.prog 83 #[.agg (Nd.row T (.slice (some ⟨b, off, none⟩) T.l.length cap))] wx fun e w' => e = .returned (.bool true) ∧ Keep Nb wx w')) :
  Calls Try.prog 64 #[.agg (Nd.row T (.slice (some ⟨b, off, none⟩) T.l.length cap)), .int .i64 s.g, .agg (boolRow s.E)] w fun e w' => ∃ s' : Chk, e = .returned (.tuple #[.int .i64 s'.g, .agg (boolRow s'.E), .bool false]) ∧ Keep Nb w w' := by
 have m6 : (T.h.k == 6) = false := by rw [hk]; rfl
 have m7 : (T.h.k == 7) = false := by rw [hk]; rfl
 have m8 : (T.h.k == 8) = false := by rw [hk]; rfl
 have m9 : (T.h.k == 9) = false := by rw [hk]; rfl
 have m10 : (T.h.k == 10) = true := by rw [hk]; rfl
 clear hk
 simp only [Nd.row, boolRow]
 go_enter Try.func64, Try.ntmps64
 go_wp2_with fail
 refine (HP.out _ (Lies_keep kp hl)).mono ?_
 rintro e w2 ⟨rfl, hk2⟩
 have hkw : Keep Nb w w2 := Keep.trans kp hk2 (fun _ _ h => h)
 have hX : Blk w2 w.heap.size (Nd.row T (.slice (some ⟨b, off, none⟩) T.l.length cap)) 27 := (((Blk.new w _ _).alloc _).alloc _).keep hk2 id
 have hD : Blk w2 (w.heap.size + 1) (boolRow s.E) 47 := ((Blk.new' (by simp) _ _).alloc _).keep hk2 id
 have hZ : Blk w2 (w.heap.size + 2) (boolRow fun _ => false) 47 := (Blk.new' (by simp) _ _).keep hk2 id
 (have o0 := Blk.cell hX 0 (u := .int .i64 T.h.k) rfl; have o1 := Blk.cell hX 1 (u := .int .u8 T.h.c) rfl; have o2 := Blk.cell hX 2 (u := .int .u64 T.h.s0) rfl; have o3 := Blk.cell hX 3 (u := .int .u64 T.h.s1) rfl; have o4 := Blk.cell hX 4 (u := .int .u64 T.h.s2) rfl; have o5 := Blk.cell hX 5 (u := .int .u64 T.h.s3) rfl; have o6 := Blk.cell hX 6 (u := .int .i64 T.h.n) rfl; have o7 := Blk.cell hX 7 (u := .int .i64 T.h.mn) rfl; have o8 := Blk.cell hX 8 (u := .int .i64 T.h.mx) rfl; have o9 := Blk.cell hX 9 (u := (.slice (some ⟨b, off, none⟩) T.l.length cap)) rfl)
 (have d0 := Blk.cell hD 0 (u := .bool (s.E 0)) rfl; have d1 := Blk.cell hD 1 (u := .bool (s.E 1)) rfl; have d2 := Blk.cell hD 2 (u := .bool (s.E 2)) rfl; have d3 := Blk.cell hD 3 (u := .bool (s.E 3)) rfl; have d4 := Blk.cell hD 4 (u := .bool (s.E 4)) rfl; have d5 := Blk.cell hD 5 (u := .bool (s.E 5)) rfl; have d6 := Blk.cell hD 6 (u := .bool (s.E 6)) rfl; have d7 := Blk.cell hD 7 (u := .bool (s.E 7)) rfl; have d8 := Blk.cell hD 8 (u := .bool (s.E 8)) rfl; have d9 := Blk.cell hD 9 (u := .bool (s.E 9)) rfl)
 have sX := hX.lt
 have sD := hD.lt
 have sZ := hZ.lt
 clear hk2
 have q0 := (hten.keep hkw).c0
 have ql := (hten.keep hkw).lt
 go_wp2_with fail
 (refine wp_region_f [3, 4] (InX (Ob (w.heap.size + 2)) _) (by kernel_rfl) (InX.mk (Keep.drew (Keep.refl _ _))) (fun hI => ?_))
 have x1 : ¬ Ob (w.heap.size + 2) (w.heap.size + 1) := by simp only [Ob]; omega
 (refine wpI_from 0 ?_; (iterate 3 ((first | (refine wpI_take (v := ?_) rfl (by kernel_rfl) (fun _ _ _ h => h) hI rfl ?_ ?_; rotate_left; (focus (rintro _ ⟨E, rfl⟩; go_simp; (try with_reducible rfl)))) | refine wpI_skip rfl (by kernel_rfl) (fun _ _ _ h => h) hI rfl ?_); simp only [Act.put, tk, Nat.reduceAdd])); refine wpI_till ?_)
 (refine wpF_one 3 rfl (by kernel_rfl) rfl (fun K hK => ?_))
 refine wp_store_row 47 (.tmp 7) (.tmp 113) rfl (w.heap.size + 2) _ rfl rfl 47 _ (hZ.drew) size47 rfl (by simp [Value.oneCell']) ?_
 (refine hK _ _ (fun h => absurd (by simp) h) (fun _ => ?_); clear hK K; try simp only [Act.put, tk])
 (refine wpF_one 4 rfl (by kernel_rfl) rfl (fun K hK => ?_))
 go_simp
 (refine hK _ _ (fun h => absurd (by simp) h) (fun _ => ?_); clear hK K; try simp only [Act.put, tk])
 (refine wpF_done (by kernel_rfl) ?_ _)
 go_wp2_with fail
 refine bodyPost_ret (results_tct Try.results64 _ _ (w.heap.size + 2) 47 _ (0, 0) _ rfl ((hZ.drew).setRow _) Try.underlying47 rfl size47) rfl ?_
 refine ⟨⟨s.g, s.E⟩, ?_, Keep.setRow (Keep.drew hkw) (Or.inl (Nat.le_add_right _ _)) _⟩
 go_simp
set_option maxRecDepth 100000 in
set_option maxHeartbeats 1000000 in
theorem rwalk_10i (T : Nd) (s : Chk) (cap b off : Nat) (hk : T.h.k = 10) (w : World) (x0 : Nd) (S0 : Value) (hten : Ten w b off x0 S0) (hl0 : (0 : Int) < (T.l.length : Int)) (p0 : decide (T.h.mn < 0) = false) (p1 : decide (255 < T.h.mn) = false) (p2 : (T.h.mx != -1) = true) (p3 : decide (T.h.mx < T.h.mn) = false) (p4 : decide (255 < T.h.mx) = false) (p5 : (x0.h.k == 4) = false) (p6 : (x0.h.k == 5) = true) (hl : Lies w T (.slice (some ⟨b, off, none⟩) T.l.length cap))
  (HP : Hid (∀ wx, Lies wx T (.slice (some ⟨b, off, none⟩) T.l.length cap) → Calls Try.prog 83 #[.agg (Nd.row T (.slice (some ⟨b, off, none⟩) T.l.length cap))] wx fun e w' => e = .returned (.bool true) ∧ Keep Nb wx w')) :
  Calls Try.prog 64 #[.agg (Nd.row T (.slice (some ⟨b, off, none⟩) T.l.length cap)), .int .i64 s.g, .agg (boolRow s.E)] w fun e w' => ∃ s' : Chk, e = .returned (.tuple #[.int .i64 s'.g, .agg (boolRow s'.E), .bool false]) ∧ Keep Nb w w' := by
 have m6 : (T.h.k == 6) = false := by rw [hk]; rfl
 have m7 : (T.h.k == 7) = false := by rw [hk]; rfl
 have m8 : (T.h.k == 8) = false := by rw [hk]; rfl
 have m9 : (T.h.k == 9) = false := by rw [hk]; rfl
 have m10 : (T.h.k == 10) = true := by rw [hk]; rfl
 clear hk
 simp only [Nd.row, boolRow]
 go_enter Try.func64, Try.ntmps64
 go_wp2_with fail
 refine (HP.out _ (Lies_keep kp hl)).mono ?_
 rintro e w2 ⟨rfl, hk2⟩
 have hkw : Keep Nb w w2 := Keep.trans kp hk2 (fun _ _ h => h)
 have hX : Blk w2 w.heap.size (Nd.row T (.slice (some ⟨b, off, none⟩) T.l.length cap)) 27 := (((Blk.new w _ _).alloc _).alloc _).keep hk2 id
 have hD : Blk w2 (w.heap.size + 1) (boolRow s.E) 47 := ((Blk.new' (by simp) _ _).alloc _).keep hk2 id
 have hZ : Blk w2 (w.heap.size + 2) (boolRow fun _ => false) 47 := (Blk.new' (by simp) _ _).keep hk2 id
 (have o0 := Blk.cell hX 0 (u := .int .i64 T.h.k) rfl; have o1 := Blk.cell hX 1 (u := .int .u8 T.h.c) rfl; have o2 := Blk.cell hX 2 (u := .int .u64 T.h.s0) rfl; have o3 := Blk.cell hX 3 (u := .int .u64 T.h.s1) rfl; have o4 := Blk.cell hX 4 (u := .int .u64 T.h.s2) rfl; have o5 := Blk.cell hX 5 (u := .int .u64 T.h.s3) rfl; have o6 := Blk.cell hX 6 (u := .int .i64 T.h.n) rfl; have o7 := Blk.cell hX 7 (u := .int .i64 T.h.mn) rfl; have o8 := Blk.cell hX 8 (u := .int .i64 T.h.mx) rfl; have o9 := Blk.cell hX 9 (u := (.slice (some ⟨b, off, none⟩) T.l.length cap)) rfl)
 (have d0 := Blk.cell hD 0 (u := .bool (s.E 0)) rfl; have d1 := Blk.cell hD 1 (u := .bool (s.E 1)) rfl; have d2 := Blk.cell hD 2 (u := .bool (s.E 2)) rfl; have d3 := Blk.cell hD 3 (u := .bool (s.E 3)) rfl; have d4 := Blk.cell hD 4 (u := .bool (s.E 4)) rfl; have d5 := Blk.cell hD 5 (u := .bool (s.E 5)) rfl; have d6 := Blk.cell hD 6 (u := .bool (s.E 6)) rfl; have d7 := Blk.cell hD 7 (u := .bool (s.E 7)) rfl; have d8 := Blk.cell hD 8 (u := .bool (s.E 8)) rfl; have d9 := Blk.cell hD 9 (u := .bool (s.E 9)) rfl)
 have sX := hX.lt
 have sD := hD.lt
 have sZ := hZ.lt
 clear hk2
 have q0 := (hten.keep hkw).c0
 have ql := (hten.keep hkw).lt
 go_wp2_with fail
 (refine wp_region_f [3, 4] (InX (Ob (w.heap.size + 2)) _) (by kernel_rfl) (InX.mk (Keep.drew (Keep.refl _ _))) (fun hI => ?_))
 have x1 : ¬ Ob (w.heap.size + 2) (w.heap.size + 1) := by simp only [Ob]; omega
 (refine wpI_from 0 ?_; (iterate 3 ((first | (refine wpI_take (v := ?_) rfl (by kernel_rfl) (fun _ _ _ h => h) hI rfl ?_ ?_; rotate_left; (focus (rintro _ ⟨E, rfl⟩; go_simp; (try with_reducible rfl)))) | refine wpI_skip rfl (by kernel_rfl) (fun _ _ _ h => h) hI rfl ?_); simp only [Act.put, tk, Nat.reduceAdd])); refine wpI_till ?_)
 (refine wpF_one 3 rfl (by kernel_rfl) rfl (fun K hK => ?_))
 refine wp_store_row 47 (.tmp 7) (.tmp 113) rfl (w.heap.size + 2) _ rfl rfl 47 _ (hZ.drew) size47 rfl (by simp [Value.oneCell']) ?_
 (refine hK _ _ (fun h => absurd (by simp) h) (fun _ => ?_); clear hK K; try simp only [Act.put, tk])
 (refine wpF_one 4 rfl (by kernel_rfl) rfl (fun K hK => ?_))
 go_simp
 (refine hK _ _ (fun h => absurd (by simp) h) (fun _ => ?_); clear hK K; try simp only [Act.put, tk])
 (refine wpF_done (by kernel_rfl) ?_ _)
 go_wp2_with fail
 refine bodyPost_ret (results_tct Try.results64 _ _ (w.heap.size + 2) 47 _ (0, 0) _ rfl ((hZ.drew).setRow _) Try.underlying47 rfl size47) rfl ?_
 refine ⟨⟨s.g, s.E⟩, ?_, Keep.setRow (Keep.drew hkw) (Or.inl (Nat.le_add_right _ _)) _⟩
 go_simp
set_option maxRecDepth 100000 in
set_option maxHeartbeats 1000000 in
theorem rwalk_10j (T : Nd) (s : Chk) (cap b off : Nat) (hk : T.h.k = 10) (w : World) (x0 : Nd) (S0 : Value) (hten : Ten w b off x0 S0) (hl0 : (0 : Int) < (T.l.length : Int)) (p0 : decide (T.h.mn < 0) = false) (p1 : decide (255 < T.h.mn) = false) (p2 : (T.h.mx != -1) = true) (p3 : decide (T.h.mx < T.h.mn) = false) (p4 : decide (255 < T.h.mx) = false) (p5 : (x0.h.k == 4) = false) (p6 : (x0.h.k == 5) = false) (p7 : (x0.h.k == 10) = true) (hl : Lies w T (.slice (some ⟨b, off, none⟩) T.l.length cap))
  (HP : Hid (∀ wx, Lies wx T (.slice (some ⟨b, off, none⟩) T.l.length cap) → Calls Try.prog 83 #[.agg (Nd.row T (.slice (some ⟨b, off, none⟩) T.l.length cap))] wx fun e w' => e = .returned (.bool true) ∧ Keep Nb wx w')) :
  Calls Try.prog 64 #[.agg (Nd.row T (.slice (some ⟨b, off, none⟩) T.l.length cap)), .int .i64 s.g, .agg (boolRow s.E)] w fun e w' => ∃ s' : Chk, e = .returned (.tuple #[.int .i64 s'.g, .agg (boolRow s'.E), .bool false]) ∧ Keep Nb w w' := by
 have m6 : (T.h.k == 6) = false := by rw [hk]; rfl
 have m7 : (T.h.k == 7) = false := by rw [hk]; rfl
 have m8 : (T.h.k == 8) = false := by rw [hk]; rfl
 have m9 : (T.h.k == 9) = false := by rw [hk]; rfl
 have m10 : (T.h.k == 10) = true := by rw [hk]; rfl
 clear hk
 simp only [Nd.row, boolRow]
 go_enter Try.func64, Try.ntmps64
 go_wp2_with fail
 refine (HP.out _ (Lies_keep kp hl)).mono ?_
 rintro e w2 ⟨rfl, hk2⟩
 have hkw : Keep Nb w w2 := Keep.trans kp hk2 (fun _ _ h => h)
 have hX : Blk w2 w.heap.size (Nd.row T (.slice (some ⟨b, off, none⟩) T.l.length cap)) 27 := (((Blk.new w _ _).alloc _).alloc _).keep hk2 id
 have hD : Blk w2 (w.heap.size + 1) (boolRow s.E) 47 := ((Blk.new' (by simp) _ _).alloc _).keep hk2 id
 have hZ : Blk w2 (w.heap.size + 2) (boolRow fun _ => false) 47 := (Blk.new' (by simp) _ _).keep hk2 id
 (have o0 := Blk.cell hX 0 (u := .int .i64 T.h.k) rfl; have o1 := Blk.cell hX 1 (u := .int .u8 T.h.c) rfl; have o2 := Blk.cell hX 2 (u := .int .u64 T.h.s0) rfl; have o3 := Blk.cell hX 3 (u := .int .u64 T.h.s1) rfl; have o4 := Blk.cell hX 4 (u := .int .u64 T.h.s2) rfl; have o5 := Blk.cell hX 5 (u := .int .u64 T.h.s3) rfl; have o6 := Blk.cell hX 6 (u := .int .i64 T.h.n) rfl; have o7 := Blk.cell hX 7 (u := .int .i64 T.h.mn) rfl; have o8 := Blk.cell hX 8 (u := .int .i64 T.h.mx) rfl; have o9 := Blk.cell hX 9 (u := (.slice (some ⟨b, off, none⟩) T.l.length cap)) rfl)
 (have d0 := Blk.cell hD 0 (u := .bool (s.E 0)) rfl; have d1 := Blk.cell hD 1 (u := .bool (s.E 1)) rfl; have d2 := Blk.cell hD 2 (u := .bool (s.E 2)) rfl; have d3 := Blk.cell hD 3 (u := .bool (s.E 3)) rfl; have d4 := Blk.cell hD 4 (u := .bool (s.E 4)) rfl; have d5 := Blk.cell hD 5 (u := .bool (s.E 5)) rfl; have d6 := Blk.cell hD 6 (u := .bool (s.E 6)) rfl; have d7 := Blk.cell hD 7 (u := .bool (s.E 7)) rfl; have d8 := Blk.cell hD 8 (u := .bool (s.E 8)) rfl; have d9 := Blk.cell hD 9 (u := .bool (s.E 9)) rfl)
 have sX := hX.lt
 have sD := hD.lt
 have sZ := hZ.lt
 clear hk2
 have q0 := (hten.keep hkw).c0
 have ql := (hten.keep hkw).lt
 go_wp2_with fail
 (refine wp_region_f [3, 4] (InX (Ob (w.heap.size + 2)) _) (by kernel_rfl) (InX.mk (Keep.drew (Keep.refl _ _))) (fun hI => ?_))
 have x1 : ¬ Ob (w.heap.size + 2) (w.heap.size + 1) := by simp only [Ob]; omega
 (refine wpI_from 0 ?_; (iterate 3 ((first | (refine wpI_take (v := ?_) rfl (by kernel_rfl) (fun _ _ _ h => h) hI rfl ?_ ?_; rotate_left; (focus (rintro _ ⟨E, rfl⟩; go_simp; (try with_reducible rfl)))) | refine wpI_skip rfl (by kernel_rfl) (fun _ _ _ h => h) hI rfl ?_); simp only [Act.put, tk, Nat.reduceAdd])); refine wpI_till ?_)
 (refine wpF_one 3 rfl (by kernel_rfl) rfl (fun K hK => ?_))
 refine wp_store_row 47 (.tmp 7) (.tmp 113) rfl (w.heap.size + 2) _ rfl rfl 47 _ (hZ.drew) size47 rfl (by simp [Value.oneCell']) ?_
 (refine hK _ _ (fun h => absurd (by simp) h) (fun _ => ?_); clear hK K; try simp only [Act.put, tk])
 (refine wpF_one 4 rfl (by kernel_rfl) rfl (fun K hK => ?_))
 go_simp
 (refine hK _ _ (fun h => absurd (by simp) h) (fun _ => ?_); clear hK K; try simp only [Act.put, tk])
 (refine wpF_done (by kernel_rfl) ?_ _)
 go_wp2_with fail
 refine bodyPost_ret (results_tct Try.results64 _ _ (w.heap.size + 2) 47 _ (0, 0) _ rfl ((hZ.drew).setRow _) Try.underlying47 rfl size47) rfl ?_
 refine ⟨⟨s.g, s.E⟩, ?_, Keep.setRow (Keep.drew hkw) (Or.inl (Nat.le_add_right _ _)) _⟩
 go_simp
end Go.Proofs.Ytkidjbfapldmbaa
