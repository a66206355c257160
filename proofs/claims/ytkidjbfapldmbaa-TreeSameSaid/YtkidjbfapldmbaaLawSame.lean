/- For every input TreeSame returns true. -/
import Derived.Test.YtkidjbfapldmbaaFormed
import Derived.Test.YtkidjbfapldmbaaSame
import Derived.Test.YtkidjbfapldmbaaRsame
import Derived.Test.YtkidjbfapldmbaaTheirs
import Derived.Deep.DeepCutAuto
namespace Go.Proofs.Ytkidjbfapldmbaa
set_option linter.unusedVariables false
set_option linter.unusedSimpArgs false
open Go.RowKit P8

theorem same_false (T U : Nd) (v v' : Value) (w : World) (hl : Lies w T v) (hl' : Lies w U v') (hf : few T = false) :
    Calls Try.prog 3 #[.agg (Nd.row T v), .agg (Nd.row U v')] w fun e w' => e = .returned (.bool true) ∧ Keep Nb w w' := by
  have h1 := fun wx => few_any T v wx
  rw [hf] at h1
  have H1 := Lib.hid h1; clear h1 hf
  obtain ⟨A, cap, rfl, _⟩ := Lies_def.1 hl
  obtain ⟨A', cap', rfl, _⟩ := Lies_def.1 hl'
  simp only [Nd.row]
  go_enter Try.func3, Try.ntmps3
  go_wp2_with fail
  refine (awake_any _).mono ?_
  rintro e w2 ⟨rfl, hk2⟩
  have hb1 := ((Blk.new w #[.int .i64 T.h.k, .int .u8 T.h.c, .int .u64 T.h.s0, .int .u64 T.h.s1, .int .u64 T.h.s2, .int .u64 T.h.s3, .int .i64 T.h.n, .int .i64 T.h.mn, .int .i64 T.h.mx, .slice A T.l.length cap] 27).alloc _).keep hk2 id
  have hk2' : Keep Nb w w2 := Keep.trans (by repeat (first | assumption | exact Keep.refl _ _ | refine Keep.alloc ?_ _ | refine Keep.drew ?_ | refine Keep.setCell ?_ (Or.inl (by simp)) _ | refine Keep.setRow ?_ (Or.inl (by simp)) _)) hk2 (fun _ _ h => h)
  (have o0 := Blk.cell hb1 0 (u := .int .i64 T.h.k) rfl; have o1 := Blk.cell hb1 1 (u := .int .u8 T.h.c) rfl; have o2 := Blk.cell hb1 2 (u := .int .u64 T.h.s0) rfl; have o3 := Blk.cell hb1 3 (u := .int .u64 T.h.s1) rfl; have o4 := Blk.cell hb1 4 (u := .int .u64 T.h.s2) rfl; have o5 := Blk.cell hb1 5 (u := .int .u64 T.h.s3) rfl; have o6 := Blk.cell hb1 6 (u := .int .i64 T.h.n) rfl; have o7 := Blk.cell hb1 7 (u := .int .i64 T.h.mn) rfl; have o8 := Blk.cell hb1 8 (u := .int .i64 T.h.mx) rfl; have o9 := Blk.cell hb1 9 (u := (.slice A T.l.length cap)) rfl)
  go_wp2_with fail
  refine (H1.out _ (Lies_keep hk2' hl)).mono ?_
  rintro e w3 ⟨rfl, hk3⟩
  go_wp2_with fail
  refine (awake_any _).mono ?_
  rintro e w4 ⟨rfl, hk4⟩
  go_wp2_with fail
  go_ret
  exact ⟨rfl, (hk2'.trans hk3 (fun _ _ h => h)).trans hk4 (fun _ _ h => h)⟩

theorem same_half (T U : Nd) (v v' : Value) (w : World) (hl : Lies w T v) (hl' : Lies w U v') (hf : few T = true) (hf' : few U = false) :
    Calls Try.prog 3 #[.agg (Nd.row T v), .agg (Nd.row U v')] w fun e w' => e = .returned (.bool true) ∧ Keep Nb w w' := by
  have h1 := fun wx => few_any T v wx
  have h2 := fun wx => few_any U v' wx
  rw [hf] at h1
  rw [hf'] at h2
  have H1 := Lib.hid h1; clear h1 hf
  have H2 := Lib.hid h2; clear h2 hf'
  obtain ⟨A, cap, rfl, _⟩ := Lies_def.1 hl
  obtain ⟨A', cap', rfl, _⟩ := Lies_def.1 hl'
  simp only [Nd.row]
  go_enter Try.func3, Try.ntmps3
  go_wp2_with fail
  refine (awake_any _).mono ?_
  rintro e w2 ⟨rfl, hk2⟩
  have hb1 : Blk w2 w.heap.size (Nd.row T (.slice A T.l.length cap)) 27 := ((Blk.new w _ _).alloc _).keep hk2 id
  have hb2 : Blk w2 (w.heap.size + 1) (Nd.row U (.slice A' U.l.length cap')) 27 := (Blk.new' (by simp) _ _).keep hk2 id
  have hk2' : Keep Nb w w2 := Keep.trans (by repeat (first | assumption | exact Keep.refl _ _ | refine Keep.alloc ?_ _ | refine Keep.drew ?_ | refine Keep.setCell ?_ (Or.inl (by simp)) _ | refine Keep.setRow ?_ (Or.inl (by simp)) _)) hk2 (fun _ _ h => h)
  (have o0 := Blk.cell hb1 0 (u := .int .i64 T.h.k) rfl; have o1 := Blk.cell hb1 1 (u := .int .u8 T.h.c) rfl; have o2 := Blk.cell hb1 2 (u := .int .u64 T.h.s0) rfl; have o3 := Blk.cell hb1 3 (u := .int .u64 T.h.s1) rfl; have o4 := Blk.cell hb1 4 (u := .int .u64 T.h.s2) rfl; have o5 := Blk.cell hb1 5 (u := .int .u64 T.h.s3) rfl; have o6 := Blk.cell hb1 6 (u := .int .i64 T.h.n) rfl; have o7 := Blk.cell hb1 7 (u := .int .i64 T.h.mn) rfl; have o8 := Blk.cell hb1 8 (u := .int .i64 T.h.mx) rfl; have o9 := Blk.cell hb1 9 (u := (.slice A T.l.length cap)) rfl)
  go_wp2_with fail
  refine (H1.out _ (Lies_keep hk2' hl)).mono ?_
  rintro e w3 ⟨rfl, hk3⟩
  have hk3' := hk2'.trans hk3 (fun _ _ h => h)
  have hb23 := hb2.keep hk3 id
  (have q0 := Blk.cell hb23 0 (u := .int .i64 U.h.k) rfl; have q1 := Blk.cell hb23 1 (u := .int .u8 U.h.c) rfl; have q2 := Blk.cell hb23 2 (u := .int .u64 U.h.s0) rfl; have q3 := Blk.cell hb23 3 (u := .int .u64 U.h.s1) rfl; have q4 := Blk.cell hb23 4 (u := .int .u64 U.h.s2) rfl; have q5 := Blk.cell hb23 5 (u := .int .u64 U.h.s3) rfl; have q6 := Blk.cell hb23 6 (u := .int .i64 U.h.n) rfl; have q7 := Blk.cell hb23 7 (u := .int .i64 U.h.mn) rfl; have q8 := Blk.cell hb23 8 (u := .int .i64 U.h.mx) rfl; have q9 := Blk.cell hb23 9 (u := (.slice A' U.l.length cap')) rfl)
  go_wp2_with fail
  refine (H2.out _ (Lies_keep hk3' hl')).mono ?_
  rintro e w4 ⟨rfl, hk4⟩
  have hk4' := hk3'.trans hk4 (fun _ _ h => h)
  go_wp2_with fail
  refine (awake_any _).mono ?_
  rintro e w5 ⟨rfl, hk5⟩
  go_wp2_with fail
  go_ret
  exact ⟨rfl, hk4'.trans hk5 (fun _ _ h => h)⟩

theorem same_end {T U : Nd} {S1 S2 : Value} {w4 x : World} {p q b1 b2 : Nat} {c1 c2 : Array Value} {t1 t2 : TypeId} {O1 O2 : Nat → Prop}
    (hp : w4.heap.size ≤ p) (hq : w4.heap.size ≤ q) (hne : p ≠ q) (hK0 : Keep Nb w4 x) (hP : Blk x p zeroNode 33) (hQ : Blk x q zeroNode 33)
    (hB1 : LiesP O1 x T S1) (h1 : ∀ b, O1 b → b ≠ p ∧ b ≠ q) (hB2 : LiesP O2 x U S2) (h2 : ∀ b, O2 b → b ≠ p ∧ b ≠ q) (l1 : b1 < w4.heap.size) (l2 : b2 < w4.heap.size)
    (hx1 : Blk x b1 c1 t1) (hx2 : Blk x b2 c2 t2) :
    Blk ((x.setRow p (Nd.row T S1)).setRow q (Nd.row U S2)) p (Nd.row T S1) 33 ∧ Blk ((x.setRow p (Nd.row T S1)).setRow q (Nd.row U S2)) q (Nd.row U S2) 33 ∧
    Lies ((x.setRow p (Nd.row T S1)).setRow q (Nd.row U S2)) T S1 ∧ Lies ((x.setRow p (Nd.row T S1)).setRow q (Nd.row U S2)) U S2 ∧
    Blk ((x.setRow p (Nd.row T S1)).setRow q (Nd.row U S2)) b1 c1 t1 ∧ Blk ((x.setRow p (Nd.row T S1)).setRow q (Nd.row U S2)) b2 c2 t2 ∧ Keep Nb w4 ((x.setRow p (Nd.row T S1)).setRow q (Nd.row U S2)) := by
  have hk : Keep (fun k => k = p ∨ k = q) x ((x.setRow p (Nd.row T S1)).setRow q (Nd.row U S2)) := Keep.setRow (Keep.setRow (Keep.refl _ _) (.inr (.inl rfl)) _) (.inr (.inr rfl)) _
  refine ⟨(hP.setRow _).setRowOther hne _, (hQ.setRowOther (Ne.symm hne) _).setRow _, LiesP_all (LiesP_keep hk (fun b hb h => ?_) hB1), LiesP_all (LiesP_keep hk (fun b hb h => ?_) hB2), hx1.keep hk (by omega), hx2.keep hk (by omega), hK0.trans hk (fun b hb h => by omega)⟩
  · have := h1 b hb; omega
  · have := h2 b hb; omega

set_option maxRecDepth 100000 in
set_option maxHeartbeats 4000000 in
theorem same_true (T U : Nd) (v v' : Value) (w : World) (hl : Lies w T v) (hl' : Lies w U v') (hf : few T = true) (hf' : few U = true) :
    Calls Try.prog 3 #[.agg (Nd.row T v), .agg (Nd.row U v')] w fun e w' => e = .returned (.bool true) ∧ Keep Nb w w' := by
  have h1 := fun wx => few_any T v wx
  have h2 := fun wx => few_any U v' wx
  have hcT := (few_count hf).1
  have hcU := (few_count hf').1
  rw [hf] at h1
  rw [hf'] at h2
  have H1 := Lib.hid h1; clear h1 hf
  have H2 := Lib.hid h2; clear h2 hf'
  obtain ⟨A, cap, rfl, _⟩ := Lies_def.1 hl
  obtain ⟨A', cap', rfl, _⟩ := Lies_def.1 hl'
  simp only [Nd.row]
  go_enter Try.func3, Try.ntmps3
  go_wp2_with fail
  refine (awake_any _).mono ?_
  rintro e w2 ⟨rfl, hk2⟩
  have hb1 : Blk w2 w.heap.size (Nd.row T (.slice A T.l.length cap)) 27 := ((Blk.new w _ _).alloc _).keep hk2 id
  have hb2 : Blk w2 (w.heap.size + 1) (Nd.row U (.slice A' U.l.length cap')) 27 := (Blk.new' (by simp) _ _).keep hk2 id
  have hk2' : Keep Nb w w2 := Keep.trans (by repeat (first | assumption | exact Keep.refl _ _ | refine Keep.alloc ?_ _ | refine Keep.drew ?_ | refine Keep.setCell ?_ (Or.inl (by simp)) _ | refine Keep.setRow ?_ (Or.inl (by simp)) _)) hk2 (fun _ _ h => h)
  (have o0 := Blk.cell hb1 0 (u := .int .i64 T.h.k) rfl; have o1 := Blk.cell hb1 1 (u := .int .u8 T.h.c) rfl; have o2 := Blk.cell hb1 2 (u := .int .u64 T.h.s0) rfl; have o3 := Blk.cell hb1 3 (u := .int .u64 T.h.s1) rfl; have o4 := Blk.cell hb1 4 (u := .int .u64 T.h.s2) rfl; have o5 := Blk.cell hb1 5 (u := .int .u64 T.h.s3) rfl; have o6 := Blk.cell hb1 6 (u := .int .i64 T.h.n) rfl; have o7 := Blk.cell hb1 7 (u := .int .i64 T.h.mn) rfl; have o8 := Blk.cell hb1 8 (u := .int .i64 T.h.mx) rfl; have o9 := Blk.cell hb1 9 (u := (.slice A T.l.length cap)) rfl)
  go_wp2_with fail
  refine (H1.out _ (Lies_keep hk2' hl)).mono ?_
  rintro e w3 ⟨rfl, hk3⟩
  have hk3' := hk2'.trans hk3 (fun _ _ h => h)
  have hb13 := hb1.keep hk3 id
  have hb23 := hb2.keep hk3 id
  (have q0 := Blk.cell hb23 0 (u := .int .i64 U.h.k) rfl; have q1 := Blk.cell hb23 1 (u := .int .u8 U.h.c) rfl; have q2 := Blk.cell hb23 2 (u := .int .u64 U.h.s0) rfl; have q3 := Blk.cell hb23 3 (u := .int .u64 U.h.s1) rfl; have q4 := Blk.cell hb23 4 (u := .int .u64 U.h.s2) rfl; have q5 := Blk.cell hb23 5 (u := .int .u64 U.h.s3) rfl; have q6 := Blk.cell hb23 6 (u := .int .i64 U.h.n) rfl; have q7 := Blk.cell hb23 7 (u := .int .i64 U.h.mn) rfl; have q8 := Blk.cell hb23 8 (u := .int .i64 U.h.mx) rfl; have q9 := Blk.cell hb23 9 (u := (.slice A' U.l.length cap')) rfl)
  go_wp2_with fail
  refine (H2.out _ (Lies_keep hk3' hl')).mono ?_
  rintro e w4 ⟨rfl, hk4⟩
  have hk4' := hk3'.trans hk4 (fun _ _ h => h)
  have hb14 := hb13.keep hk4 id
  have hb24 := hb23.keep hk4 id
  clear hb13 hb23 hb1 hb2 hk2 hk3 hk4 hk3' hk2' H1 H2
  go_wp2_with fail
  go_cut [5, 6] (fun x y wx => ∃ (p q : Nat) (S1 S2 : Value), x = .pointer (some ⟨p, 0, none⟩) ∧ y = .pointer (some ⟨q, 0, none⟩) ∧ Blk wx p (Nd.row T S1) 33 ∧ Blk wx q (Nd.row U S2) 33 ∧ Lies wx T S1 ∧ Lies wx U S2 ∧
    Blk wx w.heap.size (Nd.row T (.slice A T.l.length cap)) 27 ∧ Blk wx (w.heap.size + 1) (Nd.row U (.slice A' U.l.length cap')) 27 ∧ Keep Nb w wx)
  case first =>
    have hx1 := hb14.drew
    have hx2 := hb24.drew
    (have o0 := Blk.cell hb14 0 (u := .int .i64 T.h.k) rfl; have o1 := Blk.cell hb14 1 (u := .int .u8 T.h.c) rfl; have o2 := Blk.cell hb14 2 (u := .int .u64 T.h.s0) rfl; have o3 := Blk.cell hb14 3 (u := .int .u64 T.h.s1) rfl; have o4 := Blk.cell hb14 4 (u := .int .u64 T.h.s2) rfl; have o5 := Blk.cell hb14 5 (u := .int .u64 T.h.s3) rfl; have o6 := Blk.cell hb14 6 (u := .int .i64 T.h.n) rfl; have o7 := Blk.cell hb14 7 (u := .int .i64 T.h.mn) rfl; have o8 := Blk.cell hb14 8 (u := .int .i64 T.h.mx) rfl; have o9 := Blk.cell hb14 9 (u := (.slice A T.l.length cap)) rfl)
    (have q0 := Blk.cell hb24 0 (u := .int .i64 U.h.k) rfl; have q1 := Blk.cell hb24 1 (u := .int .u8 U.h.c) rfl; have q2 := Blk.cell hb24 2 (u := .int .u64 U.h.s0) rfl; have q3 := Blk.cell hb24 3 (u := .int .u64 U.h.s1) rfl; have q4 := Blk.cell hb24 4 (u := .int .u64 U.h.s2) rfl; have q5 := Blk.cell hb24 5 (u := .int .u64 U.h.s3) rfl; have q6 := Blk.cell hb24 6 (u := .int .i64 U.h.n) rfl; have q7 := Blk.cell hb24 7 (u := .int .i64 U.h.mn) rfl; have q8 := Blk.cell hb24 8 (u := .int .i64 U.h.mx) rfl; have q9 := Blk.cell hb24 9 (u := (.slice A' U.l.length cap')) rfl)
    have hl1 := hb14.lt
    have hl2 := hb24.lt
    (refine wp_region_f [7] (InX Nb _) (by kernel_rfl) (InX.mk (Keep.drew (Keep.refl _ _))) (fun hI => ?_))
    have xx : ∀ k, ¬ Nb k := fun _ h => h
    (refine wpF_take (v := ?_) 0 rfl (by kernel_rfl) (by kernel_rfl) (by kernel_rfl) (by kernel_rfl) (fun _ _ _ h => h) (by assumption) rfl ?_ ?_; rotate_left; (focus (rintro _ ⟨E, rfl⟩; go_simp; (try with_reducible rfl))); simp only [Act.put, List.setIfInBounds_toArray, List.set_cons_zero, List.set_cons_succ])
    (refine wpF_take (v := ?_) 2 rfl (by kernel_rfl) (by kernel_rfl) (by kernel_rfl) (by kernel_rfl) (fun _ _ _ h => h) (by assumption) rfl ?_ ?_; rotate_left; (focus (rintro _ ⟨E, rfl⟩; go_simp; (try with_reducible rfl))); simp only [Act.put, List.setIfInBounds_toArray, List.set_cons_zero, List.set_cons_succ])
    clear o0 o1 o2 o3 o4 o5 o6 o7 o8 o9 q0 q1 q2 q3 q4 q5 q6 q7 q8 q9
    have hK0 : Keep Nb w4 w4.drew := (Keep.refl _ _).drew
    generalize w4.drew = x0 at hK0 hx1 hx2 hI ⊢
    refine wpF_many [1, 4, 5] (by kernel_rfl) (by simp) ?_
    refine many_cons ?_ ?_
    · refine wpF_way 1 rfl rfl (fun K hK => ?_)
      go_simp
      refine (theirs_any 400 (by omega) T (by omega) _ _ (Lies_keep (Keep.trans hk4' hK0 (fun _ _ h => h)) hl)).mono ?_
      rintro e x1 ⟨S1, rfl, hB1, hkn⟩
      obtain ⟨A1, A1n, rfl, _⟩ := LiesP_def.1 hB1
      have s0 := hkn.size
      simp only [Nd.row]
      replace hx1 := Blk.keep hx1 hkn id; replace hx2 := Blk.keep hx2 hkn id; replace hK0 := Keep.trans hK0 hkn (fun _ _ h => h)
      clear hkn
      (refine hK _ _ (fun _ => InX.mk hK0) (fun hI => ?_); have hI := hI (by simp); clear hK K; try simp only [Act.put, List.setIfInBounds_toArray, List.set_cons_zero, List.set_cons_succ])
      refine wpF_many [3, 4, 5] (by kernel_rfl) (by simp) ?_
      refine many_cons ?_ ?_
      · refine wpF_way 3 rfl rfl (fun K hK => ?_)
        go_simp
        refine (theirs_any 400 (by omega) U (by omega) _ _ (Lies_keep (Keep.trans hk4' hK0 (fun _ _ h => h)) hl')).mono ?_
        rintro e x2 ⟨S2, rfl, hB2, hkn⟩
        obtain ⟨A2, A2n, rfl, _⟩ := LiesP_def.1 hB2
        have s1 := hkn.size
        simp only [Nd.row]
        replace hB1 := Lies_keep hkn hB1; replace hx1 := Blk.keep hx1 hkn id; replace hx2 := Blk.keep hx2 hkn id; replace hK0 := Keep.trans hK0 hkn (fun _ _ h => h)
        clear hkn
        (refine hK _ _ (fun _ => InX.mk hK0) (fun hI => ?_); have hI := hI (by simp); clear hK K; try simp only [Act.put, List.setIfInBounds_toArray, List.set_cons_zero, List.set_cons_succ])
        refine wpF_many [4, 5] (by kernel_rfl) (by simp) ?_
        refine many_cons ?_ ?_
        · refine wpF_way 4 rfl rfl (fun K hK => ?_)
          go_simp
          have hPge := hK0.size
          have hP := Blk.new x2 zeroNode 33
          have hkn : Keep Nb x2 (x2.alloc (.cells zeroNode 33)) := Keep.alloc (Keep.refl _ _) _
          rw [show (#[.int .i64 0, .int .u8 0, .int .u64 0, .int .u64 0, .int .u64 0, .int .u64 0, .int .i64 0, .int .i64 0, .int .i64 0, .slice none 0 0] : Array Value) = zeroNode from rfl]
          generalize x2.alloc (.cells zeroNode 33) = x3 at hP hkn ⊢
          have s2 := hkn.size
          generalize ep : x2.heap.size = p at hP ⊢
          replace hB1 := Lies_keep hkn hB1; replace hB2 := Lies_keep hkn hB2; replace hx1 := Blk.keep hx1 hkn id; replace hx2 := Blk.keep hx2 hkn id; replace hK0 := Keep.trans hK0 hkn (fun _ _ h => h)
          clear hkn
          (refine hK _ _ (fun _ => InX.mk hK0) (fun hI => ?_); have hI := hI (by simp); clear hK K; try simp only [Act.put, List.setIfInBounds_toArray, List.set_cons_zero, List.set_cons_succ])
          refine wpF_many [5] (by kernel_rfl) (by simp) ?_
          refine many_cons ?_ ?_
          · refine wpF_way 5 rfl rfl (fun K hK => ?_)
            go_simp
            have hQge := hK0.size
            have hQ := Blk.new x3 zeroNode 33
            have hne := hP.lt
            have hkn : Keep Nb x3 (x3.alloc (.cells zeroNode 33)) := Keep.alloc (Keep.refl _ _) _
            rw [show (#[.int .i64 0, .int .u8 0, .int .u64 0, .int .u64 0, .int .u64 0, .int .u64 0, .int .i64 0, .int .i64 0, .int .i64 0, .slice none 0 0] : Array Value) = zeroNode from rfl]
            generalize x3.alloc (.cells zeroNode 33) = x4 at hQ hkn ⊢
            have s3 := hkn.size
            generalize eq : x3.heap.size = q at hQ ⊢
            replace hP := Blk.keep hP hkn id; replace hB1 := Lies_keep hkn hB1; replace hB2 := Lies_keep hkn hB2; replace hx1 := Blk.keep hx1 hkn id; replace hx2 := Blk.keep hx2 hkn id; replace hK0 := Keep.trans hK0 hkn (fun _ _ h => h)
            clear hkn
            (refine hK _ _ (fun _ => InX.mk hK0) (fun hI => ?_); have hI := hI (by simp); clear hK K; try simp only [Act.put, List.setIfInBounds_toArray, List.set_cons_zero, List.set_cons_succ])
            (refine wpF_one 6 rfl (by kernel_rfl) rfl (fun K hK => ?_))
            refine wp_store_row 33 (.tmp 5) (.tmp 21) rfl p _ rfl rfl 33 _ hP size33 rfl (by simp [Value.oneCell']) ?_
            have hPge' : w4.heap.size ≤ p := ep ▸ hPge
            have hQge' : w4.heap.size ≤ q := eq ▸ hQge
            have hne' : p ≠ q := by omega
            have hend := same_end hPge' hQge' hne' hK0 hP hQ hB1 (fun b hb => by omega) hB2 (fun b hb => by omega) hl1 hl2 hx1 hx2
            (refine hK _ _ (fun _ => InX.mk (Keep.setRow hK0 (Or.inl hPge') _)) (fun hI => ?_); have hI := hI (by simp); clear hK K; try simp only [Act.put, List.setIfInBounds_toArray, List.set_cons_zero, List.set_cons_succ])
            (refine wpF_one 7 rfl (by kernel_rfl) rfl (fun K hK => ?_))
            refine wp_store_row 33 (.tmp 6) (.tmp 23) rfl q _ rfl rfl 33 _ (hQ.setRowOther (Ne.symm hne') _) size33 rfl (by simp [Value.oneCell']) ?_
            (refine hK _ _ (fun h => absurd (by simp) h) (fun _ => ?_); clear hK K; try simp only [Act.put, List.setIfInBounds_toArray, List.set_cons_zero, List.set_cons_succ])
            (refine wpF_done (by kernel_rfl) ?_ _)
            go_wp2_with fail
            go_meet
            refine ⟨_, _, _, _, rfl, rfl, hend.1, hend.2.1, hend.2.2.1, hend.2.2.2.1, hend.2.2.2.2.1, hend.2.2.2.2.2.1, Keep.trans hk4' hend.2.2.2.2.2.2 (fun _ _ h => h)⟩
          exact many_nil
        refine many_cons ?_ ?_
        · refine wpF_way 5 rfl rfl (fun K hK => ?_)
          go_simp
          have hQge := hK0.size
          have hQ := Blk.new x2 zeroNode 33
          have hkn : Keep Nb x2 (x2.alloc (.cells zeroNode 33)) := Keep.alloc (Keep.refl _ _) _
          rw [show (#[.int .i64 0, .int .u8 0, .int .u64 0, .int .u64 0, .int .u64 0, .int .u64 0, .int .i64 0, .int .i64 0, .int .i64 0, .slice none 0 0] : Array Value) = zeroNode from rfl]
          generalize x2.alloc (.cells zeroNode 33) = x3 at hQ hkn ⊢
          have s2 := hkn.size
          generalize eq : x2.heap.size = q at hQ ⊢
          replace hB1 := Lies_keep hkn hB1; replace hB2 := Lies_keep hkn hB2; replace hx1 := Blk.keep hx1 hkn id; replace hx2 := Blk.keep hx2 hkn id; replace hK0 := Keep.trans hK0 hkn (fun _ _ h => h)
          clear hkn
          (refine hK _ _ (fun _ => InX.mk hK0) (fun hI => ?_); have hI := hI (by simp); clear hK K; try simp only [Act.put, List.setIfInBounds_toArray, List.set_cons_zero, List.set_cons_succ])
          refine wpF_many [4] (by kernel_rfl) (by simp) ?_
          refine many_cons ?_ ?_
          · refine wpF_way 4 rfl rfl (fun K hK => ?_)
            go_simp
            have hPge := hK0.size
            have hP := Blk.new x3 zeroNode 33
            have hne := hQ.lt
            have hkn : Keep Nb x3 (x3.alloc (.cells zeroNode 33)) := Keep.alloc (Keep.refl _ _) _
            rw [show (#[.int .i64 0, .int .u8 0, .int .u64 0, .int .u64 0, .int .u64 0, .int .u64 0, .int .i64 0, .int .i64 0, .int .i64 0, .slice none 0 0] : Array Value) = zeroNode from rfl]
            generalize x3.alloc (.cells zeroNode 33) = x4 at hP hkn ⊢
            have s3 := hkn.size
            generalize ep : x3.heap.size = p at hP ⊢
            replace hQ := Blk.keep hQ hkn id; replace hB1 := Lies_keep hkn hB1; replace hB2 := Lies_keep hkn hB2; replace hx1 := Blk.keep hx1 hkn id; replace hx2 := Blk.keep hx2 hkn id; replace hK0 := Keep.trans hK0 hkn (fun _ _ h => h)
            clear hkn
            (refine hK _ _ (fun _ => InX.mk hK0) (fun hI => ?_); have hI := hI (by simp); clear hK K; try simp only [Act.put, List.setIfInBounds_toArray, List.set_cons_zero, List.set_cons_succ])
            (refine wpF_one 6 rfl (by kernel_rfl) rfl (fun K hK => ?_))
            refine wp_store_row 33 (.tmp 5) (.tmp 21) rfl p _ rfl rfl 33 _ hP size33 rfl (by simp [Value.oneCell']) ?_
            have hPge' : w4.heap.size ≤ p := ep ▸ hPge
            have hQge' : w4.heap.size ≤ q := eq ▸ hQge
            have hne' : p ≠ q := by omega
            have hend := same_end hPge' hQge' hne' hK0 hP hQ hB1 (fun b hb => by omega) hB2 (fun b hb => by omega) hl1 hl2 hx1 hx2
            (refine hK _ _ (fun _ => InX.mk (Keep.setRow hK0 (Or.inl hPge') _)) (fun hI => ?_); have hI := hI (by simp); clear hK K; try simp only [Act.put, List.setIfInBounds_toArray, List.set_cons_zero, List.set_cons_succ])
            (refine wpF_one 7 rfl (by kernel_rfl) rfl (fun K hK => ?_))
            refine wp_store_row 33 (.tmp 6) (.tmp 23) rfl q _ rfl rfl 33 _ (hQ.setRowOther (Ne.symm hne') _) size33 rfl (by simp [Value.oneCell']) ?_
            (refine hK _ _ (fun h => absurd (by simp) h) (fun _ => ?_); clear hK K; try simp only [Act.put, List.setIfInBounds_toArray, List.set_cons_zero, List.set_cons_succ])
            (refine wpF_done (by kernel_rfl) ?_ _)
            go_wp2_with fail
            go_meet
            refine ⟨_, _, _, _, rfl, rfl, hend.1, hend.2.1, hend.2.2.1, hend.2.2.2.1, hend.2.2.2.2.1, hend.2.2.2.2.2.1, Keep.trans hk4' hend.2.2.2.2.2.2 (fun _ _ h => h)⟩
          exact many_nil
        exact many_nil
      refine many_cons ?_ ?_
      · refine wpF_way 4 rfl rfl (fun K hK => ?_)
        go_simp
        have hPge := hK0.size
        have hP := Blk.new x1 zeroNode 33
        have hkn : Keep Nb x1 (x1.alloc (.cells zeroNode 33)) := Keep.alloc (Keep.refl _ _) _
        rw [show (#[.int .i64 0, .int .u8 0, .int .u64 0, .int .u64 0, .int .u64 0, .int .u64 0, .int .i64 0, .int .i64 0, .int .i64 0, .slice none 0 0] : Array Value) = zeroNode from rfl]
        generalize x1.alloc (.cells zeroNode 33) = x2 at hP hkn ⊢
        have s1 := hkn.size
        generalize ep : x1.heap.size = p at hP ⊢
        replace hB1 := Lies_keep hkn hB1; replace hx1 := Blk.keep hx1 hkn id; replace hx2 := Blk.keep hx2 hkn id; replace hK0 := Keep.trans hK0 hkn (fun _ _ h => h)
        clear hkn
        (refine hK _ _ (fun _ => InX.mk hK0) (fun hI => ?_); have hI := hI (by simp); clear hK K; try simp only [Act.put, List.setIfInBounds_toArray, List.set_cons_zero, List.set_cons_succ])
        refine wpF_many [3, 5] (by kernel_rfl) (by simp) ?_
        refine many_cons ?_ ?_
        · refine wpF_way 3 rfl rfl (fun K hK => ?_)
          go_simp
          refine (theirs_any 400 (by omega) U (by omega) _ _ (Lies_keep (Keep.trans hk4' hK0 (fun _ _ h => h)) hl')).mono ?_
          rintro e x3 ⟨S2, rfl, hB2, hkn⟩
          obtain ⟨A2, A2n, rfl, _⟩ := LiesP_def.1 hB2
          have s2 := hkn.size
          have lp2 := hP.lt
          simp only [Nd.row]
          replace hP := Blk.keep hP hkn id; replace hB1 := Lies_keep hkn hB1; replace hx1 := Blk.keep hx1 hkn id; replace hx2 := Blk.keep hx2 hkn id; replace hK0 := Keep.trans hK0 hkn (fun _ _ h => h)
          clear hkn
          (refine hK _ _ (fun _ => InX.mk hK0) (fun hI => ?_); have hI := hI (by simp); clear hK K; try simp only [Act.put, List.setIfInBounds_toArray, List.set_cons_zero, List.set_cons_succ])
          refine wpF_many [5] (by kernel_rfl) (by simp) ?_
          refine many_cons ?_ ?_
          · refine wpF_way 5 rfl rfl (fun K hK => ?_)
            go_simp
            have hQge := hK0.size
            have hQ := Blk.new x3 zeroNode 33
            have hne := hP.lt
            have hkn : Keep Nb x3 (x3.alloc (.cells zeroNode 33)) := Keep.alloc (Keep.refl _ _) _
            rw [show (#[.int .i64 0, .int .u8 0, .int .u64 0, .int .u64 0, .int .u64 0, .int .u64 0, .int .i64 0, .int .i64 0, .int .i64 0, .slice none 0 0] : Array Value) = zeroNode from rfl]
            generalize x3.alloc (.cells zeroNode 33) = x4 at hQ hkn ⊢
            have s3 := hkn.size
            generalize eq : x3.heap.size = q at hQ ⊢
            replace hP := Blk.keep hP hkn id; replace hB1 := Lies_keep hkn hB1; replace hB2 := Lies_keep hkn hB2; replace hx1 := Blk.keep hx1 hkn id; replace hx2 := Blk.keep hx2 hkn id; replace hK0 := Keep.trans hK0 hkn (fun _ _ h => h)
            clear hkn
            (refine hK _ _ (fun _ => InX.mk hK0) (fun hI => ?_); have hI := hI (by simp); clear hK K; try simp only [Act.put, List.setIfInBounds_toArray, List.set_cons_zero, List.set_cons_succ])
            (refine wpF_one 6 rfl (by kernel_rfl) rfl (fun K hK => ?_))
            refine wp_store_row 33 (.tmp 5) (.tmp 21) rfl p _ rfl rfl 33 _ hP size33 rfl (by simp [Value.oneCell']) ?_
            have hPge' : w4.heap.size ≤ p := ep ▸ hPge
            have hQge' : w4.heap.size ≤ q := eq ▸ hQge
            have hne' : p ≠ q := by omega
            have hend := same_end hPge' hQge' hne' hK0 hP hQ hB1 (fun b hb => by omega) hB2 (fun b hb => by omega) hl1 hl2 hx1 hx2
            (refine hK _ _ (fun _ => InX.mk (Keep.setRow hK0 (Or.inl hPge') _)) (fun hI => ?_); have hI := hI (by simp); clear hK K; try simp only [Act.put, List.setIfInBounds_toArray, List.set_cons_zero, List.set_cons_succ])
            (refine wpF_one 7 rfl (by kernel_rfl) rfl (fun K hK => ?_))
            refine wp_store_row 33 (.tmp 6) (.tmp 23) rfl q _ rfl rfl 33 _ (hQ.setRowOther (Ne.symm hne') _) size33 rfl (by simp [Value.oneCell']) ?_
            (refine hK _ _ (fun h => absurd (by simp) h) (fun _ => ?_); clear hK K; try simp only [Act.put, List.setIfInBounds_toArray, List.set_cons_zero, List.set_cons_succ])
            (refine wpF_done (by kernel_rfl) ?_ _)
            go_wp2_with fail
            go_meet
            refine ⟨_, _, _, _, rfl, rfl, hend.1, hend.2.1, hend.2.2.1, hend.2.2.2.1, hend.2.2.2.2.1, hend.2.2.2.2.2.1, Keep.trans hk4' hend.2.2.2.2.2.2 (fun _ _ h => h)⟩
          exact many_nil
        refine many_cons ?_ ?_
        · refine wpF_way 5 rfl rfl (fun K hK => ?_)
          go_simp
          have hQge := hK0.size
          have hQ := Blk.new x2 zeroNode 33
          have hne := hP.lt
          have hkn : Keep Nb x2 (x2.alloc (.cells zeroNode 33)) := Keep.alloc (Keep.refl _ _) _
          rw [show (#[.int .i64 0, .int .u8 0, .int .u64 0, .int .u64 0, .int .u64 0, .int .u64 0, .int .i64 0, .int .i64 0, .int .i64 0, .slice none 0 0] : Array Value) = zeroNode from rfl]
          generalize x2.alloc (.cells zeroNode 33) = x3 at hQ hkn ⊢
          have s2 := hkn.size
          generalize eq : x2.heap.size = q at hQ ⊢
          replace hP := Blk.keep hP hkn id; replace hB1 := Lies_keep hkn hB1; replace hx1 := Blk.keep hx1 hkn id; replace hx2 := Blk.keep hx2 hkn id; replace hK0 := Keep.trans hK0 hkn (fun _ _ h => h)
          clear hkn
          (refine hK _ _ (fun _ => InX.mk hK0) (fun hI => ?_); have hI := hI (by simp); clear hK K; try simp only [Act.put, List.setIfInBounds_toArray, List.set_cons_zero, List.set_cons_succ])
          refine wpF_many [3] (by kernel_rfl) (by simp) ?_
          refine many_cons ?_ ?_
          · refine wpF_way 3 rfl rfl (fun K hK => ?_)
            go_simp
            refine (theirs_any 400 (by omega) U (by omega) _ _ (Lies_keep (Keep.trans hk4' hK0 (fun _ _ h => h)) hl')).mono ?_
            rintro e x4 ⟨S2, rfl, hB2, hkn⟩
            obtain ⟨A2, A2n, rfl, _⟩ := LiesP_def.1 hB2
            have s3 := hkn.size
            have lp3 := hP.lt
            have lq3 := hQ.lt
            simp only [Nd.row]
            replace hP := Blk.keep hP hkn id; replace hQ := Blk.keep hQ hkn id; replace hB1 := Lies_keep hkn hB1; replace hx1 := Blk.keep hx1 hkn id; replace hx2 := Blk.keep hx2 hkn id; replace hK0 := Keep.trans hK0 hkn (fun _ _ h => h)
            clear hkn
            (refine hK _ _ (fun _ => InX.mk hK0) (fun hI => ?_); have hI := hI (by simp); clear hK K; try simp only [Act.put, List.setIfInBounds_toArray, List.set_cons_zero, List.set_cons_succ])
            (refine wpF_one 6 rfl (by kernel_rfl) rfl (fun K hK => ?_))
            refine wp_store_row 33 (.tmp 5) (.tmp 21) rfl p _ rfl rfl 33 _ hP size33 rfl (by simp [Value.oneCell']) ?_
            have hPge' : w4.heap.size ≤ p := ep ▸ hPge
            have hQge' : w4.heap.size ≤ q := eq ▸ hQge
            have hne' : p ≠ q := by omega
            have hend := same_end hPge' hQge' hne' hK0 hP hQ hB1 (fun b hb => by omega) hB2 (fun b hb => by omega) hl1 hl2 hx1 hx2
            (refine hK _ _ (fun _ => InX.mk (Keep.setRow hK0 (Or.inl hPge') _)) (fun hI => ?_); have hI := hI (by simp); clear hK K; try simp only [Act.put, List.setIfInBounds_toArray, List.set_cons_zero, List.set_cons_succ])
            (refine wpF_one 7 rfl (by kernel_rfl) rfl (fun K hK => ?_))
            refine wp_store_row 33 (.tmp 6) (.tmp 23) rfl q _ rfl rfl 33 _ (hQ.setRowOther (Ne.symm hne') _) size33 rfl (by simp [Value.oneCell']) ?_
            (refine hK _ _ (fun h => absurd (by simp) h) (fun _ => ?_); clear hK K; try simp only [Act.put, List.setIfInBounds_toArray, List.set_cons_zero, List.set_cons_succ])
            (refine wpF_done (by kernel_rfl) ?_ _)
            go_wp2_with fail
            go_meet
            refine ⟨_, _, _, _, rfl, rfl, hend.1, hend.2.1, hend.2.2.1, hend.2.2.2.1, hend.2.2.2.2.1, hend.2.2.2.2.2.1, Keep.trans hk4' hend.2.2.2.2.2.2 (fun _ _ h => h)⟩
          exact many_nil
        exact many_nil
      refine many_cons ?_ ?_
      · refine wpF_way 5 rfl rfl (fun K hK => ?_)
        go_simp
        have hQge := hK0.size
        have hQ := Blk.new x1 zeroNode 33
        have hkn : Keep Nb x1 (x1.alloc (.cells zeroNode 33)) := Keep.alloc (Keep.refl _ _) _
        rw [show (#[.int .i64 0, .int .u8 0, .int .u64 0, .int .u64 0, .int .u64 0, .int .u64 0, .int .i64 0, .int .i64 0, .int .i64 0, .slice none 0 0] : Array Value) = zeroNode from rfl]
        generalize x1.alloc (.cells zeroNode 33) = x2 at hQ hkn ⊢
        have s1 := hkn.size
        generalize eq : x1.heap.size = q at hQ ⊢
        replace hB1 := Lies_keep hkn hB1; replace hx1 := Blk.keep hx1 hkn id; replace hx2 := Blk.keep hx2 hkn id; replace hK0 := Keep.trans hK0 hkn (fun _ _ h => h)
        clear hkn
        (refine hK _ _ (fun _ => InX.mk hK0) (fun hI => ?_); have hI := hI (by simp); clear hK K; try simp only [Act.put, List.setIfInBounds_toArray, List.set_cons_zero, List.set_cons_succ])
        refine wpF_many [3, 4] (by kernel_rfl) (by simp) ?_
        refine many_cons ?_ ?_
        · refine wpF_way 3 rfl rfl (fun K hK => ?_)
          go_simp
          refine (theirs_any 400 (by omega) U (by omega) _ _ (Lies_keep (Keep.trans hk4' hK0 (fun _ _ h => h)) hl')).mono ?_
          rintro e x3 ⟨S2, rfl, hB2, hkn⟩
          obtain ⟨A2, A2n, rfl, _⟩ := LiesP_def.1 hB2
          have s2 := hkn.size
          have lq2 := hQ.lt
          simp only [Nd.row]
          replace hQ := Blk.keep hQ hkn id; replace hB1 := Lies_keep hkn hB1; replace hx1 := Blk.keep hx1 hkn id; replace hx2 := Blk.keep hx2 hkn id; replace hK0 := Keep.trans hK0 hkn (fun _ _ h => h)
          clear hkn
          (refine hK _ _ (fun _ => InX.mk hK0) (fun hI => ?_); have hI := hI (by simp); clear hK K; try simp only [Act.put, List.setIfInBounds_toArray, List.set_cons_zero, List.set_cons_succ])
          refine wpF_many [4] (by kernel_rfl) (by simp) ?_
          refine many_cons ?_ ?_
          · refine wpF_way 4 rfl rfl (fun K hK => ?_)
            go_simp
            have hPge := hK0.size
            have hP := Blk.new x3 zeroNode 33
            have hne := hQ.lt
            have hkn : Keep Nb x3 (x3.alloc (.cells zeroNode 33)) := Keep.alloc (Keep.refl _ _) _
            rw [show (#[.int .i64 0, .int .u8 0, .int .u64 0, .int .u64 0, .int .u64 0, .int .u64 0, .int .i64 0, .int .i64 0, .int .i64 0, .slice none 0 0] : Array Value) = zeroNode from rfl]
            generalize x3.alloc (.cells zeroNode 33) = x4 at hP hkn ⊢
            have s3 := hkn.size
            generalize ep : x3.heap.size = p at hP ⊢
            replace hQ := Blk.keep hQ hkn id; replace hB1 := Lies_keep hkn hB1; replace hB2 := Lies_keep hkn hB2; replace hx1 := Blk.keep hx1 hkn id; replace hx2 := Blk.keep hx2 hkn id; replace hK0 := Keep.trans hK0 hkn (fun _ _ h => h)
            clear hkn
            (refine hK _ _ (fun _ => InX.mk hK0) (fun hI => ?_); have hI := hI (by simp); clear hK K; try simp only [Act.put, List.setIfInBounds_toArray, List.set_cons_zero, List.set_cons_succ])
            (refine wpF_one 6 rfl (by kernel_rfl) rfl (fun K hK => ?_))
            refine wp_store_row 33 (.tmp 5) (.tmp 21) rfl p _ rfl rfl 33 _ hP size33 rfl (by simp [Value.oneCell']) ?_
            have hPge' : w4.heap.size ≤ p := ep ▸ hPge
            have hQge' : w4.heap.size ≤ q := eq ▸ hQge
            have hne' : p ≠ q := by omega
            have hend := same_end hPge' hQge' hne' hK0 hP hQ hB1 (fun b hb => by omega) hB2 (fun b hb => by omega) hl1 hl2 hx1 hx2
            (refine hK _ _ (fun _ => InX.mk (Keep.setRow hK0 (Or.inl hPge') _)) (fun hI => ?_); have hI := hI (by simp); clear hK K; try simp only [Act.put, List.setIfInBounds_toArray, List.set_cons_zero, List.set_cons_succ])
            (refine wpF_one 7 rfl (by kernel_rfl) rfl (fun K hK => ?_))
            refine wp_store_row 33 (.tmp 6) (.tmp 23) rfl q _ rfl rfl 33 _ (hQ.setRowOther (Ne.symm hne') _) size33 rfl (by simp [Value.oneCell']) ?_
            (refine hK _ _ (fun h => absurd (by simp) h) (fun _ => ?_); clear hK K; try simp only [Act.put, List.setIfInBounds_toArray, List.set_cons_zero, List.set_cons_succ])
            (refine wpF_done (by kernel_rfl) ?_ _)
            go_wp2_with fail
            go_meet
            refine ⟨_, _, _, _, rfl, rfl, hend.1, hend.2.1, hend.2.2.1, hend.2.2.2.1, hend.2.2.2.2.1, hend.2.2.2.2.2.1, Keep.trans hk4' hend.2.2.2.2.2.2 (fun _ _ h => h)⟩
          exact many_nil
        refine many_cons ?_ ?_
        · refine wpF_way 4 rfl rfl (fun K hK => ?_)
          go_simp
          have hPge := hK0.size
          have hP := Blk.new x2 zeroNode 33
          have hne := hQ.lt
          have hkn : Keep Nb x2 (x2.alloc (.cells zeroNode 33)) := Keep.alloc (Keep.refl _ _) _
          rw [show (#[.int .i64 0, .int .u8 0, .int .u64 0, .int .u64 0, .int .u64 0, .int .u64 0, .int .i64 0, .int .i64 0, .int .i64 0, .slice none 0 0] : Array Value) = zeroNode from rfl]
          generalize x2.alloc (.cells zeroNode 33) = x3 at hP hkn ⊢
          have s2 := hkn.size
          generalize ep : x2.heap.size = p at hP ⊢
          replace hQ := Blk.keep hQ hkn id; replace hB1 := Lies_keep hkn hB1; replace hx1 := Blk.keep hx1 hkn id; replace hx2 := Blk.keep hx2 hkn id; replace hK0 := Keep.trans hK0 hkn (fun _ _ h => h)
          clear hkn
          (refine hK _ _ (fun _ => InX.mk hK0) (fun hI => ?_); have hI := hI (by simp); clear hK K; try simp only [Act.put, List.setIfInBounds_toArray, List.set_cons_zero, List.set_cons_succ])
          refine wpF_many [3] (by kernel_rfl) (by simp) ?_
          refine many_cons ?_ ?_
          · refine wpF_way 3 rfl rfl (fun K hK => ?_)
            go_simp
            refine (theirs_any 400 (by omega) U (by omega) _ _ (Lies_keep (Keep.trans hk4' hK0 (fun _ _ h => h)) hl')).mono ?_
            rintro e x4 ⟨S2, rfl, hB2, hkn⟩
            obtain ⟨A2, A2n, rfl, _⟩ := LiesP_def.1 hB2
            have s3 := hkn.size
            have lp3 := hP.lt
            have lq3 := hQ.lt
            simp only [Nd.row]
            replace hP := Blk.keep hP hkn id; replace hQ := Blk.keep hQ hkn id; replace hB1 := Lies_keep hkn hB1; replace hx1 := Blk.keep hx1 hkn id; replace hx2 := Blk.keep hx2 hkn id; replace hK0 := Keep.trans hK0 hkn (fun _ _ h => h)
            clear hkn
            (refine hK _ _ (fun _ => InX.mk hK0) (fun hI => ?_); have hI := hI (by simp); clear hK K; try simp only [Act.put, List.setIfInBounds_toArray, List.set_cons_zero, List.set_cons_succ])
            (refine wpF_one 6 rfl (by kernel_rfl) rfl (fun K hK => ?_))
            refine wp_store_row 33 (.tmp 5) (.tmp 21) rfl p _ rfl rfl 33 _ hP size33 rfl (by simp [Value.oneCell']) ?_
            have hPge' : w4.heap.size ≤ p := ep ▸ hPge
            have hQge' : w4.heap.size ≤ q := eq ▸ hQge
            have hne' : p ≠ q := by omega
            have hend := same_end hPge' hQge' hne' hK0 hP hQ hB1 (fun b hb => by omega) hB2 (fun b hb => by omega) hl1 hl2 hx1 hx2
            (refine hK _ _ (fun _ => InX.mk (Keep.setRow hK0 (Or.inl hPge') _)) (fun hI => ?_); have hI := hI (by simp); clear hK K; try simp only [Act.put, List.setIfInBounds_toArray, List.set_cons_zero, List.set_cons_succ])
            (refine wpF_one 7 rfl (by kernel_rfl) rfl (fun K hK => ?_))
            refine wp_store_row 33 (.tmp 6) (.tmp 23) rfl q _ rfl rfl 33 _ (hQ.setRowOther (Ne.symm hne') _) size33 rfl (by simp [Value.oneCell']) ?_
            (refine hK _ _ (fun h => absurd (by simp) h) (fun _ => ?_); clear hK K; try simp only [Act.put, List.setIfInBounds_toArray, List.set_cons_zero, List.set_cons_succ])
            (refine wpF_done (by kernel_rfl) ?_ _)
            go_wp2_with fail
            go_meet
            refine ⟨_, _, _, _, rfl, rfl, hend.1, hend.2.1, hend.2.2.1, hend.2.2.2.1, hend.2.2.2.2.1, hend.2.2.2.2.2.1, Keep.trans hk4' hend.2.2.2.2.2.2 (fun _ _ h => h)⟩
          exact many_nil
        exact many_nil
      exact many_nil
    refine many_cons ?_ ?_
    · refine wpF_way 4 rfl rfl (fun K hK => ?_)
      go_simp
      have hPge := hK0.size
      have hP := Blk.new x0 zeroNode 33
      have hkn : Keep Nb x0 (x0.alloc (.cells zeroNode 33)) := Keep.alloc (Keep.refl _ _) _
      rw [show (#[.int .i64 0, .int .u8 0, .int .u64 0, .int .u64 0, .int .u64 0, .int .u64 0, .int .i64 0, .int .i64 0, .int .i64 0, .slice none 0 0] : Array Value) = zeroNode from rfl]
      generalize x0.alloc (.cells zeroNode 33) = x1 at hP hkn ⊢
      have s0 := hkn.size
      generalize ep : x0.heap.size = p at hP ⊢
      replace hx1 := Blk.keep hx1 hkn id; replace hx2 := Blk.keep hx2 hkn id; replace hK0 := Keep.trans hK0 hkn (fun _ _ h => h)
      clear hkn
      (refine hK _ _ (fun _ => InX.mk hK0) (fun hI => ?_); have hI := hI (by simp); clear hK K; try simp only [Act.put, List.setIfInBounds_toArray, List.set_cons_zero, List.set_cons_succ])
      refine wpF_many [1, 5] (by kernel_rfl) (by simp) ?_
      refine many_cons ?_ ?_
      · refine wpF_way 1 rfl rfl (fun K hK => ?_)
        go_simp
        refine (theirs_any 400 (by omega) T (by omega) _ _ (Lies_keep (Keep.trans hk4' hK0 (fun _ _ h => h)) hl)).mono ?_
        rintro e x2 ⟨S1, rfl, hB1, hkn⟩
        obtain ⟨A1, A1n, rfl, _⟩ := LiesP_def.1 hB1
        have s1 := hkn.size
        have lp1 := hP.lt
        simp only [Nd.row]
        replace hP := Blk.keep hP hkn id; replace hx1 := Blk.keep hx1 hkn id; replace hx2 := Blk.keep hx2 hkn id; replace hK0 := Keep.trans hK0 hkn (fun _ _ h => h)
        clear hkn
        (refine hK _ _ (fun _ => InX.mk hK0) (fun hI => ?_); have hI := hI (by simp); clear hK K; try simp only [Act.put, List.setIfInBounds_toArray, List.set_cons_zero, List.set_cons_succ])
        refine wpF_many [3, 5] (by kernel_rfl) (by simp) ?_
        refine many_cons ?_ ?_
        · refine wpF_way 3 rfl rfl (fun K hK => ?_)
          go_simp
          refine (theirs_any 400 (by omega) U (by omega) _ _ (Lies_keep (Keep.trans hk4' hK0 (fun _ _ h => h)) hl')).mono ?_
          rintro e x3 ⟨S2, rfl, hB2, hkn⟩
          obtain ⟨A2, A2n, rfl, _⟩ := LiesP_def.1 hB2
          have s2 := hkn.size
          have lp2 := hP.lt
          simp only [Nd.row]
          replace hP := Blk.keep hP hkn id; replace hB1 := Lies_keep hkn hB1; replace hx1 := Blk.keep hx1 hkn id; replace hx2 := Blk.keep hx2 hkn id; replace hK0 := Keep.trans hK0 hkn (fun _ _ h => h)
          clear hkn
          (refine hK _ _ (fun _ => InX.mk hK0) (fun hI => ?_); have hI := hI (by simp); clear hK K; try simp only [Act.put, List.setIfInBounds_toArray, List.set_cons_zero, List.set_cons_succ])
          refine wpF_many [5] (by kernel_rfl) (by simp) ?_
          refine many_cons ?_ ?_
          · refine wpF_way 5 rfl rfl (fun K hK => ?_)
            go_simp
            have hQge := hK0.size
            have hQ := Blk.new x3 zeroNode 33
            have hne := hP.lt
            have hkn : Keep Nb x3 (x3.alloc (.cells zeroNode 33)) := Keep.alloc (Keep.refl _ _) _
            rw [show (#[.int .i64 0, .int .u8 0, .int .u64 0, .int .u64 0, .int .u64 0, .int .u64 0, .int .i64 0, .int .i64 0, .int .i64 0, .slice none 0 0] : Array Value) = zeroNode from rfl]
            generalize x3.alloc (.cells zeroNode 33) = x4 at hQ hkn ⊢
            have s3 := hkn.size
            generalize eq : x3.heap.size = q at hQ ⊢
            replace hP := Blk.keep hP hkn id; replace hB1 := Lies_keep hkn hB1; replace hB2 := Lies_keep hkn hB2; replace hx1 := Blk.keep hx1 hkn id; replace hx2 := Blk.keep hx2 hkn id; replace hK0 := Keep.trans hK0 hkn (fun _ _ h => h)
            clear hkn
            (refine hK _ _ (fun _ => InX.mk hK0) (fun hI => ?_); have hI := hI (by simp); clear hK K; try simp only [Act.put, List.setIfInBounds_toArray, List.set_cons_zero, List.set_cons_succ])
            (refine wpF_one 6 rfl (by kernel_rfl) rfl (fun K hK => ?_))
            refine wp_store_row 33 (.tmp 5) (.tmp 21) rfl p _ rfl rfl 33 _ hP size33 rfl (by simp [Value.oneCell']) ?_
            have hPge' : w4.heap.size ≤ p := ep ▸ hPge
            have hQge' : w4.heap.size ≤ q := eq ▸ hQge
            have hne' : p ≠ q := by omega
            have hend := same_end hPge' hQge' hne' hK0 hP hQ hB1 (fun b hb => by omega) hB2 (fun b hb => by omega) hl1 hl2 hx1 hx2
            (refine hK _ _ (fun _ => InX.mk (Keep.setRow hK0 (Or.inl hPge') _)) (fun hI => ?_); have hI := hI (by simp); clear hK K; try simp only [Act.put, List.setIfInBounds_toArray, List.set_cons_zero, List.set_cons_succ])
            (refine wpF_one 7 rfl (by kernel_rfl) rfl (fun K hK => ?_))
            refine wp_store_row 33 (.tmp 6) (.tmp 23) rfl q _ rfl rfl 33 _ (hQ.setRowOther (Ne.symm hne') _) size33 rfl (by simp [Value.oneCell']) ?_
            (refine hK _ _ (fun h => absurd (by simp) h) (fun _ => ?_); clear hK K; try simp only [Act.put, List.setIfInBounds_toArray, List.set_cons_zero, List.set_cons_succ])
            (refine wpF_done (by kernel_rfl) ?_ _)
            go_wp2_with fail
            go_meet
            refine ⟨_, _, _, _, rfl, rfl, hend.1, hend.2.1, hend.2.2.1, hend.2.2.2.1, hend.2.2.2.2.1, hend.2.2.2.2.2.1, Keep.trans hk4' hend.2.2.2.2.2.2 (fun _ _ h => h)⟩
          exact many_nil
        refine many_cons ?_ ?_
        · refine wpF_way 5 rfl rfl (fun K hK => ?_)
          go_simp
          have hQge := hK0.size
          have hQ := Blk.new x2 zeroNode 33
          have hne := hP.lt
          have hkn : Keep Nb x2 (x2.alloc (.cells zeroNode 33)) := Keep.alloc (Keep.refl _ _) _
          rw [show (#[.int .i64 0, .int .u8 0, .int .u64 0, .int .u64 0, .int .u64 0, .int .u64 0, .int .i64 0, .int .i64 0, .int .i64 0, .slice none 0 0] : Array Value) = zeroNode from rfl]
          generalize x2.alloc (.cells zeroNode 33) = x3 at hQ hkn ⊢
          have s2 := hkn.size
          generalize eq : x2.heap.size = q at hQ ⊢
          replace hP := Blk.keep hP hkn id; replace hB1 := Lies_keep hkn hB1; replace hx1 := Blk.keep hx1 hkn id; replace hx2 := Blk.keep hx2 hkn id; replace hK0 := Keep.trans hK0 hkn (fun _ _ h => h)
          clear hkn
          (refine hK _ _ (fun _ => InX.mk hK0) (fun hI => ?_); have hI := hI (by simp); clear hK K; try simp only [Act.put, List.setIfInBounds_toArray, List.set_cons_zero, List.set_cons_succ])
          refine wpF_many [3] (by kernel_rfl) (by simp) ?_
          refine many_cons ?_ ?_
          · refine wpF_way 3 rfl rfl (fun K hK => ?_)
            go_simp
            refine (theirs_any 400 (by omega) U (by omega) _ _ (Lies_keep (Keep.trans hk4' hK0 (fun _ _ h => h)) hl')).mono ?_
            rintro e x4 ⟨S2, rfl, hB2, hkn⟩
            obtain ⟨A2, A2n, rfl, _⟩ := LiesP_def.1 hB2
            have s3 := hkn.size
            have lp3 := hP.lt
            have lq3 := hQ.lt
            simp only [Nd.row]
            replace hP := Blk.keep hP hkn id; replace hQ := Blk.keep hQ hkn id; replace hB1 := Lies_keep hkn hB1; replace hx1 := Blk.keep hx1 hkn id; replace hx2 := Blk.keep hx2 hkn id; replace hK0 := Keep.trans hK0 hkn (fun _ _ h => h)
            clear hkn
            (refine hK _ _ (fun _ => InX.mk hK0) (fun hI => ?_); have hI := hI (by simp); clear hK K; try simp only [Act.put, List.setIfInBounds_toArray, List.set_cons_zero, List.set_cons_succ])
            (refine wpF_one 6 rfl (by kernel_rfl) rfl (fun K hK => ?_))
            refine wp_store_row 33 (.tmp 5) (.tmp 21) rfl p _ rfl rfl 33 _ hP size33 rfl (by simp [Value.oneCell']) ?_
            have hPge' : w4.heap.size ≤ p := ep ▸ hPge
            have hQge' : w4.heap.size ≤ q := eq ▸ hQge
            have hne' : p ≠ q := by omega
            have hend := same_end hPge' hQge' hne' hK0 hP hQ hB1 (fun b hb => by omega) hB2 (fun b hb => by omega) hl1 hl2 hx1 hx2
            (refine hK _ _ (fun _ => InX.mk (Keep.setRow hK0 (Or.inl hPge') _)) (fun hI => ?_); have hI := hI (by simp); clear hK K; try simp only [Act.put, List.setIfInBounds_toArray, List.set_cons_zero, List.set_cons_succ])
            (refine wpF_one 7 rfl (by kernel_rfl) rfl (fun K hK => ?_))
            refine wp_store_row 33 (.tmp 6) (.tmp 23) rfl q _ rfl rfl 33 _ (hQ.setRowOther (Ne.symm hne') _) size33 rfl (by simp [Value.oneCell']) ?_
            (refine hK _ _ (fun h => absurd (by simp) h) (fun _ => ?_); clear hK K; try simp only [Act.put, List.setIfInBounds_toArray, List.set_cons_zero, List.set_cons_succ])
            (refine wpF_done (by kernel_rfl) ?_ _)
            go_wp2_with fail
            go_meet
            refine ⟨_, _, _, _, rfl, rfl, hend.1, hend.2.1, hend.2.2.1, hend.2.2.2.1, hend.2.2.2.2.1, hend.2.2.2.2.2.1, Keep.trans hk4' hend.2.2.2.2.2.2 (fun _ _ h => h)⟩
          exact many_nil
        exact many_nil
      refine many_cons ?_ ?_
      · refine wpF_way 5 rfl rfl (fun K hK => ?_)
        go_simp
        have hQge := hK0.size
        have hQ := Blk.new x1 zeroNode 33
        have hne := hP.lt
        have hkn : Keep Nb x1 (x1.alloc (.cells zeroNode 33)) := Keep.alloc (Keep.refl _ _) _
        rw [show (#[.int .i64 0, .int .u8 0, .int .u64 0, .int .u64 0, .int .u64 0, .int .u64 0, .int .i64 0, .int .i64 0, .int .i64 0, .slice none 0 0] : Array Value) = zeroNode from rfl]
        generalize x1.alloc (.cells zeroNode 33) = x2 at hQ hkn ⊢
        have s1 := hkn.size
        generalize eq : x1.heap.size = q at hQ ⊢
        replace hP := Blk.keep hP hkn id; replace hx1 := Blk.keep hx1 hkn id; replace hx2 := Blk.keep hx2 hkn id; replace hK0 := Keep.trans hK0 hkn (fun _ _ h => h)
        clear hkn
        (refine hK _ _ (fun _ => InX.mk hK0) (fun hI => ?_); have hI := hI (by simp); clear hK K; try simp only [Act.put, List.setIfInBounds_toArray, List.set_cons_zero, List.set_cons_succ])
        refine wpF_many [1] (by kernel_rfl) (by simp) ?_
        refine many_cons ?_ ?_
        · refine wpF_way 1 rfl rfl (fun K hK => ?_)
          go_simp
          refine (theirs_any 400 (by omega) T (by omega) _ _ (Lies_keep (Keep.trans hk4' hK0 (fun _ _ h => h)) hl)).mono ?_
          rintro e x3 ⟨S1, rfl, hB1, hkn⟩
          obtain ⟨A1, A1n, rfl, _⟩ := LiesP_def.1 hB1
          have s2 := hkn.size
          have lp2 := hP.lt
          have lq2 := hQ.lt
          simp only [Nd.row]
          replace hP := Blk.keep hP hkn id; replace hQ := Blk.keep hQ hkn id; replace hx1 := Blk.keep hx1 hkn id; replace hx2 := Blk.keep hx2 hkn id; replace hK0 := Keep.trans hK0 hkn (fun _ _ h => h)
          clear hkn
          (refine hK _ _ (fun _ => InX.mk hK0) (fun hI => ?_); have hI := hI (by simp); clear hK K; try simp only [Act.put, List.setIfInBounds_toArray, List.set_cons_zero, List.set_cons_succ])
          refine wpF_many [3] (by kernel_rfl) (by simp) ?_
          refine many_cons ?_ ?_
          · refine wpF_way 3 rfl rfl (fun K hK => ?_)
            go_simp
            refine (theirs_any 400 (by omega) U (by omega) _ _ (Lies_keep (Keep.trans hk4' hK0 (fun _ _ h => h)) hl')).mono ?_
            rintro e x4 ⟨S2, rfl, hB2, hkn⟩
            obtain ⟨A2, A2n, rfl, _⟩ := LiesP_def.1 hB2
            have s3 := hkn.size
            have lp3 := hP.lt
            have lq3 := hQ.lt
            simp only [Nd.row]
            replace hP := Blk.keep hP hkn id; replace hQ := Blk.keep hQ hkn id; replace hB1 := Lies_keep hkn hB1; replace hx1 := Blk.keep hx1 hkn id; replace hx2 := Blk.keep hx2 hkn id; replace hK0 := Keep.trans hK0 hkn (fun _ _ h => h)
            clear hkn
            (refine hK _ _ (fun _ => InX.mk hK0) (fun hI => ?_); have hI := hI (by simp); clear hK K; try simp only [Act.put, List.setIfInBounds_toArray, List.set_cons_zero, List.set_cons_succ])
            (refine wpF_one 6 rfl (by kernel_rfl) rfl (fun K hK => ?_))
            refine wp_store_row 33 (.tmp 5) (.tmp 21) rfl p _ rfl rfl 33 _ hP size33 rfl (by simp [Value.oneCell']) ?_
            have hPge' : w4.heap.size ≤ p := ep ▸ hPge
            have hQge' : w4.heap.size ≤ q := eq ▸ hQge
            have hne' : p ≠ q := by omega
            have hend := same_end hPge' hQge' hne' hK0 hP hQ hB1 (fun b hb => by omega) hB2 (fun b hb => by omega) hl1 hl2 hx1 hx2
            (refine hK _ _ (fun _ => InX.mk (Keep.setRow hK0 (Or.inl hPge') _)) (fun hI => ?_); have hI := hI (by simp); clear hK K; try simp only [Act.put, List.setIfInBounds_toArray, List.set_cons_zero, List.set_cons_succ])
            (refine wpF_one 7 rfl (by kernel_rfl) rfl (fun K hK => ?_))
            refine wp_store_row 33 (.tmp 6) (.tmp 23) rfl q _ rfl rfl 33 _ (hQ.setRowOther (Ne.symm hne') _) size33 rfl (by simp [Value.oneCell']) ?_
            (refine hK _ _ (fun h => absurd (by simp) h) (fun _ => ?_); clear hK K; try simp only [Act.put, List.setIfInBounds_toArray, List.set_cons_zero, List.set_cons_succ])
            (refine wpF_done (by kernel_rfl) ?_ _)
            go_wp2_with fail
            go_meet
            refine ⟨_, _, _, _, rfl, rfl, hend.1, hend.2.1, hend.2.2.1, hend.2.2.2.1, hend.2.2.2.2.1, hend.2.2.2.2.2.1, Keep.trans hk4' hend.2.2.2.2.2.2 (fun _ _ h => h)⟩
          exact many_nil
        exact many_nil
      exact many_nil
    refine many_cons ?_ ?_
    · refine wpF_way 5 rfl rfl (fun K hK => ?_)
      go_simp
      have hQge := hK0.size
      have hQ := Blk.new x0 zeroNode 33
      have hkn : Keep Nb x0 (x0.alloc (.cells zeroNode 33)) := Keep.alloc (Keep.refl _ _) _
      rw [show (#[.int .i64 0, .int .u8 0, .int .u64 0, .int .u64 0, .int .u64 0, .int .u64 0, .int .i64 0, .int .i64 0, .int .i64 0, .slice none 0 0] : Array Value) = zeroNode from rfl]
      generalize x0.alloc (.cells zeroNode 33) = x1 at hQ hkn ⊢
      have s0 := hkn.size
      generalize eq : x0.heap.size = q at hQ ⊢
      replace hx1 := Blk.keep hx1 hkn id; replace hx2 := Blk.keep hx2 hkn id; replace hK0 := Keep.trans hK0 hkn (fun _ _ h => h)
      clear hkn
      (refine hK _ _ (fun _ => InX.mk hK0) (fun hI => ?_); have hI := hI (by simp); clear hK K; try simp only [Act.put, List.setIfInBounds_toArray, List.set_cons_zero, List.set_cons_succ])
      refine wpF_many [1, 4] (by kernel_rfl) (by simp) ?_
      refine many_cons ?_ ?_
      · refine wpF_way 1 rfl rfl (fun K hK => ?_)
        go_simp
        refine (theirs_any 400 (by omega) T (by omega) _ _ (Lies_keep (Keep.trans hk4' hK0 (fun _ _ h => h)) hl)).mono ?_
        rintro e x2 ⟨S1, rfl, hB1, hkn⟩
        obtain ⟨A1, A1n, rfl, _⟩ := LiesP_def.1 hB1
        have s1 := hkn.size
        have lq1 := hQ.lt
        simp only [Nd.row]
        replace hQ := Blk.keep hQ hkn id; replace hx1 := Blk.keep hx1 hkn id; replace hx2 := Blk.keep hx2 hkn id; replace hK0 := Keep.trans hK0 hkn (fun _ _ h => h)
        clear hkn
        (refine hK _ _ (fun _ => InX.mk hK0) (fun hI => ?_); have hI := hI (by simp); clear hK K; try simp only [Act.put, List.setIfInBounds_toArray, List.set_cons_zero, List.set_cons_succ])
        refine wpF_many [3, 4] (by kernel_rfl) (by simp) ?_
        refine many_cons ?_ ?_
        · refine wpF_way 3 rfl rfl (fun K hK => ?_)
          go_simp
          refine (theirs_any 400 (by omega) U (by omega) _ _ (Lies_keep (Keep.trans hk4' hK0 (fun _ _ h => h)) hl')).mono ?_
          rintro e x3 ⟨S2, rfl, hB2, hkn⟩
          obtain ⟨A2, A2n, rfl, _⟩ := LiesP_def.1 hB2
          have s2 := hkn.size
          have lq2 := hQ.lt
          simp only [Nd.row]
          replace hQ := Blk.keep hQ hkn id; replace hB1 := Lies_keep hkn hB1; replace hx1 := Blk.keep hx1 hkn id; replace hx2 := Blk.keep hx2 hkn id; replace hK0 := Keep.trans hK0 hkn (fun _ _ h => h)
          clear hkn
          (refine hK _ _ (fun _ => InX.mk hK0) (fun hI => ?_); have hI := hI (by simp); clear hK K; try simp only [Act.put, List.setIfInBounds_toArray, List.set_cons_zero, List.set_cons_succ])
          refine wpF_many [4] (by kernel_rfl) (by simp) ?_
          refine many_cons ?_ ?_
          · refine wpF_way 4 rfl rfl (fun K hK => ?_)
            go_simp
            have hPge := hK0.size
            have hP := Blk.new x3 zeroNode 33
            have hne := hQ.lt
            have hkn : Keep Nb x3 (x3.alloc (.cells zeroNode 33)) := Keep.alloc (Keep.refl _ _) _
            rw [show (#[.int .i64 0, .int .u8 0, .int .u64 0, .int .u64 0, .int .u64 0, .int .u64 0, .int .i64 0, .int .i64 0, .int .i64 0, .slice none 0 0] : Array Value) = zeroNode from rfl]
            generalize x3.alloc (.cells zeroNode 33) = x4 at hP hkn ⊢
            have s3 := hkn.size
            generalize ep : x3.heap.size = p at hP ⊢
            replace hQ := Blk.keep hQ hkn id; replace hB1 := Lies_keep hkn hB1; replace hB2 := Lies_keep hkn hB2; replace hx1 := Blk.keep hx1 hkn id; replace hx2 := Blk.keep hx2 hkn id; replace hK0 := Keep.trans hK0 hkn (fun _ _ h => h)
            clear hkn
            (refine hK _ _ (fun _ => InX.mk hK0) (fun hI => ?_); have hI := hI (by simp); clear hK K; try simp only [Act.put, List.setIfInBounds_toArray, List.set_cons_zero, List.set_cons_succ])
            (refine wpF_one 6 rfl (by kernel_rfl) rfl (fun K hK => ?_))
            refine wp_store_row 33 (.tmp 5) (.tmp 21) rfl p _ rfl rfl 33 _ hP size33 rfl (by simp [Value.oneCell']) ?_
            have hPge' : w4.heap.size ≤ p := ep ▸ hPge
            have hQge' : w4.heap.size ≤ q := eq ▸ hQge
            have hne' : p ≠ q := by omega
            have hend := same_end hPge' hQge' hne' hK0 hP hQ hB1 (fun b hb => by omega) hB2 (fun b hb => by omega) hl1 hl2 hx1 hx2
            (refine hK _ _ (fun _ => InX.mk (Keep.setRow hK0 (Or.inl hPge') _)) (fun hI => ?_); have hI := hI (by simp); clear hK K; try simp only [Act.put, List.setIfInBounds_toArray, List.set_cons_zero, List.set_cons_succ])
            (refine wpF_one 7 rfl (by kernel_rfl) rfl (fun K hK => ?_))
            refine wp_store_row 33 (.tmp 6) (.tmp 23) rfl q _ rfl rfl 33 _ (hQ.setRowOther (Ne.symm hne') _) size33 rfl (by simp [Value.oneCell']) ?_
            (refine hK _ _ (fun h => absurd (by simp) h) (fun _ => ?_); clear hK K; try simp only [Act.put, List.setIfInBounds_toArray, List.set_cons_zero, List.set_cons_succ])
            (refine wpF_done (by kernel_rfl) ?_ _)
            go_wp2_with fail
            go_meet
            refine ⟨_, _, _, _, rfl, rfl, hend.1, hend.2.1, hend.2.2.1, hend.2.2.2.1, hend.2.2.2.2.1, hend.2.2.2.2.2.1, Keep.trans hk4' hend.2.2.2.2.2.2 (fun _ _ h => h)⟩
          exact many_nil
        refine many_cons ?_ ?_
        · refine wpF_way 4 rfl rfl (fun K hK => ?_)
          go_simp
          have hPge := hK0.size
          have hP := Blk.new x2 zeroNode 33
          have hne := hQ.lt
          have hkn : Keep Nb x2 (x2.alloc (.cells zeroNode 33)) := Keep.alloc (Keep.refl _ _) _
          rw [show (#[.int .i64 0, .int .u8 0, .int .u64 0, .int .u64 0, .int .u64 0, .int .u64 0, .int .i64 0, .int .i64 0, .int .i64 0, .slice none 0 0] : Array Value) = zeroNode from rfl]
          generalize x2.alloc (.cells zeroNode 33) = x3 at hP hkn ⊢
          have s2 := hkn.size
          generalize ep : x2.heap.size = p at hP ⊢
          replace hQ := Blk.keep hQ hkn id; replace hB1 := Lies_keep hkn hB1; replace hx1 := Blk.keep hx1 hkn id; replace hx2 := Blk.keep hx2 hkn id; replace hK0 := Keep.trans hK0 hkn (fun _ _ h => h)
          clear hkn
          (refine hK _ _ (fun _ => InX.mk hK0) (fun hI => ?_); have hI := hI (by simp); clear hK K; try simp only [Act.put, List.setIfInBounds_toArray, List.set_cons_zero, List.set_cons_succ])
          refine wpF_many [3] (by kernel_rfl) (by simp) ?_
          refine many_cons ?_ ?_
          · refine wpF_way 3 rfl rfl (fun K hK => ?_)
            go_simp
            refine (theirs_any 400 (by omega) U (by omega) _ _ (Lies_keep (Keep.trans hk4' hK0 (fun _ _ h => h)) hl')).mono ?_
            rintro e x4 ⟨S2, rfl, hB2, hkn⟩
            obtain ⟨A2, A2n, rfl, _⟩ := LiesP_def.1 hB2
            have s3 := hkn.size
            have lp3 := hP.lt
            have lq3 := hQ.lt
            simp only [Nd.row]
            replace hP := Blk.keep hP hkn id; replace hQ := Blk.keep hQ hkn id; replace hB1 := Lies_keep hkn hB1; replace hx1 := Blk.keep hx1 hkn id; replace hx2 := Blk.keep hx2 hkn id; replace hK0 := Keep.trans hK0 hkn (fun _ _ h => h)
            clear hkn
            (refine hK _ _ (fun _ => InX.mk hK0) (fun hI => ?_); have hI := hI (by simp); clear hK K; try simp only [Act.put, List.setIfInBounds_toArray, List.set_cons_zero, List.set_cons_succ])
            (refine wpF_one 6 rfl (by kernel_rfl) rfl (fun K hK => ?_))
            refine wp_store_row 33 (.tmp 5) (.tmp 21) rfl p _ rfl rfl 33 _ hP size33 rfl (by simp [Value.oneCell']) ?_
            have hPge' : w4.heap.size ≤ p := ep ▸ hPge
            have hQge' : w4.heap.size ≤ q := eq ▸ hQge
            have hne' : p ≠ q := by omega
            have hend := same_end hPge' hQge' hne' hK0 hP hQ hB1 (fun b hb => by omega) hB2 (fun b hb => by omega) hl1 hl2 hx1 hx2
            (refine hK _ _ (fun _ => InX.mk (Keep.setRow hK0 (Or.inl hPge') _)) (fun hI => ?_); have hI := hI (by simp); clear hK K; try simp only [Act.put, List.setIfInBounds_toArray, List.set_cons_zero, List.set_cons_succ])
            (refine wpF_one 7 rfl (by kernel_rfl) rfl (fun K hK => ?_))
            refine wp_store_row 33 (.tmp 6) (.tmp 23) rfl q _ rfl rfl 33 _ (hQ.setRowOther (Ne.symm hne') _) size33 rfl (by simp [Value.oneCell']) ?_
            (refine hK _ _ (fun h => absurd (by simp) h) (fun _ => ?_); clear hK K; try simp only [Act.put, List.setIfInBounds_toArray, List.set_cons_zero, List.set_cons_succ])
            (refine wpF_done (by kernel_rfl) ?_ _)
            go_wp2_with fail
            go_meet
            refine ⟨_, _, _, _, rfl, rfl, hend.1, hend.2.1, hend.2.2.1, hend.2.2.2.1, hend.2.2.2.2.1, hend.2.2.2.2.2.1, Keep.trans hk4' hend.2.2.2.2.2.2 (fun _ _ h => h)⟩
          exact many_nil
        exact many_nil
      refine many_cons ?_ ?_
      · refine wpF_way 4 rfl rfl (fun K hK => ?_)
        go_simp
        have hPge := hK0.size
        have hP := Blk.new x1 zeroNode 33
        have hne := hQ.lt
        have hkn : Keep Nb x1 (x1.alloc (.cells zeroNode 33)) := Keep.alloc (Keep.refl _ _) _
        rw [show (#[.int .i64 0, .int .u8 0, .int .u64 0, .int .u64 0, .int .u64 0, .int .u64 0, .int .i64 0, .int .i64 0, .int .i64 0, .slice none 0 0] : Array Value) = zeroNode from rfl]
        generalize x1.alloc (.cells zeroNode 33) = x2 at hP hkn ⊢
        have s1 := hkn.size
        generalize ep : x1.heap.size = p at hP ⊢
        replace hQ := Blk.keep hQ hkn id; replace hx1 := Blk.keep hx1 hkn id; replace hx2 := Blk.keep hx2 hkn id; replace hK0 := Keep.trans hK0 hkn (fun _ _ h => h)
        clear hkn
        (refine hK _ _ (fun _ => InX.mk hK0) (fun hI => ?_); have hI := hI (by simp); clear hK K; try simp only [Act.put, List.setIfInBounds_toArray, List.set_cons_zero, List.set_cons_succ])
        refine wpF_many [1] (by kernel_rfl) (by simp) ?_
        refine many_cons ?_ ?_
        · refine wpF_way 1 rfl rfl (fun K hK => ?_)
          go_simp
          refine (theirs_any 400 (by omega) T (by omega) _ _ (Lies_keep (Keep.trans hk4' hK0 (fun _ _ h => h)) hl)).mono ?_
          rintro e x3 ⟨S1, rfl, hB1, hkn⟩
          obtain ⟨A1, A1n, rfl, _⟩ := LiesP_def.1 hB1
          have s2 := hkn.size
          have lp2 := hP.lt
          have lq2 := hQ.lt
          simp only [Nd.row]
          replace hP := Blk.keep hP hkn id; replace hQ := Blk.keep hQ hkn id; replace hx1 := Blk.keep hx1 hkn id; replace hx2 := Blk.keep hx2 hkn id; replace hK0 := Keep.trans hK0 hkn (fun _ _ h => h)
          clear hkn
          (refine hK _ _ (fun _ => InX.mk hK0) (fun hI => ?_); have hI := hI (by simp); clear hK K; try simp only [Act.put, List.setIfInBounds_toArray, List.set_cons_zero, List.set_cons_succ])
          refine wpF_many [3] (by kernel_rfl) (by simp) ?_
          refine many_cons ?_ ?_
          · refine wpF_way 3 rfl rfl (fun K hK => ?_)
            go_simp
            refine (theirs_any 400 (by omega) U (by omega) _ _ (Lies_keep (Keep.trans hk4' hK0 (fun _ _ h => h)) hl')).mono ?_
            rintro e x4 ⟨S2, rfl, hB2, hkn⟩
            obtain ⟨A2, A2n, rfl, _⟩ := LiesP_def.1 hB2
            have s3 := hkn.size
            have lp3 := hP.lt
            have lq3 := hQ.lt
            simp only [Nd.row]
            replace hP := Blk.keep hP hkn id; replace hQ := Blk.keep hQ hkn id; replace hB1 := Lies_keep hkn hB1; replace hx1 := Blk.keep hx1 hkn id; replace hx2 := Blk.keep hx2 hkn id; replace hK0 := Keep.trans hK0 hkn (fun _ _ h => h)
            clear hkn
            (refine hK _ _ (fun _ => InX.mk hK0) (fun hI => ?_); have hI := hI (by simp); clear hK K; try simp only [Act.put, List.setIfInBounds_toArray, List.set_cons_zero, List.set_cons_succ])
            (refine wpF_one 6 rfl (by kernel_rfl) rfl (fun K hK => ?_))
            refine wp_store_row 33 (.tmp 5) (.tmp 21) rfl p _ rfl rfl 33 _ hP size33 rfl (by simp [Value.oneCell']) ?_
            have hPge' : w4.heap.size ≤ p := ep ▸ hPge
            have hQge' : w4.heap.size ≤ q := eq ▸ hQge
            have hne' : p ≠ q := by omega
            have hend := same_end hPge' hQge' hne' hK0 hP hQ hB1 (fun b hb => by omega) hB2 (fun b hb => by omega) hl1 hl2 hx1 hx2
            (refine hK _ _ (fun _ => InX.mk (Keep.setRow hK0 (Or.inl hPge') _)) (fun hI => ?_); have hI := hI (by simp); clear hK K; try simp only [Act.put, List.setIfInBounds_toArray, List.set_cons_zero, List.set_cons_succ])
            (refine wpF_one 7 rfl (by kernel_rfl) rfl (fun K hK => ?_))
            refine wp_store_row 33 (.tmp 6) (.tmp 23) rfl q _ rfl rfl 33 _ (hQ.setRowOther (Ne.symm hne') _) size33 rfl (by simp [Value.oneCell']) ?_
            (refine hK _ _ (fun h => absurd (by simp) h) (fun _ => ?_); clear hK K; try simp only [Act.put, List.setIfInBounds_toArray, List.set_cons_zero, List.set_cons_succ])
            (refine wpF_done (by kernel_rfl) ?_ _)
            go_wp2_with fail
            go_meet
            refine ⟨_, _, _, _, rfl, rfl, hend.1, hend.2.1, hend.2.2.1, hend.2.2.2.1, hend.2.2.2.2.1, hend.2.2.2.2.2.1, Keep.trans hk4' hend.2.2.2.2.2.2 (fun _ _ h => h)⟩
          exact many_nil
        exact many_nil
      exact many_nil
    exact many_nil
  case rest =>
    obtain ⟨p, q, S1, S2, rfl, rfl, hp, hq, hS1, hS2, hx1, hx2, hk⟩ := hcut
    have hlT := Lies_keep hk hl
    have hlU := Lies_keep hk hl'
    obtain ⟨A1, n1, rfl, _⟩ := Lies_def.1 hS1
    obtain ⟨A2, n2, rfl, _⟩ := Lies_def.1 hS2
    generalize hR : same T U = R
    have e1 : same U T = R := by rw [same_symm, hR]
    have e2 : same T T = true := same_refl T
    have HR := Lib.hid hR; have HR1 := Lib.hid e1; have HR2 := Lib.hid e2; clear hR e1 e2
    have eRR : (R == R) = true := by cases R <;> rfl
    (have a0 := Blk.cell hp 0 (u := .int .i64 T.h.k) rfl; have a1 := Blk.cell hp 1 (u := .int .u8 T.h.c) rfl; have a2 := Blk.cell hp 2 (u := .int .u64 T.h.s0) rfl; have a3 := Blk.cell hp 3 (u := .int .u64 T.h.s1) rfl; have a4 := Blk.cell hp 4 (u := .int .u64 T.h.s2) rfl; have a5 := Blk.cell hp 5 (u := .int .u64 T.h.s3) rfl; have a6 := Blk.cell hp 6 (u := .int .i64 T.h.n) rfl; have a7 := Blk.cell hp 7 (u := .int .i64 T.h.mn) rfl; have a8 := Blk.cell hp 8 (u := .int .i64 T.h.mx) rfl; have a9 := Blk.cell hp 9 (u := (.slice A1 T.l.length n1)) rfl)
    (have b0 := Blk.cell hq 0 (u := .int .i64 U.h.k) rfl; have b1 := Blk.cell hq 1 (u := .int .u8 U.h.c) rfl; have b2 := Blk.cell hq 2 (u := .int .u64 U.h.s0) rfl; have b3 := Blk.cell hq 3 (u := .int .u64 U.h.s1) rfl; have b4 := Blk.cell hq 4 (u := .int .u64 U.h.s2) rfl; have b5 := Blk.cell hq 5 (u := .int .u64 U.h.s3) rfl; have b6 := Blk.cell hq 6 (u := .int .i64 U.h.n) rfl; have b7 := Blk.cell hq 7 (u := .int .i64 U.h.mn) rfl; have b8 := Blk.cell hq 8 (u := .int .i64 U.h.mx) rfl; have b9 := Blk.cell hq 9 (u := (.slice A2 U.l.length n2)) rfl)
    (have c0 := Blk.cell hx1 0 (u := .int .i64 T.h.k) rfl; have c1 := Blk.cell hx1 1 (u := .int .u8 T.h.c) rfl; have c2 := Blk.cell hx1 2 (u := .int .u64 T.h.s0) rfl; have c3 := Blk.cell hx1 3 (u := .int .u64 T.h.s1) rfl; have c4 := Blk.cell hx1 4 (u := .int .u64 T.h.s2) rfl; have c5 := Blk.cell hx1 5 (u := .int .u64 T.h.s3) rfl; have c6 := Blk.cell hx1 6 (u := .int .i64 T.h.n) rfl; have c7 := Blk.cell hx1 7 (u := .int .i64 T.h.mn) rfl; have c8 := Blk.cell hx1 8 (u := .int .i64 T.h.mx) rfl; have c9 := Blk.cell hx1 9 (u := (.slice A T.l.length cap)) rfl)
    (have d0 := Blk.cell hx2 0 (u := .int .i64 U.h.k) rfl; have d1 := Blk.cell hx2 1 (u := .int .u8 U.h.c) rfl; have d2 := Blk.cell hx2 2 (u := .int .u64 U.h.s0) rfl; have d3 := Blk.cell hx2 3 (u := .int .u64 U.h.s1) rfl; have d4 := Blk.cell hx2 4 (u := .int .u64 U.h.s2) rfl; have d5 := Blk.cell hx2 5 (u := .int .u64 U.h.s3) rfl; have d6 := Blk.cell hx2 6 (u := .int .i64 U.h.n) rfl; have d7 := Blk.cell hx2 7 (u := .int .i64 U.h.mn) rfl; have d8 := Blk.cell hx2 8 (u := .int .i64 U.h.mx) rfl; have d9 := Blk.cell hx2 9 (u := (.slice A' U.l.length cap')) rfl)
    have lp := hp.lt
    have lq := hq.lt
    have l1 := hx1.lt
    have l2 := hx2.lt
    go_wp2_with fail
    (refine wp_region_f [22] (InX Nb _) (by kernel_rfl) (InX.mk (Keep.drew (Keep.refl _ _))) (fun hI => ?_))
    have xx : ∀ k, ¬ Nb k := fun _ h => h
    (refine wpF_take (v := ?_) 0 rfl (by kernel_rfl) (by kernel_rfl) (by kernel_rfl) (by kernel_rfl) (fun _ _ _ h => h) (by assumption) rfl ?_ ?_; rotate_left; (focus (rintro _ ⟨E, rfl⟩; go_simp; (try with_reducible rfl))); simp only [Act.put, List.setIfInBounds_toArray, List.set_cons_zero, List.set_cons_succ])
    (refine wpF_take (v := ?_) 1 rfl (by kernel_rfl) (by kernel_rfl) (by kernel_rfl) (by kernel_rfl) (fun _ _ _ h => h) (by assumption) rfl ?_ ?_; rotate_left; (focus (rintro _ ⟨E, rfl⟩; go_simp; (try with_reducible rfl))); simp only [Act.put, List.setIfInBounds_toArray, List.set_cons_zero, List.set_cons_succ])
    (refine wpF_take (v := ?_) 3 rfl (by kernel_rfl) (by kernel_rfl) (by kernel_rfl) (by kernel_rfl) (fun _ _ _ h => h) (by assumption) rfl ?_ ?_; rotate_left; (focus (rintro _ ⟨E, rfl⟩; go_simp; (try with_reducible rfl))); simp only [Act.put, List.setIfInBounds_toArray, List.set_cons_zero, List.set_cons_succ])
    (refine wpF_take (v := ?_) 4 rfl (by kernel_rfl) (by kernel_rfl) (by kernel_rfl) (by kernel_rfl) (fun _ _ _ h => h) (by assumption) rfl ?_ ?_; rotate_left; (focus (rintro _ ⟨E, rfl⟩; go_simp; (try with_reducible rfl))); simp only [Act.put, List.setIfInBounds_toArray, List.set_cons_zero, List.set_cons_succ])
    have hK0 : Keep Nb wc wc.drew := (Keep.refl _ _).drew
    generalize wc.drew = x0 at hK0 hI ⊢
    (refine wpF_one 2 rfl (by kernel_rfl) rfl (fun K hK => ?_))
    go_simp
    refine (same_any 400 (by omega) T U hcT _ _ _ (Lies_keep hK0 hS1) (Lies_keep hK0 hS2)).mono ?_
    rintro e x1 ⟨he, hkn⟩
    subst he
    replace hK0 := Keep.trans hK0 hkn (fun _ _ h => h)
    clear hkn
    (refine hK _ _ (fun _ => InX.mk hK0) (fun hI => ?_); have hI := hI (by simp); clear hK K; try simp only [Act.put, List.setIfInBounds_toArray, List.set_cons_zero, List.set_cons_succ])
    (refine wpF_one 5 rfl (by kernel_rfl) rfl (fun K hK => ?_))
    go_simp
    refine (rsame_any 400 (by omega) T U hcT _ _ _ (Lies_keep hK0 hlT) (Lies_keep hK0 hlU)).mono ?_
    rintro e x2 ⟨he, hkn⟩
    subst he
    replace hK0 := Keep.trans hK0 hkn (fun _ _ h => h)
    clear hkn
    rw [HR.out]
    (refine hK _ _ (fun _ => InX.mk hK0) (fun hI => ?_); have hI := hI (by simp); clear hK K; try simp only [Act.put, List.setIfInBounds_toArray, List.set_cons_zero, List.set_cons_succ])
    (refine wpF_take (v := ?_) 6 rfl (by kernel_rfl) (by kernel_rfl) (by kernel_rfl) (by kernel_rfl) (fun _ _ _ h => h) (by assumption) rfl ?_ ?_; rotate_left; (focus (rintro _ ⟨E, rfl⟩; go_simp; (try with_reducible rfl))); simp only [Act.put, List.setIfInBounds_toArray, List.set_cons_zero, List.set_cons_succ])
    (refine wpF_take (v := ?_) 7 rfl (by kernel_rfl) (by kernel_rfl) (by kernel_rfl) (by kernel_rfl) (fun _ _ _ h => h) (by assumption) rfl ?_ ?_; rotate_left; (focus (rintro _ ⟨E, rfl⟩; go_simp; (try with_reducible rfl))); simp only [Act.put, List.setIfInBounds_toArray, List.set_cons_zero, List.set_cons_succ])
    (refine wpF_take (v := ?_) 8 rfl (by kernel_rfl) (by kernel_rfl) (by kernel_rfl) (by kernel_rfl) (fun _ _ _ h => h) (by assumption) rfl ?_ ?_; rotate_left; (focus (rintro _ ⟨E, rfl⟩; go_simp; (try with_reducible rfl))); simp only [Act.put, List.setIfInBounds_toArray, List.set_cons_zero, List.set_cons_succ])
    (refine wpF_take (v := ?_) 9 rfl (by kernel_rfl) (by kernel_rfl) (by kernel_rfl) (by kernel_rfl) (fun _ _ _ h => h) (by assumption) rfl ?_ ?_; rotate_left; (focus (rintro _ ⟨E, rfl⟩; go_simp; (try with_reducible rfl))); simp only [Act.put, List.setIfInBounds_toArray, List.set_cons_zero, List.set_cons_succ])
    (refine wpF_take (v := ?_) 11 rfl (by kernel_rfl) (by kernel_rfl) (by kernel_rfl) (by kernel_rfl) (fun _ _ _ h => h) (by assumption) rfl ?_ ?_; rotate_left; (focus (rintro _ ⟨E, rfl⟩; go_simp; (try with_reducible rfl))); simp only [Act.put, List.setIfInBounds_toArray, List.set_cons_zero, List.set_cons_succ])
    (refine wpF_take (v := ?_) 12 rfl (by kernel_rfl) (by kernel_rfl) (by kernel_rfl) (by kernel_rfl) (fun _ _ _ h => h) (by assumption) rfl ?_ ?_; rotate_left; (focus (rintro _ ⟨E, rfl⟩; go_simp; (try with_reducible rfl))); simp only [Act.put, List.setIfInBounds_toArray, List.set_cons_zero, List.set_cons_succ])
    (refine wpF_one 10 rfl (by kernel_rfl) rfl (fun K hK => ?_))
    go_simp
    refine (same_any 400 (by omega) U T hcU _ _ _ (Lies_keep hK0 hS2) (Lies_keep hK0 hS1)).mono ?_
    rintro e x3 ⟨he, hkn⟩
    subst he
    replace hK0 := Keep.trans hK0 hkn (fun _ _ h => h)
    clear hkn
    rw [HR1.out]
    (refine hK _ _ (fun _ => InX.mk hK0) (fun hI => ?_); have hI := hI (by simp); clear hK K; try simp only [Act.put, List.setIfInBounds_toArray, List.set_cons_zero, List.set_cons_succ])
    (refine wpF_one 13 rfl (by kernel_rfl) rfl (fun K hK => ?_))
    go_simp
    refine (same_any 400 (by omega) T U hcT _ _ _ (Lies_keep hK0 hS1) (Lies_keep hK0 hS2)).mono ?_
    rintro e x4 ⟨he, hkn⟩
    subst he
    replace hK0 := Keep.trans hK0 hkn (fun _ _ h => h)
    clear hkn
    rw [HR.out]
    (refine hK _ _ (fun _ => InX.mk hK0) (fun hI => ?_); have hI := hI (by simp); clear hK K; try simp only [Act.put, List.setIfInBounds_toArray, List.set_cons_zero, List.set_cons_succ])
    (refine wpF_take (v := ?_) 14 rfl (by kernel_rfl) (by kernel_rfl) (by kernel_rfl) (by kernel_rfl) (fun _ _ _ h => h) (by assumption) rfl ?_ ?_; rotate_left; (focus (rintro _ ⟨E, rfl⟩; go_simp; (try with_reducible rfl))); simp only [Act.put, List.setIfInBounds_toArray, List.set_cons_zero, List.set_cons_succ])
    (refine wpF_take (v := ?_) 15 rfl (by kernel_rfl) (by kernel_rfl) (by kernel_rfl) (by kernel_rfl) (fun _ _ _ h => h) (by assumption) rfl ?_ ?_; rotate_left; (focus (rintro _ ⟨E, rfl⟩; go_simp; (try with_reducible rfl))); simp only [Act.put, List.setIfInBounds_toArray, List.set_cons_zero, List.set_cons_succ])
    (refine wpF_take (v := ?_) 16 rfl (by kernel_rfl) (by kernel_rfl) (by kernel_rfl) (by kernel_rfl) (fun _ _ _ h => h) (by assumption) rfl ?_ ?_; rotate_left; (focus (rintro _ ⟨E, rfl⟩; go_simp; (try with_reducible rfl))); simp only [Act.put, List.setIfInBounds_toArray, List.set_cons_zero, List.set_cons_succ])
    (refine wpF_take (v := ?_) 17 rfl (by kernel_rfl) (by kernel_rfl) (by kernel_rfl) (by kernel_rfl) (fun _ _ _ h => h) (by assumption) rfl ?_ ?_; rotate_left; (focus (rintro _ ⟨E, rfl⟩; go_simp; (try with_reducible rfl))); simp only [Act.put, List.setIfInBounds_toArray, List.set_cons_zero, List.set_cons_succ])
    (refine wpF_take (v := ?_) 18 rfl (by kernel_rfl) (by kernel_rfl) (by kernel_rfl) (by kernel_rfl) (fun _ _ _ h => h) (by assumption) rfl ?_ ?_; rotate_left; (focus (rintro _ ⟨E, rfl⟩; go_simp; (try with_reducible rfl))); simp only [Act.put, List.setIfInBounds_toArray, List.set_cons_zero, List.set_cons_succ])
    (refine wpF_one 19 rfl (by kernel_rfl) rfl (fun K hK => ?_))
    go_simp
    refine (theirs_any 400 (by omega) T hcT _ _ (Lies_keep hK0 hlT)).mono ?_
    rintro e x5 ⟨S5, he, hS5, hkn⟩
    obtain ⟨A5, n5, rfl, _⟩ := LiesP_def.1 hS5
    subst he
    replace hK0 := Keep.trans hK0 hkn (fun _ _ h => h)
    clear hkn
    simp only [Nd.row]
    (refine hK _ _ (fun _ => InX.mk hK0) (fun hI => ?_); have hI := hI (by simp); clear hK K; try simp only [Act.put, List.setIfInBounds_toArray, List.set_cons_zero, List.set_cons_succ])
    (refine wpF_one 20 rfl (by kernel_rfl) rfl (fun K hK => ?_))
    go_simp
    refine (same_any 400 (by omega) T T hcT _ _ _ (Lies_keep hK0 hS1) (LiesP_all hS5)).mono ?_
    rintro e x6 ⟨he, hkn⟩
    subst he
    replace hK0 := Keep.trans hK0 hkn (fun _ _ h => h)
    clear hkn
    rw [HR2.out]
    (refine hK _ _ (fun _ => InX.mk hK0) (fun hI => ?_); have hI := hI (by simp); clear hK K; try simp only [Act.put, List.setIfInBounds_toArray, List.set_cons_zero, List.set_cons_succ])
    (refine wpF_take (v := ?_) 21 rfl (by kernel_rfl) (by kernel_rfl) (by kernel_rfl) (by kernel_rfl) (fun _ _ _ h => h) (by assumption) rfl ?_ ?_; rotate_left; (focus (rintro _ ⟨E, rfl⟩; go_simp; (try with_reducible rfl))); simp only [Act.put, List.setIfInBounds_toArray, List.set_cons_zero, List.set_cons_succ])
    (refine wpF_one 22 rfl (by kernel_rfl) rfl (fun K hK => ?_))
    go_simp
    (refine hK _ _ (fun h => absurd (by simp) h) (fun _ => ?_); clear hK K; try simp only [Act.put, List.setIfInBounds_toArray, List.set_cons_zero, List.set_cons_succ])
    (refine wpF_done (by kernel_rfl) ?_ _)
    go_wp2_with fail
    go_ret
    exact ⟨rfl, Keep.trans hk hK0 (fun _ _ h => h)⟩

theorem lawsame_any (T U : Nd) (v v' : Value) (w : World) (hl : Lies w T v) (hl' : Lies w U v') :
    Calls Try.prog 3 #[.agg (Nd.row T v), .agg (Nd.row U v')] w fun e w' => e = .returned (.bool true) ∧ Keep Nb w w' := by
  by_cases h1 : few T = true
  · by_cases h2 : few U = true
    · exact same_true T U v v' w hl hl' h1 h2
    · exact same_half T U v v' w hl hl' h1 (by simpa using h2)
  · exact same_false T U v v' w hl hl' (by simpa using h1)

end Go.Proofs.Ytkidjbfapldmbaa
