/- Of any tree the reference tells whether it is formed. -/
import Derived.Test.YtkidjbfapldmbaaRwalk5
import Derived.Test.YtkidjbfapldmbaaFormed
namespace Go.Proofs.Ytkidjbfapldmbaa
set_option linter.unusedVariables false
set_option linter.unusedSimpArgs false
open Go.RowKit P8

set_option maxHeartbeats 2000000 in
theorem rformed_any (T : Nd) (hc : count T ≤ 900000) (v : Value) (w : World) (hl : Lies w T v) :
    Calls Try.prog 31 #[.agg (Nd.row T v)] w fun e w' => e = .returned (.bool (formedT T)) ∧ Keep Nb w w' := by
  have hcn := fun wx => rcount_any (count T) T (Nat.le_refl _) (by omega) v wx
  have hdp := fun wx => rdeep_any (count T) T (Nat.le_refl _) (by omega) v wx
  have hal := rwalk_any (count T) hc T (Nat.le_refl _) ⟨0, fun _ => false⟩ (by simp) (by simp; omega) v
  have hdc := deep_le T
  generalize hR : formedT T = R
  unfold formedT at hR
  generalize count T = n at *
  generalize deep T = d at *
  generalize allT T ⟨0, fun _ => false⟩ = r at *
  obtain ⟨r1, r2⟩ := r
  simp only [boolRow] at hal
  have HCN := Lib.hid hcn; clear hcn
  have HDP := Lib.hid hdp; clear hdp
  have HAL := Lib.hid hal; clear hal
  have hlt := Lies_def.1 hl
  obtain ⟨A, cap, rfl, _⟩ := hlt
  have HR := Lib.hid hR; clear hR
  simp only [Nd.row]
  by_cases e1 : n ≤ 200
  · have m1 : decide (200 < (n : Int)) = false := by simp; omega
    by_cases e2 : d ≤ 10
    · have m3 : decide (10 < (d : Int)) = false := by simp; omega
      go_enter Try.func31, Try.ntmps31
      go_wp2_with fail
      refine (HCN.out _ (Lies_keep (by repeat (first | assumption | exact Keep.refl _ _ | refine Keep.alloc ?_ _ | refine Keep.drew ?_ | refine Keep.setCell ?_ (Or.inl (by simp)) _ | refine Keep.setRow ?_ (Or.inl (by simp)) _)) hl)).mono ?_
      rintro e w2 ⟨rfl, hk2⟩
      have hbx := (Blk.new w _ _).keep hk2 id
      have hk2' : Keep Nb w w2 := Keep.trans (by repeat (first | assumption | exact Keep.refl _ _ | refine Keep.alloc ?_ _ | refine Keep.drew ?_ | refine Keep.setCell ?_ (Or.inl (by simp)) _ | refine Keep.setRow ?_ (Or.inl (by simp)) _)) hk2 (fun _ _ h => h)
      have hs2 := hbx.lt
      (have o0 := Blk.cell hbx 0 (u := .int .i64 T.h.k) rfl; have o1 := Blk.cell hbx 1 (u := .int .u8 T.h.c) rfl; have o2 := Blk.cell hbx 2 (u := .int .u64 T.h.s0) rfl; have o3 := Blk.cell hbx 3 (u := .int .u64 T.h.s1) rfl; have o4 := Blk.cell hbx 4 (u := .int .u64 T.h.s2) rfl; have o5 := Blk.cell hbx 5 (u := .int .u64 T.h.s3) rfl; have o6 := Blk.cell hbx 6 (u := .int .i64 T.h.n) rfl; have o7 := Blk.cell hbx 7 (u := .int .i64 T.h.mn) rfl; have o8 := Blk.cell hbx 8 (u := .int .i64 T.h.mx) rfl; have o9 := Blk.cell hbx 9 (u := (.slice A T.l.length cap)) rfl)
      go_wp2_with fail
      refine (HDP.out _ (Lies_keep hk2' hl)).mono ?_
      rintro e w3 ⟨rfl, hk3⟩
      have hbx3 := hbx.keep hk3 id
      have hs3 := hbx3.lt
      have hk3' : Keep Nb w w3 := hk2'.trans hk3 (fun _ _ h => h)
      (have p0 := Blk.cell hbx3 0 (u := .int .i64 T.h.k) rfl; have p1 := Blk.cell hbx3 1 (u := .int .u8 T.h.c) rfl; have p2 := Blk.cell hbx3 2 (u := .int .u64 T.h.s0) rfl; have p3 := Blk.cell hbx3 3 (u := .int .u64 T.h.s1) rfl; have p4 := Blk.cell hbx3 4 (u := .int .u64 T.h.s2) rfl; have p5 := Blk.cell hbx3 5 (u := .int .u64 T.h.s3) rfl; have p6 := Blk.cell hbx3 6 (u := .int .i64 T.h.n) rfl; have p7 := Blk.cell hbx3 7 (u := .int .i64 T.h.mn) rfl; have p8 := Blk.cell hbx3 8 (u := .int .i64 T.h.mx) rfl; have p9 := Blk.cell hbx3 9 (u := (.slice A T.l.length cap)) rfl)
      go_wp2_with fail
      refine (HAL.out _ (Lies_keep hk3' hl)).mono ?_
      rintro e w4 ⟨s', rfl, _, hk4⟩
      go_wp2_with fail
      go_ret
      exact ⟨ret_bool (by rw [← HR.out]; simp [e1, e2]), by have hk4' := hk3'.trans hk4 (fun _ _ h => h); clear hk4; exact (by repeat (first | assumption | exact Keep.refl _ _ | refine Keep.alloc ?_ _ | refine Keep.drew ?_ | refine Keep.setCell ?_ (Or.inl (by simp)) _ | refine Keep.setRow ?_ (Or.inl (by simp)) _))⟩
    · have m3 : decide (10 < (d : Int)) = true := by simp; omega
      go_enter Try.func31, Try.ntmps31
      go_wp2_with fail
      refine (HCN.out _ (Lies_keep (by repeat (first | assumption | exact Keep.refl _ _ | refine Keep.alloc ?_ _ | refine Keep.drew ?_ | refine Keep.setCell ?_ (Or.inl (by simp)) _ | refine Keep.setRow ?_ (Or.inl (by simp)) _)) hl)).mono ?_
      rintro e w2 ⟨rfl, hk2⟩
      have hbx := (Blk.new w _ _).keep hk2 id
      have hk2' : Keep Nb w w2 := Keep.trans (by repeat (first | assumption | exact Keep.refl _ _ | refine Keep.alloc ?_ _ | refine Keep.drew ?_ | refine Keep.setCell ?_ (Or.inl (by simp)) _ | refine Keep.setRow ?_ (Or.inl (by simp)) _)) hk2 (fun _ _ h => h)
      have hs2 := hbx.lt
      (have o0 := Blk.cell hbx 0 (u := .int .i64 T.h.k) rfl; have o1 := Blk.cell hbx 1 (u := .int .u8 T.h.c) rfl; have o2 := Blk.cell hbx 2 (u := .int .u64 T.h.s0) rfl; have o3 := Blk.cell hbx 3 (u := .int .u64 T.h.s1) rfl; have o4 := Blk.cell hbx 4 (u := .int .u64 T.h.s2) rfl; have o5 := Blk.cell hbx 5 (u := .int .u64 T.h.s3) rfl; have o6 := Blk.cell hbx 6 (u := .int .i64 T.h.n) rfl; have o7 := Blk.cell hbx 7 (u := .int .i64 T.h.mn) rfl; have o8 := Blk.cell hbx 8 (u := .int .i64 T.h.mx) rfl; have o9 := Blk.cell hbx 9 (u := (.slice A T.l.length cap)) rfl)
      go_wp2_with fail
      refine (HDP.out _ (Lies_keep hk2' hl)).mono ?_
      rintro e w3 ⟨rfl, hk3⟩
      go_wp2_with fail
      go_ret
      exact ⟨ret_bool (by rw [← HR.out]; simp [e2]), hk2'.trans hk3 (fun _ _ h => h)⟩
  · have m1 : decide (200 < (n : Int)) = true := by simp; omega
    go_enter Try.func31, Try.ntmps31
    go_wp2_with fail
    refine (HCN.out _ (Lies_keep (by repeat (first | assumption | exact Keep.refl _ _ | refine Keep.alloc ?_ _ | refine Keep.drew ?_ | refine Keep.setCell ?_ (Or.inl (by simp)) _ | refine Keep.setRow ?_ (Or.inl (by simp)) _)) hl)).mono ?_
    rintro e w2 ⟨rfl, hk2⟩
    go_wp2_with fail
    go_ret
    exact ⟨ret_bool (by rw [← HR.out]; simp [e1]), Keep.trans (by repeat (first | assumption | exact Keep.refl _ _ | refine Keep.alloc ?_ _ | refine Keep.drew ?_ | refine Keep.setCell ?_ (Or.inl (by simp)) _ | refine Keep.setRow ?_ (Or.inl (by simp)) _)) hk2 (fun _ _ h => h)⟩

end Go.Proofs.Ytkidjbfapldmbaa
