/- Formed of the program; Few and awake of the law. -/
import Derived.Test.YtkidjbfapldmbaaAll
namespace Go.Proofs.Ytkidjbfapldmbaa
set_option linter.unusedVariables false
set_option linter.unusedSimpArgs false
open Go.RowKit P8

def formedT (T : Nd) : Bool := decide (count T ≤ 200) && (decide (deep T ≤ 10) && (allT T ⟨0, fun _ => false⟩).1)

theorem row0 : (Chk.mk 0 (fun _ => false)).row = #[.int .i64 0, .bool false, .bool false, .bool false, .bool false, .bool false, .bool false, .bool false, .bool false, .bool false, .bool false] := rfl

set_option maxRecDepth 100000 in
set_option maxHeartbeats 4000000 in
theorem formed_any (T : Nd) (hc : count T ≤ 900000) (v : Value) (w : World) (hl : Lies w T v) :
    Calls Try.prog 30 #[.agg (Nd.row T v)] w fun e w' => e = .returned (.bool (formedT T)) ∧ Keep Nb w w' := by
  have hcn := fun wx => tcount_any (count T) T (Nat.le_refl _) (by omega) v wx
  have hdp := fun wx => tdeep_any (count T) T (Nat.le_refl _) (by omega) v wx
  have hal := all_any (count T) hc T (Nat.le_refl _) ⟨0, fun _ => false⟩ (by simp) (by simp; omega) v
  have hdc := deep_le T
  generalize hR : formedT T = R
  unfold formedT at hR
  generalize count T = n at *
  generalize deep T = d at *
  generalize allT T ⟨0, fun _ => false⟩ = r at *
  obtain ⟨r1, r2⟩ := r
  have HCN := Lib.hid hcn; clear hcn
  have HDP := Lib.hid hdp; clear hdp
  have HAL := Lib.hid hal; clear hal
  have hlt := Lies_def.1 hl
  obtain ⟨A, cap, rfl, _⟩ := hlt
  have HR := Lib.hid hR; clear hR
  simp only [Nd.row]
  by_cases e1 : n ≤ 200
  · have m1 : decide ((n : Int) ≤ 200) = true := by simp; omega
    have m2 : decide (n ≤ 200) = true := by simp; omega
    by_cases e2 : d ≤ 10
    · have m3 : decide ((d : Int) ≤ 10) = true := by simp; omega
      have m4 : decide (d ≤ 10) = true := by simp; omega
      go_enter Try.func30, Try.ntmps30
      go_wp2_with fail
      refine (HCN.out _ (Lies_keep (by repeat (first | assumption | exact Keep.refl _ _ | refine Keep.alloc ?_ _ | refine Keep.drew ?_ | refine Keep.setCell ?_ (Or.inl (by simp)) _ | refine Keep.setRow ?_ (Or.inl (by simp)) _)) hl)).mono ?_
      rintro e w2 ⟨rfl, hk2⟩
      have hbx := (Blk.new w _ _).keep hk2 id
      have hk2' : Keep Nb w w2 := Keep.trans (by repeat (first | assumption | exact Keep.refl _ _ | refine Keep.alloc ?_ _ | refine Keep.drew ?_ | refine Keep.setCell ?_ (Or.inl (by simp)) _ | refine Keep.setRow ?_ (Or.inl (by simp)) _)) hk2 (fun _ _ h => h)
      have hs2 := hbx.lt
      (have o0 := Blk.cell hbx 0 (u := .int .i64 T.h.k) rfl; have o1 := Blk.cell hbx 1 (u := .int .u8 T.h.c) rfl; have o2 := Blk.cell hbx 2 (u := .int .u64 T.h.s0) rfl; have o3 := Blk.cell hbx 3 (u := .int .u64 T.h.s1) rfl; have o4 := Blk.cell hbx 4 (u := .int .u64 T.h.s2) rfl; have o5 := Blk.cell hbx 5 (u := .int .u64 T.h.s3) rfl; have o6 := Blk.cell hbx 6 (u := .int .i64 T.h.n) rfl; have o7 := Blk.cell hbx 7 (u := .int .i64 T.h.mn) rfl; have o8 := Blk.cell hbx 8 (u := .int .i64 T.h.mx) rfl; have o9 := Blk.cell hbx 9 (u := (.slice A T.l.length cap)) rfl)
      go_wp2_with fail
      refine (HDP.out _ (Lies_keep hk2' hl)).mono ?_
      rintro e w3 ⟨rfl, hk3⟩
      have hbx3 := hbx.keep hk3 id
      have hs3 := hbx3.lt
      have hk3' : Keep Nb w w3 := hk2'.trans hk3 (fun _ _ h => h)
      (have p0 := Blk.cell hbx3 0 (u := .int .i64 T.h.k) rfl; have p1 := Blk.cell hbx3 1 (u := .int .u8 T.h.c) rfl; have p2 := Blk.cell hbx3 2 (u := .int .u64 T.h.s0) rfl; have p3 := Blk.cell hbx3 3 (u := .int .u64 T.h.s1) rfl; have p4 := Blk.cell hbx3 4 (u := .int .u64 T.h.s2) rfl; have p5 := Blk.cell hbx3 5 (u := .int .u64 T.h.s3) rfl; have p6 := Blk.cell hbx3 6 (u := .int .i64 T.h.n) rfl; have p7 := Blk.cell hbx3 7 (u := .int .i64 T.h.mn) rfl; have p8 := Blk.cell hbx3 8 (u := .int .i64 T.h.mx) rfl; have p9 := Blk.cell hbx3 9 (u := (.slice A T.l.length cap)) rfl)
      go_wp2_with fail
      refine (HAL.out w3.heap.size _ (Blk.new w3 _ _) (LiesP_mono (Ok := fun b => b < w.heap.size) (fun b _ _ hb _ => by have := hk3'.size; omega) _ _ (Lies_keep (hk3'.alloc _) (LiesP_mono (fun b _ _ _ hc => cell_lt hc) _ _ hl)))).mono ?_
      rintro e w4 ⟨rfl, hb4, hk4⟩
      go_wp2_with fail
      go_ret
      exact ⟨ret_bool (by rw [← HR.out]; simp [e1, e2]), (hk3'.alloc _).trans hk4 (fun b hb hx => by have := hk3'.size; simp only [Ob] at hx; omega)⟩
    · have m3 : decide ((d : Int) ≤ 10) = false := by simp; omega
      have m4 : decide (d ≤ 10) = false := by simp; omega
      go_enter Try.func30, Try.ntmps30
      go_wp2_with fail
      refine (HCN.out _ (Lies_keep (by repeat (first | assumption | exact Keep.refl _ _ | refine Keep.alloc ?_ _ | refine Keep.drew ?_ | refine Keep.setCell ?_ (Or.inl (by simp)) _ | refine Keep.setRow ?_ (Or.inl (by simp)) _)) hl)).mono ?_
      rintro e w2 ⟨rfl, hk2⟩
      have hbx := (Blk.new w _ _).keep hk2 id
      have hk2' : Keep Nb w w2 := Keep.trans (by repeat (first | assumption | exact Keep.refl _ _ | refine Keep.alloc ?_ _ | refine Keep.drew ?_ | refine Keep.setCell ?_ (Or.inl (by simp)) _ | refine Keep.setRow ?_ (Or.inl (by simp)) _)) hk2 (fun _ _ h => h)
      have hs2 := hbx.lt
      (have o0 := Blk.cell hbx 0 (u := .int .i64 T.h.k) rfl; have o1 := Blk.cell hbx 1 (u := .int .u8 T.h.c) rfl; have o2 := Blk.cell hbx 2 (u := .int .u64 T.h.s0) rfl; have o3 := Blk.cell hbx 3 (u := .int .u64 T.h.s1) rfl; have o4 := Blk.cell hbx 4 (u := .int .u64 T.h.s2) rfl; have o5 := Blk.cell hbx 5 (u := .int .u64 T.h.s3) rfl; have o6 := Blk.cell hbx 6 (u := .int .i64 T.h.n) rfl; have o7 := Blk.cell hbx 7 (u := .int .i64 T.h.mn) rfl; have o8 := Blk.cell hbx 8 (u := .int .i64 T.h.mx) rfl; have o9 := Blk.cell hbx 9 (u := (.slice A T.l.length cap)) rfl)
      go_wp2_with fail
      refine (HDP.out _ (Lies_keep hk2' hl)).mono ?_
      rintro e w3 ⟨rfl, hk3⟩
      go_wp2_with fail
      go_ret
      exact ⟨ret_bool (by rw [← HR.out]; simp [e2]), hk2'.trans hk3 (fun _ _ h => h)⟩
  · have m1 : decide ((n : Int) ≤ 200) = false := by simp; omega
    have m2 : decide (n ≤ 200) = false := by simp; omega
    go_enter Try.func30, Try.ntmps30
    go_wp2_with fail
    refine (HCN.out _ (Lies_keep (by repeat (first | assumption | exact Keep.refl _ _ | refine Keep.alloc ?_ _ | refine Keep.drew ?_ | refine Keep.setCell ?_ (Or.inl (by simp)) _ | refine Keep.setRow ?_ (Or.inl (by simp)) _)) hl)).mono ?_
    rintro e w2 ⟨rfl, hk2⟩
    go_wp2_with fail
    go_ret
    exact ⟨ret_bool (by rw [← HR.out]; simp [e1]), Keep.trans (by repeat (first | assumption | exact Keep.refl _ _ | refine Keep.alloc ?_ _ | refine Keep.drew ?_ | refine Keep.setCell ?_ (Or.inl (by simp)) _ | refine Keep.setRow ?_ (Or.inl (by simp)) _)) hk2 (fun _ _ h => h)⟩

theorem few_any (T : Nd) (v : Value) (w : World) (hl : Lies w T v) :
    Calls Try.prog 21 #[.agg (Nd.row T v)] w fun e w' => e = .returned (.bool (few T)) ∧ Keep Nb w w' := by
  have hb := fun wx => bounded_any (count T) T (Nat.le_refl _) 40 (by omega) (by omega) 400 (by omega) (by omega) v wx
  generalize hR : few T = R
  unfold few at hR
  rw [show (40 : Int).toNat = 40 from rfl] at hb
  generalize bounded T 40 400 = q at *
  have HB := Lib.hid hb; clear hb
  have HR := Lib.hid hR; clear hR
  obtain ⟨A, cap, rfl, _⟩ := Lies_def.1 hl
  simp only [Nd.row]
  go_enter Try.func21, Try.ntmps21
  go_wp2_with fail
  refine (HB.out _ (Lies_keep (by repeat (first | assumption | exact Keep.refl _ _ | refine Keep.alloc ?_ _ | refine Keep.drew ?_ | refine Keep.setCell ?_ (Or.inl (by simp)) _ | refine Keep.setRow ?_ (Or.inl (by simp)) _)) hl)).mono ?_
  rintro e w2 ⟨rfl, hk2⟩
  go_wp2_with fail
  go_ret
  exact ⟨ret_bool (by rw [← HR.out]), Keep.trans (by repeat (first | assumption | exact Keep.refl _ _ | refine Keep.alloc ?_ _ | refine Keep.drew ?_ | refine Keep.setCell ?_ (Or.inl (by simp)) _ | refine Keep.setRow ?_ (Or.inl (by simp)) _)) hk2 (fun _ _ h => h)⟩

def anyNd : Nd := .mk ⟨2, 0, 0, 0, 0, 0, 0, 0, 0⟩ []
def zeroNd : Nd := .mk ⟨0, 0, 0, 0, 0, 0, 0, 0, 0⟩ []
theorem lies_nil (w : World) (h : Hd) : Lies w (.mk h []) (.slice none 0 0) := Lies_mk.2 ⟨none, 0, rfl, by simp, by simp [maxLen], by simp [LiesPL]⟩

theorem formed_anyNd : formedT anyNd = true := by simp [formedT, anyNd, count, countL, deep, deepL, allT, allL, own, headOk, neededH, kidsOf, Nd.h, Nd.l, ownS]
theorem formed_zeroNd : formedT zeroNd = false := by simp [formedT, zeroNd, count, countL, deep, deepL, allT, allL, own, headOk, neededH, kidsOf, Nd.h, Nd.l, ownS]

set_option maxHeartbeats 1000000 in
theorem awake_any (w : World) : Calls Try.prog 20 #[] w fun e w' => e = .returned (.bool true) ∧ Keep Nb w w' := by
  have h1 := fun wx => formed_any anyNd (by simp [anyNd, count, countL]) (.slice none 0 0) wx (lies_nil _ _)
  have h2 := fun wx => formed_any zeroNd (by simp [zeroNd, count, countL]) (.slice none 0 0) wx (lies_nil _ _)
  have h3 := fun wx => tcount_any 1 zeroNd (by simp [zeroNd, count, countL]) (by omega) (.slice none 0 0) wx (lies_nil _ _)
  rw [formed_anyNd] at h1
  rw [formed_zeroNd] at h2
  rw [show count zeroNd = 1 from rfl] at h3
  have H1 := Lib.hid h1; clear h1
  have H2 := Lib.hid h2; clear h2
  have H3 := Lib.hid h3; clear h3
  go_enter Try.func20, Try.ntmps20
  go_wp2_with fail
  refine (H1.out _).mono ?_
  rintro e w2 ⟨rfl, hk2⟩
  go_wp2_with fail
  refine (H2.out _).mono ?_
  rintro e w3 ⟨rfl, hk3⟩
  go_wp2_with fail
  refine (H3.out _).mono ?_
  rintro e w4 ⟨rfl, hk4⟩
  go_wp2_with fail
  go_ret
  exact ⟨rfl, (hk2.trans hk3 (fun _ _ h => h)).trans hk4 (fun _ _ h => h)⟩

end Go.Proofs.Ytkidjbfapldmbaa
