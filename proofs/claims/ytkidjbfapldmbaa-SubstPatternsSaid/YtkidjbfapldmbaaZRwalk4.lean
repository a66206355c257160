import Derived.Test.YtkidjbfapldmbaaZRwalk0
import Derived.Deep.DeepCutAuto
import Derived.Deep.CutBlock
set_option linter.unusedVariables false
set_option linter.unusedSimpArgs false
namespace Go.Proofs.Ytkidjbfapldmbaa
open Go.RowKit P8
def RWalkSaid (c : Nat) : Prop := ∀ (T : Nd) (_ : count T ≤ c) (s : Chk) (_ : 0 ≤ s.g) (_ : s.g + count T ≤ 1000000) (v : Value) (w : World) (_ : Lies w T v),
  Calls Try.prog 64 #[.agg (Nd.row T v), .int .i64 s.g, .agg (boolRow s.E)] w fun e w' => ∃ s' : Chk, e = .returned (.tuple #[.int .i64 s'.g, .agg (boolRow s'.E), .bool (allT T s).1]) ∧ ((allT T s).1 = true → s' = (allT T s).2) ∧ Keep Nb w w'
set_option maxRecDepth 100000 in
set_option maxHeartbeats 4000000 in
theorem rwalk_ok (c : Nat) (hc : c ≤ 900000) (HI : Hid (RWalkSaid c)) (T : Nd) (hcl : countL T.l ≤ c) (hcT : count T = 1 + countL T.l) (s : Chk) (hg0 : 0 ≤ s.g) (hg1 : s.g + count T ≤ 1000000) (A : Option Addr) (cap : Nat) (w : World) (hl : Lies w T (.slice A T.l.length cap))
  (hlen : T.l.length ≤ 1000000) (ho : own T s = true) (hL : LiesL w A 0 T.l) (R : Bool × Chk) (HR : Hid (R = finish T.h (allL T.h.k T.l (ownS T s))))
  (HP : Hid (∀ wx, Lies wx T (.slice A T.l.length cap) → Calls Try.prog 83 #[.agg (Nd.row T (.slice A T.l.length cap))] wx fun e w' => e = .returned (.bool true) ∧ Keep Nb wx w')) :
  Calls Try.prog 64 #[.agg (Nd.row T (.slice A T.l.length cap)), .int .i64 s.g, .agg (boolRow s.E)] w fun e w' => ∃ s' : Chk, e = .returned (.tuple #[.int .i64 s'.g, .agg (boolRow s'.E), .bool R.1]) ∧ (R.1 = true → s' = R.2) ∧ Keep Nb w w' := by
 have hn6 : T.h.k = 6 → 1 ≤ T.h.n ∧ T.h.n ≤ 9 ∧ s.g + 1 ≤ 9 ∧ T.h.n = s.g + 1 := fun k6 => by
  simp only [own, k6, if_true, Bool.and_eq_true, decide_eq_true_eq] at ho; omega
 have hSg := ownS_g T s
 have HO := Lib.hid ho; clear ho
 have HN6 := Lib.hid hn6; clear hn6
 simp only [Nd.row, boolRow]
 go_enter Try.func64, Try.ntmps64
 go_wp2_with fail
 refine (HP.out _ (Lies_keep kp hl)).mono ?_
 rintro e w2 ⟨rfl, hk2⟩
 have hkw : Keep Nb w w2 := Keep.trans kp hk2 (fun _ _ h => h)
 have hX : Blk w2 w.heap.size (Nd.row T (.slice A T.l.length cap)) 27 := (((Blk.new w _ _).alloc _).alloc _).keep hk2 id
 have hD : Blk w2 (w.heap.size + 1) (boolRow s.E) 47 := ((Blk.new' (by simp) _ _).alloc _).keep hk2 id
 have hZ : Blk w2 (w.heap.size + 2) (boolRow fun _ => false) 47 := (Blk.new' (by simp) _ _).keep hk2 id
 (have o0 := Blk.cell hX 0 (u := .int .i64 T.h.k) rfl; have o1 := Blk.cell hX 1 (u := .int .u8 T.h.c) rfl; have o2 := Blk.cell hX 2 (u := .int .u64 T.h.s0) rfl; have o3 := Blk.cell hX 3 (u := .int .u64 T.h.s1) rfl; have o4 := Blk.cell hX 4 (u := .int .u64 T.h.s2) rfl; have o5 := Blk.cell hX 5 (u := .int .u64 T.h.s3) rfl; have o6 := Blk.cell hX 6 (u := .int .i64 T.h.n) rfl; have o7 := Blk.cell hX 7 (u := .int .i64 T.h.mn) rfl; have o8 := Blk.cell hX 8 (u := .int .i64 T.h.mx) rfl; have o9 := Blk.cell hX 9 (u := (.slice A T.l.length cap)) rfl)
 (have d0 := Blk.cell hD 0 (u := .bool (s.E 0)) rfl; have d1 := Blk.cell hD 1 (u := .bool (s.E 1)) rfl; have d2 := Blk.cell hD 2 (u := .bool (s.E 2)) rfl; have d3 := Blk.cell hD 3 (u := .bool (s.E 3)) rfl; have d4 := Blk.cell hD 4 (u := .bool (s.E 4)) rfl; have d5 := Blk.cell hD 5 (u := .bool (s.E 5)) rfl; have d6 := Blk.cell hD 6 (u := .bool (s.E 6)) rfl; have d7 := Blk.cell hD 7 (u := .bool (s.E 7)) rfl; have d8 := Blk.cell hD 8 (u := .bool (s.E 8)) rfl; have d9 := Blk.cell hD 9 (u := .bool (s.E 9)) rfl)
 have sX := hX.lt
 have sD := hD.lt
 have sZ := hZ.lt
 clear hk2
 go_upto_block 0 with fail
 go_cut [1] (fun o wx => o = .int .i64 (ownS T s).g ∧ Blk wx w.heap.size (Nd.row T (.slice A T.l.length cap)) 27 ∧ Blk wx (w.heap.size + 1) (boolRow s.E) 47 ∧ Blk wx (w.heap.size + 2) (boolRow fun _ => false) 47 ∧ Keep Nb w wx)
 case first =>
  have hok : headOk T = true := by have := HO.out; simp only [own, Bool.and_eq_true] at this; exact this.1
  obtain ⟨hk1, hk2, hkh, hkid⟩ : 1 ≤ T.h.k ∧ T.h.k ≤ 10 ∧ neededH T.h = T.h ∧ (kidsOf T.h.k < 0 ∨ kidsOf T.h.k = T.l.length) := by simpa [headOk] using hok
  clear hkh
  by_cases k6 : T.h.k = 6
  ·obtain ⟨n1, n9, g9, ng⟩ := HN6.out k6
   have hS : (ownS T s).g = s.g + 1 := by simp [ownS, hok, k6]
   have HS := Lib.hid hS; clear hS
   have m6 : (T.h.k == 6) = true := by simpa using k6
   have f1 : decide (9 < s.g + 1) = false := by simp; omega
   have f2 : (T.h.n != s.g + 1) = false := by simpa using ng
   clear k6 hkid ng
   go_wp2_with fail
   go_meet
   exact ⟨by rw [HS.out], hX, hD, hZ, hkw⟩
  have hS : (ownS T s).g = s.g := by simp [ownS, k6]
  have HS := Lib.hid hS; clear hS
  have m6 : (T.h.k == 6) = false := by simpa using k6
  by_cases k7 : T.h.k = 7
  ·have h7 := HO.out
   simp only [own, k7, Bool.and_eq_true, decide_eq_true_eq] at h7
   simp at h7
   obtain ⟨_, ⟨n1, n9⟩, hE⟩ := h7
   have hm9 : T.h.n.toNat = 1 ∨ T.h.n.toNat = 2 ∨ T.h.n.toNat = 3 ∨ T.h.n.toNat = 4 ∨ T.h.n.toNat = 5 ∨ T.h.n.toNat = 6 ∨ T.h.n.toNat = 7 ∨ T.h.n.toNat = 8 ∨ T.h.n.toNat = 9 := by omega
   have cm : w2.cell? ⟨w.heap.size + 1, T.h.n.toNat, none⟩ = some (.bool (s.E T.h.n.toNat)) := hD.cell T.h.n.toNat (by rcases hm9 with h | h | h | h | h | h | h | h | h <;> rw [h] <;> rfl)
   rw [hE] at cm
   have m7 : (T.h.k == 7) = true := by simpa using k7
   have f1 : decide (T.h.n < 1) = false := by simp; omega
   have f2 : decide (9 < T.h.n) = false := by simp; omega
   have i0 : (0 : Int) ≤ T.h.n := by omega
   have i1 : T.h.n < 10 := by omega
   clear hm9 hE k7 k6 hkid
   go_wp2_with fail
   go_meet
   exact ⟨by rw [HS.out], hX, hD, hZ, hkw⟩
  have m7 : (T.h.k == 7) = false := by simpa using k7
  by_cases k8 : T.h.k = 8
  ·have h8 := HO.out
   simp only [own, k8, Bool.and_eq_true, decide_eq_true_eq] at h8
   simp at h8
   have m8 : (T.h.k == 8) = true := by simpa using k8
   have f1 : ((T.l.length : Int) == 1) = false := beq_eq_false_iff_ne.2 (by omega)
   clear h8 k8 k7 k6 hkid
   go_wp2_with fail
   go_meet
   exact ⟨by rw [HS.out], hX, hD, hZ, hkw⟩
  have m8 : (T.h.k == 8) = false := by simpa using k8
  by_cases k9 : T.h.k = 9
  ·have h9 := HO.out
   simp only [own, k9, Bool.and_eq_true, decide_eq_true_eq] at h9
   simp at h9
   have m9 : (T.h.k == 9) = true := by simpa using k9
   have f1 : decide ((T.l.length : Int) < 2) = false := by simp; omega
   clear h9 k9 k8 k7 k6 hkid
   go_wp2_with fail
   go_meet
   exact ⟨by rw [HS.out], hX, hD, hZ, hkw⟩
  have m9 : (T.h.k == 9) = false := by simpa using k9
  by_cases k10 : T.h.k = 10
  ·have hlt : 0 < T.l.length := by
    have : kidsOf T.h.k = 1 := by rw [k10]; rfl
    omega
   have h10 := HO.out
   simp only [own, k10, Bool.and_eq_true, decide_eq_true_eq, List.getElem?_eq_getElem hlt] at h10
   simp at h10
   obtain ⟨_, hb, hx⟩ := h10
   simp [boundsOk] at hb
   obtain ⟨b', off, A2, n2, rfl, hten, hS0⟩ := hL.at 0 hlt
   rw [Nat.zero_mul, Nat.add_zero] at hten
   have q0 := (hten.keep hkw).c0
   have ql := (hten.keep hkw).lt
   generalize T.l[0] = x0 at *
   have m10 : (T.h.k == 10) = true := by simpa using k10
   have hl0 : (0 : Int) < (T.l.length : Int) := by omega
   have p0 : decide (T.h.mn < 0) = false := by simp; omega
   have p1 : decide (255 < T.h.mn) = false := by simp; omega
   have p5 : (x0.h.k == 4) = false := by simpa using hx.1
   have p6 : (x0.h.k == 5) = false := by simpa using hx.2.1
   have p7 : (x0.h.k == 10) = false := by simpa using hx.2.2
   clear k10 k9 k8 k7 k6 hkid hx hten hS0
   by_cases z : T.h.mx = -1
   ·have p2 : (T.h.mx != -1) = false := by simpa using z
    clear z hb
    go_wp2_with fail
    go_meet
    exact ⟨by rw [HS.out], hX, hD, hZ, hkw⟩
   ·have p2 : (T.h.mx != -1) = true := by simpa using z
    have p3 : decide (T.h.mx < T.h.mn) = false := by simp; omega
    have p4 : decide (255 < T.h.mx) = false := by simp; omega
    clear z hb
    go_wp2_with fail
    go_meet
    exact ⟨by rw [HS.out], hX, hD, hZ, hkw⟩
  have m10 : (T.h.k == 10) = false := by simpa using k10
  clear k10 k9 k8 k7 k6 hkid
  go_wp2_with fail
  go_meet
  exact ⟨by rw [HS.out], hX, hD, hZ, hkw⟩
 case rest =>
  clear hX hD hZ hkw sX sD sZ o0 o1 o2 o3 o4 o5 o6 o7 o8 o9 d0 d1 d2 d3 d4 d5 d6 d7 d8 d9
  obtain ⟨rfl, hX, hD, hZ, hkw⟩ := hcut
  have hE0 : (ownS T s).E = s.E := by unfold ownS; split <;> rfl
  (have o0 := Blk.cell hX 0 (u := .int .i64 T.h.k) rfl; have o1 := Blk.cell hX 1 (u := .int .u8 T.h.c) rfl; have o2 := Blk.cell hX 2 (u := .int .u64 T.h.s0) rfl; have o3 := Blk.cell hX 3 (u := .int .u64 T.h.s1) rfl; have o4 := Blk.cell hX 4 (u := .int .u64 T.h.s2) rfl; have o5 := Blk.cell hX 5 (u := .int .u64 T.h.s3) rfl; have o6 := Blk.cell hX 6 (u := .int .i64 T.h.n) rfl; have o7 := Blk.cell hX 7 (u := .int .i64 T.h.mn) rfl; have o8 := Blk.cell hX 8 (u := .int .i64 T.h.mx) rfl; have o9 := Blk.cell hX 9 (u := (.slice A T.l.length cap)) rfl)
  have sX := hX.lt
  go_wp2_with fail
  go_loopw [1, 117] (fun o i wr => ∃ (j : Nat) (sj : Chk), j ≤ T.l.length ∧ i = .int .i64 j ∧ o = .int .i64 sj.g ∧ Hid (R = finish T.h (allL T.h.k (T.l.drop j) sj)) ∧ 0 ≤ sj.g ∧ sj.g + countL (T.l.drop j) ≤ 1000000 ∧
    Blk wr w.heap.size (Nd.row T (.slice A T.l.length cap)) 27 ∧ Blk wr (w.heap.size + 1) (boolRow sj.E) 47 ∧ Blk wr (w.heap.size + 2) (boolRow fun _ => false) 47 ∧ Keep Nb w wr) (fun _ i _ => T.l.length - (intOf i).toNat)
  case atStart => exact ⟨0, ownS T s, by omega, rfl, rfl, Lib.hid (by rw [HR.out]; rfl), by omega, by rw [List.drop_zero]; omega, hX, by rw [hE0]; exact hD, hZ, hkw⟩
  case round =>
   obtain ⟨j, sj, hj, rfl, rfl, hH, hs0, hs1, hXj, hDj, hZj, hk⟩ := hrel
   clear hX hD hZ hkw sX o0 o1 o2 o3 o4 o5 o6 o7 o8 o9
   (have p0 := Blk.cell hXj 0 (u := .int .i64 T.h.k) rfl; have p1 := Blk.cell hXj 1 (u := .int .u8 T.h.c) rfl; have p2 := Blk.cell hXj 2 (u := .int .u64 T.h.s0) rfl; have p3 := Blk.cell hXj 3 (u := .int .u64 T.h.s1) rfl; have p4 := Blk.cell hXj 4 (u := .int .u64 T.h.s2) rfl; have p5 := Blk.cell hXj 5 (u := .int .u64 T.h.s3) rfl; have p6 := Blk.cell hXj 6 (u := .int .i64 T.h.n) rfl; have p7 := Blk.cell hXj 7 (u := .int .i64 T.h.mn) rfl; have p8 := Blk.cell hXj 8 (u := .int .i64 T.h.mx) rfl; have p9 := Blk.cell hXj 9 (u := (.slice A T.l.length cap)) rfl)
   (have d0 := Blk.cell hDj 0 (u := .bool (sj.E 0)) rfl; have d1 := Blk.cell hDj 1 (u := .bool (sj.E 1)) rfl; have d2 := Blk.cell hDj 2 (u := .bool (sj.E 2)) rfl; have d3 := Blk.cell hDj 3 (u := .bool (sj.E 3)) rfl; have d4 := Blk.cell hDj 4 (u := .bool (sj.E 4)) rfl; have d5 := Blk.cell hDj 5 (u := .bool (sj.E 5)) rfl; have d6 := Blk.cell hDj 6 (u := .bool (sj.E 6)) rfl; have d7 := Blk.cell hDj 7 (u := .bool (sj.E 7)) rfl; have d8 := Blk.cell hDj 8 (u := .bool (sj.E 8)) rfl; have d9 := Blk.cell hDj 9 (u := .bool (sj.E 9)) rfl)
   have sX := hXj.lt
   have sD := hDj.lt
   have sZ := hZj.lt
   by_cases hlt : j < T.l.length
   ·obtain ⟨b', off, A2, n2, rfl, hten, hS⟩ := hL.at j hlt
    have hbw : b' < w.heap.size := hten.lt
    obtain ⟨c0, c1, c2, c3, c4, c5, c6, c7, c8, c9, lt⟩ := hten.keep hk
    have hi0 : (0 : Int) ≤ (j : Int) := by omega
    have hi1 : (j : Int) < (T.l.length : Int) := by omega
    have hcj := countL_get_le T.l j hlt
    have hcd := countL_drop T.l j hlt
    have hst := allL_step T.h.k T.l j hlt sj
    have HIx := HI.out T.l[j] (by omega) sj hs0 (by omega) (.slice A2 T.l[j].l.length n2)
    have hag := allT_g T.l[j] sj
    have HH2 : R = finish T.h (if T.l[j].h.k = T.h.k ∧ (T.h.k = 8 ∨ T.h.k = 9) then (false, sj) else match allT T.l[j] sj with | (false, s') => (false, s') | (true, s') => allL T.h.k (T.l.drop (j + 1)) s') := by rw [hH.out, hst]; rfl
    generalize hat : allT T.l[j] sj = r at HIx hag HH2
    obtain ⟨r1, r2⟩ := r
    have HIX := Lib.hid HIx
    clear HIx hst hat hH
    have H2 := Lib.hid HH2; clear HH2
    simp only [] at hag
    by_cases e8 : T.h.k = 8
    ·have m8 : (T.h.k == 8) = true := by simpa using e8
     have E8 := Lib.hid e8; clear e8
     by_cases ek : T.l[j].h.k = T.h.k
     ·have m0 : (T.l[j].h.k == T.h.k) = true := by simpa using ek
      have hF : R = (false, sj) := by rw [H2.out, if_pos ⟨ek, Or.inl E8.out⟩]; rfl
      have HF := Lib.hid hF; clear hF ek
      go_wp2_with fail
      refine wp_region_x (by kernel_rfl) (by kernel_rfl) ?_; (repeat (go_big_quiet_step ((fail)))); refine wpQuiet_nil ?_; rintro w3 ⟨⟨_, hk3⟩, rfl⟩
      have hk23 : Keep Nb wr w3 := Keep.trans kp hk3 (fun _ _ h => h)
      have hkw3 : Keep Nb w w3 := hk.trans hk23 (fun _ _ h => h)
      clear hk3 d0 d1 d2 d3 d4 d5 d6 d7 d8 d9
      have hD3 := hDj.keep hk23 id
      have hZ3 := hZj.keep hk23 id
      (have d0 := Blk.cell hD3 0 (u := .bool (sj.E 0)) rfl; have d1 := Blk.cell hD3 1 (u := .bool (sj.E 1)) rfl; have d2 := Blk.cell hD3 2 (u := .bool (sj.E 2)) rfl; have d3 := Blk.cell hD3 3 (u := .bool (sj.E 3)) rfl; have d4 := Blk.cell hD3 4 (u := .bool (sj.E 4)) rfl; have d5 := Blk.cell hD3 5 (u := .bool (sj.E 5)) rfl; have d6 := Blk.cell hD3 6 (u := .bool (sj.E 6)) rfl; have d7 := Blk.cell hD3 7 (u := .bool (sj.E 7)) rfl; have d8 := Blk.cell hD3 8 (u := .bool (sj.E 8)) rfl; have d9 := Blk.cell hD3 9 (u := .bool (sj.E 9)) rfl)
      have sD3 := hD3.lt
      have sZ3 := hZ3.lt
      go_wp2_with fail
      (refine wp_region_f [3, 4] (InX (Ob (w.heap.size + 2)) _) (by kernel_rfl) (InX.mk (Keep.drew (Keep.refl _ _))) (fun hI => ?_))
      have x1 : ¬ Ob (w.heap.size + 2) (w.heap.size + 1) := by simp only [Ob]; omega
      (refine wpI_from 0 ?_; (iterate 3 ((first | (refine wpI_take (v := ?_) rfl (by kernel_rfl) (fun _ _ _ h => h) hI rfl ?_ ?_; rotate_left; (focus (rintro _ ⟨E, rfl⟩; go_simp; (try with_reducible rfl)))) | refine wpI_skip rfl (by kernel_rfl) (fun _ _ _ h => h) hI rfl ?_); simp only [Act.put, tk, Nat.reduceAdd])); refine wpI_till ?_)
      (refine wpF_one 3 rfl (by kernel_rfl) rfl (fun K hK => ?_))
      refine wp_store_row 47 (.tmp 7) (.tmp 140) rfl (w.heap.size + 2) _ rfl rfl 47 _ (hZ3.drew) size47 rfl (by simp [Value.oneCell']) ?_
      (refine hK _ _ (fun h => absurd (by simp) h) (fun _ => ?_); clear hK K; try simp only [Act.put, tk])
      (refine wpF_one 4 rfl (by kernel_rfl) rfl (fun K hK => ?_))
      go_simp
      (refine hK _ _ (fun h => absurd (by simp) h) (fun _ => ?_); clear hK K; try simp only [Act.put, tk])
      (refine wpF_done (by kernel_rfl) ?_ _)
      go_wp2_with fail
      refine bodyPost_ret (results_tct Try.results64 _ _ (w.heap.size + 2) 47 _ (0, 0) _ rfl ((hZ3.drew).setRow _) Try.underlying47 rfl size47) rfl ?_
      refine ⟨⟨sj.g, sj.E⟩, by rw [HF.out]; go_simp, by rw [HF.out]; exact fun h => by simp at h, Keep.setRow (Keep.drew hkw3) (Or.inl (Nat.le_add_right _ _)) _⟩
     ·have m0 : (T.l[j].h.k == T.h.k) = false := by simpa using ek
      have hno : ¬ (T.l[j].h.k = T.h.k ∧ (T.h.k = 8 ∨ T.h.k = 9)) := fun h => ek h.1
      have HNO := Lib.hid hno; clear hno ek
      go_wp2_with fail
      refine wp_region_x (by kernel_rfl) (by kernel_rfl) ?_; (repeat (go_big_quiet_step ((fail)))); refine wpQuiet_nil ?_; rintro w3 ⟨⟨_, hk3⟩, rfl⟩
      have hk23 : Keep Nb wr w3 := Keep.trans kp hk3 (fun _ _ h => h)
      have hkw3 : Keep Nb w w3 := hk.trans hk23 (fun _ _ h => h)
      clear hk3 c0 c1 c2 c3 c4 c5 c6 c7 c8 c9 lt p0 p1 p2 p3 p4 p5 p6 p7 p8 p9 d0 d1 d2 d3 d4 d5 d6 d7 d8 d9
      have hX3 := hXj.keep hk23 id
      have hD3 := hDj.keep hk23 id
      have hZ3 := hZj.keep hk23 id
      (have p0 := Blk.cell hX3 0 (u := .int .i64 T.h.k) rfl; have p1 := Blk.cell hX3 1 (u := .int .u8 T.h.c) rfl; have p2 := Blk.cell hX3 2 (u := .int .u64 T.h.s0) rfl; have p3 := Blk.cell hX3 3 (u := .int .u64 T.h.s1) rfl; have p4 := Blk.cell hX3 4 (u := .int .u64 T.h.s2) rfl; have p5 := Blk.cell hX3 5 (u := .int .u64 T.h.s3) rfl; have p6 := Blk.cell hX3 6 (u := .int .i64 T.h.n) rfl; have p7 := Blk.cell hX3 7 (u := .int .i64 T.h.mn) rfl; have p8 := Blk.cell hX3 8 (u := .int .i64 T.h.mx) rfl; have p9 := Blk.cell hX3 9 (u := (.slice (some ⟨b', off, none⟩) T.l.length cap)) rfl)
      (have d0 := Blk.cell hD3 0 (u := .bool (sj.E 0)) rfl; have d1 := Blk.cell hD3 1 (u := .bool (sj.E 1)) rfl; have d2 := Blk.cell hD3 2 (u := .bool (sj.E 2)) rfl; have d3 := Blk.cell hD3 3 (u := .bool (sj.E 3)) rfl; have d4 := Blk.cell hD3 4 (u := .bool (sj.E 4)) rfl; have d5 := Blk.cell hD3 5 (u := .bool (sj.E 5)) rfl; have d6 := Blk.cell hD3 6 (u := .bool (sj.E 6)) rfl; have d7 := Blk.cell hD3 7 (u := .bool (sj.E 7)) rfl; have d8 := Blk.cell hD3 8 (u := .bool (sj.E 8)) rfl; have d9 := Blk.cell hD3 9 (u := .bool (sj.E 9)) rfl)
      obtain ⟨c0, c1, c2, c3, c4, c5, c6, c7, c8, c9, lt⟩ := hten.keep hkw3
      have sX3 := hX3.lt
      have sD3 := hD3.lt
      have sZ3 := hZ3.lt
      go_wp2_with fail
      (refine wp_region_f [14] (InX (Ob (w.heap.size + 1)) _) (by kernel_rfl) (InX.mk (Keep.drew (Keep.refl _ _))) (fun hI => ?_))
      have x1 : ¬ Ob (w.heap.size + 1) w.heap.size := by simp only [Ob]; omega
      have x2 : ¬ Ob (w.heap.size + 1) b' := by simp only [Ob]; omega
      (refine wpI_from 0 ?_; (iterate 6 ((first | (refine wpI_take (v := ?_) rfl (by kernel_rfl) (fun _ _ _ h => h) hI rfl ?_ ?_; rotate_left; (focus (rintro _ ⟨E, rfl⟩; go_simp; (try with_reducible rfl)))) | refine wpI_skip rfl (by kernel_rfl) (fun _ _ _ h => h) hI rfl ?_); simp only [Act.put, tk, Nat.reduceAdd])); refine wpI_till ?_)
      (refine wpF_one 6 rfl (by kernel_rfl) rfl (fun K hK => ?_))
      go_simp
      (refine hK _ _ (fun _ => InX.mk (Keep.drew (Keep.refl _ _))) (fun hI => ?_); have hI := hI (by simp); clear hK K; try simp only [Act.put, tk])
      (refine wpF_one 7 rfl (by kernel_rfl) rfl (fun K hK => ?_))
      go_simp
      refine (HIX.out _ (Lies_keep (Keep.drew hkw3) hS)).mono ?_
      rintro e w4 ⟨s', he, himp, hk4⟩
      subst he
      have hk34 : Keep Nb w3 w4 := Keep.trans kp hk4 (fun _ _ h => h)
      simp only [boolRow]
      (refine hK _ _ (fun _ => InX.mk hk34.ob) (fun hI => ?_); have hI := hI (by simp); clear hK K; try simp only [Act.put, tk])
      (refine wpI_from 8 ?_; (iterate 5 ((first | (refine wpI_take (v := ?_) rfl (by kernel_rfl) (fun _ _ _ h => h) hI rfl ?_ ?_; rotate_left; (focus (rintro _ ⟨E, rfl⟩; go_simp; (try with_reducible rfl)))) | refine wpI_skip rfl (by kernel_rfl) (fun _ _ _ h => h) hI rfl ?_); simp only [Act.put, tk, Nat.reduceAdd])); refine wpI_till ?_)
      (refine wpF_one 13 rfl (by kernel_rfl) rfl (fun K hK => ?_))
      refine wp_store_row 47 (.tmp 5) (.tmp 151) rfl (w.heap.size + 1) _ rfl rfl 47 _ (hD3.keep hk34 id) size47 rfl (by simp [Value.oneCell']) ?_
      (refine hK _ _ (fun _ => InX.mk (Keep.setRow hk34.ob (Or.inr rfl) _)) (fun hI => ?_); have hI := hI (by simp); clear hK K; try simp only [Act.put, tk])
      have hD5 : Blk (w4.setRow (w.heap.size + 1) #[.bool (s'.E 0), .bool (s'.E 1), .bool (s'.E 2), .bool (s'.E 3), .bool (s'.E 4), .bool (s'.E 5), .bool (s'.E 6), .bool (s'.E 7), .bool (s'.E 8), .bool (s'.E 9)]) (w.heap.size + 1) (boolRow s'.E) 47 := (hD3.keep hk34 id).setRow _
      have hX5 : Blk (w4.setRow (w.heap.size + 1) #[.bool (s'.E 0), .bool (s'.E 1), .bool (s'.E 2), .bool (s'.E 3), .bool (s'.E 4), .bool (s'.E 5), .bool (s'.E 6), .bool (s'.E 7), .bool (s'.E 8), .bool (s'.E 9)]) w.heap.size (Nd.row T (.slice (some ⟨b', off, none⟩) T.l.length cap)) 27 := (hX3.keep hk34 id).setRowOther (by omega) _
      have hZ5 : Blk (w4.setRow (w.heap.size + 1) #[.bool (s'.E 0), .bool (s'.E 1), .bool (s'.E 2), .bool (s'.E 3), .bool (s'.E 4), .bool (s'.E 5), .bool (s'.E 6), .bool (s'.E 7), .bool (s'.E 8), .bool (s'.E 9)]) (w.heap.size + 2) (boolRow fun _ => false) 47 := (hZ3.keep hk34 id).setRowOther (by omega) _
      have hk5 : Keep Nb w (w4.setRow (w.heap.size + 1) #[.bool (s'.E 0), .bool (s'.E 1), .bool (s'.E 2), .bool (s'.E 3), .bool (s'.E 4), .bool (s'.E 5), .bool (s'.E 6), .bool (s'.E 7), .bool (s'.E 8), .bool (s'.E 9)]) := Keep.setRow (hkw3.trans hk34 (fun _ _ h => h)) (Or.inl (Nat.le_add_right _ _)) _
      generalize w4.setRow (w.heap.size + 1) #[.bool (s'.E 0), .bool (s'.E 1), .bool (s'.E 2), .bool (s'.E 3), .bool (s'.E 4), .bool (s'.E 5), .bool (s'.E 6), .bool (s'.E 7), .bool (s'.E 8), .bool (s'.E 9)] = w5 at *
      (refine wpF_one 14 rfl (by kernel_rfl) rfl (fun K hK => ?_))
      go_simp
      (refine hK _ _ (fun h => absurd (by simp) h) (fun _ => ?_); clear hK K; try simp only [Act.put, tk])
      (refine wpF_done (by kernel_rfl) ?_ _)
      clear c0 c1 c2 c3 c4 c5 c6 c7 c8 c9 lt p0 p1 p2 p3 p4 p5 p6 p7 p8 p9 d0 d1 d2 d3 d4 d5 d6 d7 d8 d9
      (have d0 := Blk.cell hD5 0 (u := .bool (s'.E 0)) rfl; have d1 := Blk.cell hD5 1 (u := .bool (s'.E 1)) rfl; have d2 := Blk.cell hD5 2 (u := .bool (s'.E 2)) rfl; have d3 := Blk.cell hD5 3 (u := .bool (s'.E 3)) rfl; have d4 := Blk.cell hD5 4 (u := .bool (s'.E 4)) rfl; have d5 := Blk.cell hD5 5 (u := .bool (s'.E 5)) rfl; have d6 := Blk.cell hD5 6 (u := .bool (s'.E 6)) rfl; have d7 := Blk.cell hD5 7 (u := .bool (s'.E 7)) rfl; have d8 := Blk.cell hD5 8 (u := .bool (s'.E 8)) rfl; have d9 := Blk.cell hD5 9 (u := .bool (s'.E 9)) rfl)
      have sD5 := hD5.lt
      have sZ5 := hZ5.lt
      cases r1 with
      | false =>
       have hF : R = (false, r2) := by rw [H2.out, if_neg HNO.out]; rfl
       have HF := Lib.hid hF; clear hF
       go_wp2_with fail
       (refine wp_region_f [3, 4] (InX (Ob (w.heap.size + 2)) _) (by kernel_rfl) (InX.mk (Keep.drew (Keep.refl _ _))) (fun hI => ?_))
       have x1 : ¬ Ob (w.heap.size + 2) (w.heap.size + 1) := by simp only [Ob]; omega
       (refine wpI_from 0 ?_; (iterate 3 ((first | (refine wpI_take (v := ?_) rfl (by kernel_rfl) (fun _ _ _ h => h) hI rfl ?_ ?_; rotate_left; (focus (rintro _ ⟨E, rfl⟩; go_simp; (try with_reducible rfl)))) | refine wpI_skip rfl (by kernel_rfl) (fun _ _ _ h => h) hI rfl ?_); simp only [Act.put, tk, Nat.reduceAdd])); refine wpI_till ?_)
       (refine wpF_one 3 rfl (by kernel_rfl) rfl (fun K hK => ?_))
       refine wp_store_row 47 (.tmp 7) (.tmp 156) rfl (w.heap.size + 2) _ rfl rfl 47 _ (hZ5.drew) size47 rfl (by simp [Value.oneCell']) ?_
       (refine hK _ _ (fun h => absurd (by simp) h) (fun _ => ?_); clear hK K; try simp only [Act.put, tk])
       (refine wpF_one 4 rfl (by kernel_rfl) rfl (fun K hK => ?_))
       go_simp
       (refine hK _ _ (fun h => absurd (by simp) h) (fun _ => ?_); clear hK K; try simp only [Act.put, tk])
       (refine wpF_done (by kernel_rfl) ?_ _)
       go_wp2_with fail
       refine bodyPost_ret (results_tct Try.results64 _ _ (w.heap.size + 2) 47 _ (0, 0) _ rfl ((hZ5.drew).setRow _) Try.underlying47 rfl size47) rfl ?_
       refine ⟨⟨s'.g, s'.E⟩, by rw [HF.out]; go_simp, by rw [HF.out]; exact fun h => by simp at h, Keep.setRow (Keep.drew hk5) (Or.inl (Nat.le_add_right _ _)) _⟩
      | true =>
       have hs' := himp rfl
       subst hs'
       go_wp2_with fail
       go_roundw
       case rel => exact ⟨j + 1, s', by omega, by go_num, rfl, Lib.hid (by rw [H2.out, if_neg HNO.out]), by omega, by omega, hX5, hD5, hZ5, hk5⟩
       case measure => simp [intOf]; omega
    have m8 : (T.h.k == 8) = false := by simpa using e8
    have E8 := Lib.hid e8; clear e8
    by_cases e9 : T.h.k = 9
    ·have m9 : (T.h.k == 9) = true := by simpa using e9
     have E9 := Lib.hid e9; clear e9
     by_cases ek : T.l[j].h.k = T.h.k
     ·have m0 : (T.l[j].h.k == T.h.k) = true := by simpa using ek
      have hF : R = (false, sj) := by rw [H2.out, if_pos ⟨ek, Or.inr E9.out⟩]; rfl
      have HF := Lib.hid hF; clear hF ek
      go_wp2_with fail
      refine wp_region_x (by kernel_rfl) (by kernel_rfl) ?_; (repeat (go_big_quiet_step ((fail)))); refine wpQuiet_nil ?_; rintro w3 ⟨⟨_, hk3⟩, rfl⟩
      have hk23 : Keep Nb wr w3 := Keep.trans kp hk3 (fun _ _ h => h)
      have hkw3 : Keep Nb w w3 := hk.trans hk23 (fun _ _ h => h)
      clear hk3 d0 d1 d2 d3 d4 d5 d6 d7 d8 d9
      have hD3 := hDj.keep hk23 id
      have hZ3 := hZj.keep hk23 id
      (have d0 := Blk.cell hD3 0 (u := .bool (sj.E 0)) rfl; have d1 := Blk.cell hD3 1 (u := .bool (sj.E 1)) rfl; have d2 := Blk.cell hD3 2 (u := .bool (sj.E 2)) rfl; have d3 := Blk.cell hD3 3 (u := .bool (sj.E 3)) rfl; have d4 := Blk.cell hD3 4 (u := .bool (sj.E 4)) rfl; have d5 := Blk.cell hD3 5 (u := .bool (sj.E 5)) rfl; have d6 := Blk.cell hD3 6 (u := .bool (sj.E 6)) rfl; have d7 := Blk.cell hD3 7 (u := .bool (sj.E 7)) rfl; have d8 := Blk.cell hD3 8 (u := .bool (sj.E 8)) rfl; have d9 := Blk.cell hD3 9 (u := .bool (sj.E 9)) rfl)
      have sD3 := hD3.lt
      have sZ3 := hZ3.lt
      go_wp2_with fail
      (refine wp_region_f [3, 4] (InX (Ob (w.heap.size + 2)) _) (by kernel_rfl) (InX.mk (Keep.drew (Keep.refl _ _))) (fun hI => ?_))
      have x1 : ¬ Ob (w.heap.size + 2) (w.heap.size + 1) := by simp only [Ob]; omega
      (refine wpI_from 0 ?_; (iterate 3 ((first | (refine wpI_take (v := ?_) rfl (by kernel_rfl) (fun _ _ _ h => h) hI rfl ?_ ?_; rotate_left; (focus (rintro _ ⟨E, rfl⟩; go_simp; (try with_reducible rfl)))) | refine wpI_skip rfl (by kernel_rfl) (fun _ _ _ h => h) hI rfl ?_); simp only [Act.put, tk, Nat.reduceAdd])); refine wpI_till ?_)
      (refine wpF_one 3 rfl (by kernel_rfl) rfl (fun K hK => ?_))
      refine wp_store_row 47 (.tmp 7) (.tmp 140) rfl (w.heap.size + 2) _ rfl rfl 47 _ (hZ3.drew) size47 rfl (by simp [Value.oneCell']) ?_
      (refine hK _ _ (fun h => absurd (by simp) h) (fun _ => ?_); clear hK K; try simp only [Act.put, tk])
      (refine wpF_one 4 rfl (by kernel_rfl) rfl (fun K hK => ?_))
      go_simp
      (refine hK _ _ (fun h => absurd (by simp) h) (fun _ => ?_); clear hK K; try simp only [Act.put, tk])
      (refine wpF_done (by kernel_rfl) ?_ _)
      go_wp2_with fail
      refine bodyPost_ret (results_tct Try.results64 _ _ (w.heap.size + 2) 47 _ (0, 0) _ rfl ((hZ3.drew).setRow _) Try.underlying47 rfl size47) rfl ?_
      refine ⟨⟨sj.g, sj.E⟩, by rw [HF.out]; go_simp, by rw [HF.out]; exact fun h => by simp at h, Keep.setRow (Keep.drew hkw3) (Or.inl (Nat.le_add_right _ _)) _⟩
     ·have m0 : (T.l[j].h.k == T.h.k) = false := by simpa using ek
      have hno : ¬ (T.l[j].h.k = T.h.k ∧ (T.h.k = 8 ∨ T.h.k = 9)) := fun h => ek h.1
      have HNO := Lib.hid hno; clear hno ek
      go_wp2_with fail
      refine wp_region_x (by kernel_rfl) (by kernel_rfl) ?_; (repeat (go_big_quiet_step ((fail)))); refine wpQuiet_nil ?_; rintro w3 ⟨⟨_, hk3⟩, rfl⟩
      have hk23 : Keep Nb wr w3 := Keep.trans kp hk3 (fun _ _ h => h)
      have hkw3 : Keep Nb w w3 := hk.trans hk23 (fun _ _ h => h)
      clear hk3 c0 c1 c2 c3 c4 c5 c6 c7 c8 c9 lt p0 p1 p2 p3 p4 p5 p6 p7 p8 p9 d0 d1 d2 d3 d4 d5 d6 d7 d8 d9
      have hX3 := hXj.keep hk23 id
      have hD3 := hDj.keep hk23 id
      have hZ3 := hZj.keep hk23 id
      (have p0 := Blk.cell hX3 0 (u := .int .i64 T.h.k) rfl; have p1 := Blk.cell hX3 1 (u := .int .u8 T.h.c) rfl; have p2 := Blk.cell hX3 2 (u := .int .u64 T.h.s0) rfl; have p3 := Blk.cell hX3 3 (u := .int .u64 T.h.s1) rfl; have p4 := Blk.cell hX3 4 (u := .int .u64 T.h.s2) rfl; have p5 := Blk.cell hX3 5 (u := .int .u64 T.h.s3) rfl; have p6 := Blk.cell hX3 6 (u := .int .i64 T.h.n) rfl; have p7 := Blk.cell hX3 7 (u := .int .i64 T.h.mn) rfl; have p8 := Blk.cell hX3 8 (u := .int .i64 T.h.mx) rfl; have p9 := Blk.cell hX3 9 (u := (.slice (some ⟨b', off, none⟩) T.l.length cap)) rfl)
      (have d0 := Blk.cell hD3 0 (u := .bool (sj.E 0)) rfl; have d1 := Blk.cell hD3 1 (u := .bool (sj.E 1)) rfl; have d2 := Blk.cell hD3 2 (u := .bool (sj.E 2)) rfl; have d3 := Blk.cell hD3 3 (u := .bool (sj.E 3)) rfl; have d4 := Blk.cell hD3 4 (u := .bool (sj.E 4)) rfl; have d5 := Blk.cell hD3 5 (u := .bool (sj.E 5)) rfl; have d6 := Blk.cell hD3 6 (u := .bool (sj.E 6)) rfl; have d7 := Blk.cell hD3 7 (u := .bool (sj.E 7)) rfl; have d8 := Blk.cell hD3 8 (u := .bool (sj.E 8)) rfl; have d9 := Blk.cell hD3 9 (u := .bool (sj.E 9)) rfl)
      obtain ⟨c0, c1, c2, c3, c4, c5, c6, c7, c8, c9, lt⟩ := hten.keep hkw3
      have sX3 := hX3.lt
      have sD3 := hD3.lt
      have sZ3 := hZ3.lt
      go_wp2_with fail
      (refine wp_region_f [14] (InX (Ob (w.heap.size + 1)) _) (by kernel_rfl) (InX.mk (Keep.drew (Keep.refl _ _))) (fun hI => ?_))
      have x1 : ¬ Ob (w.heap.size + 1) w.heap.size := by simp only [Ob]; omega
      have x2 : ¬ Ob (w.heap.size + 1) b' := by simp only [Ob]; omega
      (refine wpI_from 0 ?_; (iterate 6 ((first | (refine wpI_take (v := ?_) rfl (by kernel_rfl) (fun _ _ _ h => h) hI rfl ?_ ?_; rotate_left; (focus (rintro _ ⟨E, rfl⟩; go_simp; (try with_reducible rfl)))) | refine wpI_skip rfl (by kernel_rfl) (fun _ _ _ h => h) hI rfl ?_); simp only [Act.put, tk, Nat.reduceAdd])); refine wpI_till ?_)
      (refine wpF_one 6 rfl (by kernel_rfl) rfl (fun K hK => ?_))
      go_simp
      (refine hK _ _ (fun _ => InX.mk (Keep.drew (Keep.refl _ _))) (fun hI => ?_); have hI := hI (by simp); clear hK K; try simp only [Act.put, tk])
      (refine wpF_one 7 rfl (by kernel_rfl) rfl (fun K hK => ?_))
      go_simp
      refine (HIX.out _ (Lies_keep (Keep.drew hkw3) hS)).mono ?_
      rintro e w4 ⟨s', he, himp, hk4⟩
      subst he
      have hk34 : Keep Nb w3 w4 := Keep.trans kp hk4 (fun _ _ h => h)
      simp only [boolRow]
      (refine hK _ _ (fun _ => InX.mk hk34.ob) (fun hI => ?_); have hI := hI (by simp); clear hK K; try simp only [Act.put, tk])
      (refine wpI_from 8 ?_; (iterate 5 ((first | (refine wpI_take (v := ?_) rfl (by kernel_rfl) (fun _ _ _ h => h) hI rfl ?_ ?_; rotate_left; (focus (rintro _ ⟨E, rfl⟩; go_simp; (try with_reducible rfl)))) | refine wpI_skip rfl (by kernel_rfl) (fun _ _ _ h => h) hI rfl ?_); simp only [Act.put, tk, Nat.reduceAdd])); refine wpI_till ?_)
      (refine wpF_one 13 rfl (by kernel_rfl) rfl (fun K hK => ?_))
      refine wp_store_row 47 (.tmp 5) (.tmp 151) rfl (w.heap.size + 1) _ rfl rfl 47 _ (hD3.keep hk34 id) size47 rfl (by simp [Value.oneCell']) ?_
      (refine hK _ _ (fun _ => InX.mk (Keep.setRow hk34.ob (Or.inr rfl) _)) (fun hI => ?_); have hI := hI (by simp); clear hK K; try simp only [Act.put, tk])
      have hD5 : Blk (w4.setRow (w.heap.size + 1) #[.bool (s'.E 0), .bool (s'.E 1), .bool (s'.E 2), .bool (s'.E 3), .bool (s'.E 4), .bool (s'.E 5), .bool (s'.E 6), .bool (s'.E 7), .bool (s'.E 8), .bool (s'.E 9)]) (w.heap.size + 1) (boolRow s'.E) 47 := (hD3.keep hk34 id).setRow _
      have hX5 : Blk (w4.setRow (w.heap.size + 1) #[.bool (s'.E 0), .bool (s'.E 1), .bool (s'.E 2), .bool (s'.E 3), .bool (s'.E 4), .bool (s'.E 5), .bool (s'.E 6), .bool (s'.E 7), .bool (s'.E 8), .bool (s'.E 9)]) w.heap.size (Nd.row T (.slice (some ⟨b', off, none⟩) T.l.length cap)) 27 := (hX3.keep hk34 id).setRowOther (by omega) _
      have hZ5 : Blk (w4.setRow (w.heap.size + 1) #[.bool (s'.E 0), .bool (s'.E 1), .bool (s'.E 2), .bool (s'.E 3), .bool (s'.E 4), .bool (s'.E 5), .bool (s'.E 6), .bool (s'.E 7), .bool (s'.E 8), .bool (s'.E 9)]) (w.heap.size + 2) (boolRow fun _ => false) 47 := (hZ3.keep hk34 id).setRowOther (by omega) _
      have hk5 : Keep Nb w (w4.setRow (w.heap.size + 1) #[.bool (s'.E 0), .bool (s'.E 1), .bool (s'.E 2), .bool (s'.E 3), .bool (s'.E 4), .bool (s'.E 5), .bool (s'.E 6), .bool (s'.E 7), .bool (s'.E 8), .bool (s'.E 9)]) := Keep.setRow (hkw3.trans hk34 (fun _ _ h => h)) (Or.inl (Nat.le_add_right _ _)) _
      generalize w4.setRow (w.heap.size + 1) #[.bool (s'.E 0), .bool (s'.E 1), .bool (s'.E 2), .bool (s'.E 3), .bool (s'.E 4), .bool (s'.E 5), .bool (s'.E 6), .bool (s'.E 7), .bool (s'.E 8), .bool (s'.E 9)] = w5 at *
      (refine wpF_one 14 rfl (by kernel_rfl) rfl (fun K hK => ?_))
      go_simp
      (refine hK _ _ (fun h => absurd (by simp) h) (fun _ => ?_); clear hK K; try simp only [Act.put, tk])
      (refine wpF_done (by kernel_rfl) ?_ _)
      clear c0 c1 c2 c3 c4 c5 c6 c7 c8 c9 lt p0 p1 p2 p3 p4 p5 p6 p7 p8 p9 d0 d1 d2 d3 d4 d5 d6 d7 d8 d9
      (have d0 := Blk.cell hD5 0 (u := .bool (s'.E 0)) rfl; have d1 := Blk.cell hD5 1 (u := .bool (s'.E 1)) rfl; have d2 := Blk.cell hD5 2 (u := .bool (s'.E 2)) rfl; have d3 := Blk.cell hD5 3 (u := .bool (s'.E 3)) rfl; have d4 := Blk.cell hD5 4 (u := .bool (s'.E 4)) rfl; have d5 := Blk.cell hD5 5 (u := .bool (s'.E 5)) rfl; have d6 := Blk.cell hD5 6 (u := .bool (s'.E 6)) rfl; have d7 := Blk.cell hD5 7 (u := .bool (s'.E 7)) rfl; have d8 := Blk.cell hD5 8 (u := .bool (s'.E 8)) rfl; have d9 := Blk.cell hD5 9 (u := .bool (s'.E 9)) rfl)
      have sD5 := hD5.lt
      have sZ5 := hZ5.lt
      cases r1 with
      | false =>
       have hF : R = (false, r2) := by rw [H2.out, if_neg HNO.out]; rfl
       have HF := Lib.hid hF; clear hF
       go_wp2_with fail
       (refine wp_region_f [3, 4] (InX (Ob (w.heap.size + 2)) _) (by kernel_rfl) (InX.mk (Keep.drew (Keep.refl _ _))) (fun hI => ?_))
       have x1 : ¬ Ob (w.heap.size + 2) (w.heap.size + 1) := by simp only [Ob]; omega
       (refine wpI_from 0 ?_; (iterate 3 ((first | (refine wpI_take (v := ?_) rfl (by kernel_rfl) (fun _ _ _ h => h) hI rfl ?_ ?_; rotate_left; (focus (rintro _ ⟨E, rfl⟩; go_simp; (try with_reducible rfl)))) | refine wpI_skip rfl (by kernel_rfl) (fun _ _ _ h => h) hI rfl ?_); simp only [Act.put, tk, Nat.reduceAdd])); refine wpI_till ?_)
       (refine wpF_one 3 rfl (by kernel_rfl) rfl (fun K hK => ?_))
       refine wp_store_row 47 (.tmp 7) (.tmp 156) rfl (w.heap.size + 2) _ rfl rfl 47 _ (hZ5.drew) size47 rfl (by simp [Value.oneCell']) ?_
       (refine hK _ _ (fun h => absurd (by simp) h) (fun _ => ?_); clear hK K; try simp only [Act.put, tk])
       (refine wpF_one 4 rfl (by kernel_rfl) rfl (fun K hK => ?_))
       go_simp
       (refine hK _ _ (fun h => absurd (by simp) h) (fun _ => ?_); clear hK K; try simp only [Act.put, tk])
       (refine wpF_done (by kernel_rfl) ?_ _)
       go_wp2_with fail
       refine bodyPost_ret (results_tct Try.results64 _ _ (w.heap.size + 2) 47 _ (0, 0) _ rfl ((hZ5.drew).setRow _) Try.underlying47 rfl size47) rfl ?_
       refine ⟨⟨s'.g, s'.E⟩, by rw [HF.out]; go_simp, by rw [HF.out]; exact fun h => by simp at h, Keep.setRow (Keep.drew hk5) (Or.inl (Nat.le_add_right _ _)) _⟩
      | true =>
       have hs' := himp rfl
       subst hs'
       go_wp2_with fail
       go_roundw
       case rel => exact ⟨j + 1, s', by omega, by go_num, rfl, Lib.hid (by rw [H2.out, if_neg HNO.out]), by omega, by omega, hX5, hD5, hZ5, hk5⟩
       case measure => simp [intOf]; omega
    ·have m9 : (T.h.k == 9) = false := by simpa using e9
     have hno : ¬ (T.l[j].h.k = T.h.k ∧ (T.h.k = 8 ∨ T.h.k = 9)) := fun h => by rcases h.2 with h | h; exact E8.out h; exact e9 h
     have HNO := Lib.hid hno; clear hno e9
     go_wp2_with fail
     refine wp_region_x (by kernel_rfl) (by kernel_rfl) ?_; (repeat (go_big_quiet_step ((fail)))); refine wpQuiet_nil ?_; rintro w3 ⟨⟨_, hk3⟩, rfl⟩
     have hk23 : Keep Nb wr w3 := Keep.trans kp hk3 (fun _ _ h => h)
     have hkw3 : Keep Nb w w3 := hk.trans hk23 (fun _ _ h => h)
     clear hk3 c0 c1 c2 c3 c4 c5 c6 c7 c8 c9 lt p0 p1 p2 p3 p4 p5 p6 p7 p8 p9 d0 d1 d2 d3 d4 d5 d6 d7 d8 d9
     have hX3 := hXj.keep hk23 id
     have hD3 := hDj.keep hk23 id
     have hZ3 := hZj.keep hk23 id
     (have p0 := Blk.cell hX3 0 (u := .int .i64 T.h.k) rfl; have p1 := Blk.cell hX3 1 (u := .int .u8 T.h.c) rfl; have p2 := Blk.cell hX3 2 (u := .int .u64 T.h.s0) rfl; have p3 := Blk.cell hX3 3 (u := .int .u64 T.h.s1) rfl; have p4 := Blk.cell hX3 4 (u := .int .u64 T.h.s2) rfl; have p5 := Blk.cell hX3 5 (u := .int .u64 T.h.s3) rfl; have p6 := Blk.cell hX3 6 (u := .int .i64 T.h.n) rfl; have p7 := Blk.cell hX3 7 (u := .int .i64 T.h.mn) rfl; have p8 := Blk.cell hX3 8 (u := .int .i64 T.h.mx) rfl; have p9 := Blk.cell hX3 9 (u := (.slice (some ⟨b', off, none⟩) T.l.length cap)) rfl)
     (have d0 := Blk.cell hD3 0 (u := .bool (sj.E 0)) rfl; have d1 := Blk.cell hD3 1 (u := .bool (sj.E 1)) rfl; have d2 := Blk.cell hD3 2 (u := .bool (sj.E 2)) rfl; have d3 := Blk.cell hD3 3 (u := .bool (sj.E 3)) rfl; have d4 := Blk.cell hD3 4 (u := .bool (sj.E 4)) rfl; have d5 := Blk.cell hD3 5 (u := .bool (sj.E 5)) rfl; have d6 := Blk.cell hD3 6 (u := .bool (sj.E 6)) rfl; have d7 := Blk.cell hD3 7 (u := .bool (sj.E 7)) rfl; have d8 := Blk.cell hD3 8 (u := .bool (sj.E 8)) rfl; have d9 := Blk.cell hD3 9 (u := .bool (sj.E 9)) rfl)
     obtain ⟨c0, c1, c2, c3, c4, c5, c6, c7, c8, c9, lt⟩ := hten.keep hkw3
     have sX3 := hX3.lt
     have sD3 := hD3.lt
     have sZ3 := hZ3.lt
     go_wp2_with fail
     (refine wp_region_f [14] (InX (Ob (w.heap.size + 1)) _) (by kernel_rfl) (InX.mk (Keep.drew (Keep.refl _ _))) (fun hI => ?_))
     have x1 : ¬ Ob (w.heap.size + 1) w.heap.size := by simp only [Ob]; omega
     have x2 : ¬ Ob (w.heap.size + 1) b' := by simp only [Ob]; omega
     (refine wpI_from 0 ?_; (iterate 6 ((first | (refine wpI_take (v := ?_) rfl (by kernel_rfl) (fun _ _ _ h => h) hI rfl ?_ ?_; rotate_left; (focus (rintro _ ⟨E, rfl⟩; go_simp; (try with_reducible rfl)))) | refine wpI_skip rfl (by kernel_rfl) (fun _ _ _ h => h) hI rfl ?_); simp only [Act.put, tk, Nat.reduceAdd])); refine wpI_till ?_)
     (refine wpF_one 6 rfl (by kernel_rfl) rfl (fun K hK => ?_))
     go_simp
     (refine hK _ _ (fun _ => InX.mk (Keep.drew (Keep.refl _ _))) (fun hI => ?_); have hI := hI (by simp); clear hK K; try simp only [Act.put, tk])
     (refine wpF_one 7 rfl (by kernel_rfl) rfl (fun K hK => ?_))
     go_simp
     refine (HIX.out _ (Lies_keep (Keep.drew hkw3) hS)).mono ?_
     rintro e w4 ⟨s', he, himp, hk4⟩
     subst he
     have hk34 : Keep Nb w3 w4 := Keep.trans kp hk4 (fun _ _ h => h)
     simp only [boolRow]
     (refine hK _ _ (fun _ => InX.mk hk34.ob) (fun hI => ?_); have hI := hI (by simp); clear hK K; try simp only [Act.put, tk])
     (refine wpI_from 8 ?_; (iterate 5 ((first | (refine wpI_take (v := ?_) rfl (by kernel_rfl) (fun _ _ _ h => h) hI rfl ?_ ?_; rotate_left; (focus (rintro _ ⟨E, rfl⟩; go_simp; (try with_reducible rfl)))) | refine wpI_skip rfl (by kernel_rfl) (fun _ _ _ h => h) hI rfl ?_); simp only [Act.put, tk, Nat.reduceAdd])); refine wpI_till ?_)
     (refine wpF_one 13 rfl (by kernel_rfl) rfl (fun K hK => ?_))
     refine wp_store_row 47 (.tmp 5) (.tmp 151) rfl (w.heap.size + 1) _ rfl rfl 47 _ (hD3.keep hk34 id) size47 rfl (by simp [Value.oneCell']) ?_
     (refine hK _ _ (fun _ => InX.mk (Keep.setRow hk34.ob (Or.inr rfl) _)) (fun hI => ?_); have hI := hI (by simp); clear hK K; try simp only [Act.put, tk])
     have hD5 : Blk (w4.setRow (w.heap.size + 1) #[.bool (s'.E 0), .bool (s'.E 1), .bool (s'.E 2), .bool (s'.E 3), .bool (s'.E 4), .bool (s'.E 5), .bool (s'.E 6), .bool (s'.E 7), .bool (s'.E 8), .bool (s'.E 9)]) (w.heap.size + 1) (boolRow s'.E) 47 := (hD3.keep hk34 id).setRow _
     have hX5 : Blk (w4.setRow (w.heap.size + 1) #[.bool (s'.E 0), .bool (s'.E 1), .bool (s'.E 2), .bool (s'.E 3), .bool (s'.E 4), .bool (s'.E 5), .bool (s'.E 6), .bool (s'.E 7), .bool (s'.E 8), .bool (s'.E 9)]) w.heap.size (Nd.row T (.slice (some ⟨b', off, none⟩) T.l.length cap)) 27 := (hX3.keep hk34 id).setRowOther (by omega) _
     have hZ5 : Blk (w4.setRow (w.heap.size + 1) #[.bool (s'.E 0), .bool (s'.E 1), .bool (s'.E 2), .bool (s'.E 3), .bool (s'.E 4), .bool (s'.E 5), .bool (s'.E 6), .bool (s'.E 7), .bool (s'.E 8), .bool (s'.E 9)]) (w.heap.size + 2) (boolRow fun _ => false) 47 := (hZ3.keep hk34 id).setRowOther (by omega) _
     have hk5 : Keep Nb w (w4.setRow (w.heap.size + 1) #[.bool (s'.E 0), .bool (s'.E 1), .bool (s'.E 2), .bool (s'.E 3), .bool (s'.E 4), .bool (s'.E 5), .bool (s'.E 6), .bool (s'.E 7), .bool (s'.E 8), .bool (s'.E 9)]) := Keep.setRow (hkw3.trans hk34 (fun _ _ h => h)) (Or.inl (Nat.le_add_right _ _)) _
     generalize w4.setRow (w.heap.size + 1) #[.bool (s'.E 0), .bool (s'.E 1), .bool (s'.E 2), .bool (s'.E 3), .bool (s'.E 4), .bool (s'.E 5), .bool (s'.E 6), .bool (s'.E 7), .bool (s'.E 8), .bool (s'.E 9)] = w5 at *
     (refine wpF_one 14 rfl (by kernel_rfl) rfl (fun K hK => ?_))
     go_simp
     (refine hK _ _ (fun h => absurd (by simp) h) (fun _ => ?_); clear hK K; try simp only [Act.put, tk])
     (refine wpF_done (by kernel_rfl) ?_ _)
     clear c0 c1 c2 c3 c4 c5 c6 c7 c8 c9 lt p0 p1 p2 p3 p4 p5 p6 p7 p8 p9 d0 d1 d2 d3 d4 d5 d6 d7 d8 d9
     (have d0 := Blk.cell hD5 0 (u := .bool (s'.E 0)) rfl; have d1 := Blk.cell hD5 1 (u := .bool (s'.E 1)) rfl; have d2 := Blk.cell hD5 2 (u := .bool (s'.E 2)) rfl; have d3 := Blk.cell hD5 3 (u := .bool (s'.E 3)) rfl; have d4 := Blk.cell hD5 4 (u := .bool (s'.E 4)) rfl; have d5 := Blk.cell hD5 5 (u := .bool (s'.E 5)) rfl; have d6 := Blk.cell hD5 6 (u := .bool (s'.E 6)) rfl; have d7 := Blk.cell hD5 7 (u := .bool (s'.E 7)) rfl; have d8 := Blk.cell hD5 8 (u := .bool (s'.E 8)) rfl; have d9 := Blk.cell hD5 9 (u := .bool (s'.E 9)) rfl)
     have sD5 := hD5.lt
     have sZ5 := hZ5.lt
     cases r1 with
     | false =>
      have hF : R = (false, r2) := by rw [H2.out, if_neg HNO.out]; rfl
      have HF := Lib.hid hF; clear hF
      go_wp2_with fail
      (refine wp_region_f [3, 4] (InX (Ob (w.heap.size + 2)) _) (by kernel_rfl) (InX.mk (Keep.drew (Keep.refl _ _))) (fun hI => ?_))
      have x1 : ¬ Ob (w.heap.size + 2) (w.heap.size + 1) := by simp only [Ob]; omega
      (refine wpI_from 0 ?_; (iterate 3 ((first | (refine wpI_take (v := ?_) rfl (by kernel_rfl) (fun _ _ _ h => h) hI rfl ?_ ?_; rotate_left; (focus (rintro _ ⟨E, rfl⟩; go_simp; (try with_reducible rfl)))) | refine wpI_skip rfl (by kernel_rfl) (fun _ _ _ h => h) hI rfl ?_); simp only [Act.put, tk, Nat.reduceAdd])); refine wpI_till ?_)
      (refine wpF_one 3 rfl (by kernel_rfl) rfl (fun K hK => ?_))
      refine wp_store_row 47 (.tmp 7) (.tmp 156) rfl (w.heap.size + 2) _ rfl rfl 47 _ (hZ5.drew) size47 rfl (by simp [Value.oneCell']) ?_
      (refine hK _ _ (fun h => absurd (by simp) h) (fun _ => ?_); clear hK K; try simp only [Act.put, tk])
      (refine wpF_one 4 rfl (by kernel_rfl) rfl (fun K hK => ?_))
      go_simp
      (refine hK _ _ (fun h => absurd (by simp) h) (fun _ => ?_); clear hK K; try simp only [Act.put, tk])
      (refine wpF_done (by kernel_rfl) ?_ _)
      go_wp2_with fail
      refine bodyPost_ret (results_tct Try.results64 _ _ (w.heap.size + 2) 47 _ (0, 0) _ rfl ((hZ5.drew).setRow _) Try.underlying47 rfl size47) rfl ?_
      refine ⟨⟨s'.g, s'.E⟩, by rw [HF.out]; go_simp, by rw [HF.out]; exact fun h => by simp at h, Keep.setRow (Keep.drew hk5) (Or.inl (Nat.le_add_right _ _)) _⟩
     | true =>
      have hs' := himp rfl
      subst hs'
      go_wp2_with fail
      go_roundw
      case rel => exact ⟨j + 1, s', by omega, by go_num, rfl, Lib.hid (by rw [H2.out, if_neg HNO.out]), by omega, by omega, hX5, hD5, hZ5, hk5⟩
      case measure => simp [intOf]; omega
   ·obtain rfl : j = T.l.length := by omega
    have hF := hH.out
    rw [List.drop_length, allL] at hF
    have HF := Lib.hid hF; clear hF hH
    by_cases k6 : T.h.k = 6
    ·have m6 : (T.h.k == 6) = true := by simpa using k6
     obtain ⟨n1, n9, g9, ng⟩ := HN6.out k6
     clear g9 ng
     obtain ⟨E', hE'⟩ : ∃ E' : Nat → Bool, E' = fun i => if i = T.h.n.toNat then true else sj.E i := ⟨_, rfl⟩
     have hR6 : R = (true, ⟨sj.g, E'⟩) := by rw [HF.out, hE']; simp [finish, k6]
     have HF := Lib.hid hR6; clear hR6 k6
     have hm9 : T.h.n.toNat = 1 ∨ T.h.n.toNat = 2 ∨ T.h.n.toNat = 3 ∨ T.h.n.toNat = 4 ∨ T.h.n.toNat = 5 ∨ T.h.n.toNat = 6 ∨ T.h.n.toNat = 7 ∨ T.h.n.toNat = 8 ∨ T.h.n.toNat = 9 := by omega
     have cm : wr.cell? ⟨w.heap.size + 1, T.h.n.toNat, none⟩ = some (.bool (sj.E T.h.n.toNat)) := hDj.cell T.h.n.toNat (by rcases hm9 with h | h | h | h | h | h | h | h | h <;> rw [h] <;> rfl)
     have fm := hDj.frozen T.h.n.toNat
     have i0 : (0 : Int) ≤ T.h.n := by omega
     have i1 : T.h.n < 10 := by omega
     have hD6 : Blk (wr.setCell ⟨w.heap.size + 1, T.h.n.toNat, none⟩ (.bool true)) (w.heap.size + 1) (boolRow E') 47 := by
      have h5 := hDj.set T.h.n.toNat (.bool true)
      have h6 : (boolRow sj.E).setIfInBounds T.h.n.toNat (.bool true) = boolRow E' := by
       rw [hE']
       rcases hm9 with h | h | h | h | h | h | h | h | h <;> rw [h] <;> rfl
      rwa [h6] at h5
     have hZ6 : Blk (wr.setCell ⟨w.heap.size + 1, T.h.n.toNat, none⟩ (.bool true)) (w.heap.size + 2) (boolRow fun _ => false) 47 := hZj.setOther (by simp) _
     have hk6 : Keep Nb w (wr.setCell ⟨w.heap.size + 1, T.h.n.toNat, none⟩ (.bool true)) := Keep.setCell hk (Or.inl (by simp)) _
     have HM9 := Lib.hid hm9; clear hm9
     have HE' := Lib.hid hE'; clear hE'
     go_wp2_with fail
     obtain ⟨w6, hw6⟩ : ∃ x, x = wr.setCell ⟨w.heap.size + 1, T.h.n.toNat, none⟩ (.bool true) := ⟨_, rfl⟩
     rw [← hw6] at hD6 hZ6 hk6 ⊢
     clear hw6
     clear d0 d1 d2 d3 d4 d5 d6 d7 d8 d9
     (have d0 := Blk.cell hD6 0 (u := .bool (E' 0)) rfl; have d1 := Blk.cell hD6 1 (u := .bool (E' 1)) rfl; have d2 := Blk.cell hD6 2 (u := .bool (E' 2)) rfl; have d3 := Blk.cell hD6 3 (u := .bool (E' 3)) rfl; have d4 := Blk.cell hD6 4 (u := .bool (E' 4)) rfl; have d5 := Blk.cell hD6 5 (u := .bool (E' 5)) rfl; have d6 := Blk.cell hD6 6 (u := .bool (E' 6)) rfl; have d7 := Blk.cell hD6 7 (u := .bool (E' 7)) rfl; have d8 := Blk.cell hD6 8 (u := .bool (E' 8)) rfl; have d9 := Blk.cell hD6 9 (u := .bool (E' 9)) rfl)
     have sD6 := hD6.lt
     have sZ6 := hZ6.lt
     (refine wp_region_f [3, 4] (InX (Ob (w.heap.size + 2)) _) (by kernel_rfl) (InX.mk (Keep.drew (Keep.refl _ _))) (fun hI => ?_))
     have x1 : ¬ Ob (w.heap.size + 2) (w.heap.size + 1) := by simp only [Ob]; omega
     (refine wpI_from 0 ?_; (iterate 3 ((first | (refine wpI_take (v := ?_) rfl (by kernel_rfl) (fun _ _ _ h => h) hI rfl ?_ ?_; rotate_left; (focus (rintro _ ⟨E, rfl⟩; go_simp; (try with_reducible rfl)))) | refine wpI_skip rfl (by kernel_rfl) (fun _ _ _ h => h) hI rfl ?_); simp only [Act.put, tk, Nat.reduceAdd])); refine wpI_till ?_)
     (refine wpF_one 3 rfl (by kernel_rfl) rfl (fun K hK => ?_))
     refine wp_store_row 47 (.tmp 7) (.tmp 165) rfl (w.heap.size + 2) _ rfl rfl 47 _ (hZ6.drew) size47 rfl (by simp [Value.oneCell']) ?_
     (refine hK _ _ (fun h => absurd (by simp) h) (fun _ => ?_); clear hK K; try simp only [Act.put, tk])
     (refine wpF_one 4 rfl (by kernel_rfl) rfl (fun K hK => ?_))
     go_simp
     (refine hK _ _ (fun h => absurd (by simp) h) (fun _ => ?_); clear hK K; try simp only [Act.put, tk])
     (refine wpF_done (by kernel_rfl) ?_ _)
     go_wp2_with fail
     refine bodyPost_ret (results_tct Try.results64 _ _ (w.heap.size + 2) 47 _ (0, 0) _ rfl ((hZ6.drew).setRow _) Try.underlying47 rfl size47) rfl ?_
     refine ⟨⟨sj.g, E'⟩, by rw [HF.out]; go_simp, by rw [HF.out]; exact (fun _ => rfl), Keep.setRow (Keep.drew hk6) (Or.inl (Nat.le_add_right _ _)) _⟩
    ·have m6 : (T.h.k == 6) = false := by simpa using k6
     have hR6 : R = (true, sj) := by rw [HF.out]; simp [finish, k6]
     have HF := Lib.hid hR6; clear hR6 k6
     go_wp2_with fail
     (refine wp_region_f [3, 4] (InX (Ob (w.heap.size + 2)) _) (by kernel_rfl) (InX.mk (Keep.drew (Keep.refl _ _))) (fun hI => ?_))
     have x1 : ¬ Ob (w.heap.size + 2) (w.heap.size + 1) := by simp only [Ob]; omega
     (refine wpI_from 0 ?_; (iterate 3 ((first | (refine wpI_take (v := ?_) rfl (by kernel_rfl) (fun _ _ _ h => h) hI rfl ?_ ?_; rotate_left; (focus (rintro _ ⟨E, rfl⟩; go_simp; (try with_reducible rfl)))) | refine wpI_skip rfl (by kernel_rfl) (fun _ _ _ h => h) hI rfl ?_); simp only [Act.put, tk, Nat.reduceAdd])); refine wpI_till ?_)
     (refine wpF_one 3 rfl (by kernel_rfl) rfl (fun K hK => ?_))
     refine wp_store_row 47 (.tmp 7) (.tmp 165) rfl (w.heap.size + 2) _ rfl rfl 47 _ (hZj.drew) size47 rfl (by simp [Value.oneCell']) ?_
     (refine hK _ _ (fun h => absurd (by simp) h) (fun _ => ?_); clear hK K; try simp only [Act.put, tk])
     (refine wpF_one 4 rfl (by kernel_rfl) rfl (fun K hK => ?_))
     go_simp
     (refine hK _ _ (fun h => absurd (by simp) h) (fun _ => ?_); clear hK K; try simp only [Act.put, tk])
     (refine wpF_done (by kernel_rfl) ?_ _)
     go_wp2_with fail
     refine bodyPost_ret (results_tct Try.results64 _ _ (w.heap.size + 2) 47 _ (0, 0) _ rfl ((hZj.drew).setRow _) Try.underlying47 rfl size47) rfl ?_
     refine ⟨⟨sj.g, sj.E⟩, by rw [HF.out]; go_simp, by rw [HF.out]; exact (fun _ => rfl), Keep.setRow (Keep.drew hk) (Or.inl (Nat.le_add_right _ _)) _⟩
end Go.Proofs.Ytkidjbfapldmbaa
