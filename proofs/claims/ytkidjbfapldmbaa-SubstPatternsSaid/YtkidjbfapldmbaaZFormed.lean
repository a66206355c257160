import Derived.Test.YtkidjbfapldmbaaZOwn3
import Derived.Test.YtkidjbfapldmbaaZOwn4
import Derived.Test.YtkidjbfapldmbaaZMeas
set_option linter.unusedVariables false
set_option linter.unusedSimpArgs false
namespace Go.Proofs.Ytkidjbfapldmbaa
open Go.RowKit P8
theorem own_any (T : Nd) (s : Chk) (hlen : T.l.length ≤ 1000000) (hg0 : 0 ≤ s.g) (hg1 : s.g ≤ 1000000) (v : Value) (b : Nat) (w : World) (hb : Blk w b s.row 97) (hl : Lies w T v) :
  Calls Try.prog 82 #[.pointer (some ⟨b, 0, none⟩), .agg (Nd.row T v)] w fun e w' => e = .returned (.bool (own T s)) ∧ Blk w' b (ownS T s).row 97 ∧ Keep (Ob b) w w' := by
 rw [Lies_def] at hl
 obtain ⟨A, cap, rfl, hcap, _, hL⟩ := hl
 have bad : headOk T = false → own T s = false ∧ ownS T s = s := fun h => ⟨by simp [own, h], by simp [ownS, h]⟩
 have fin : headOk T = false → (Calls Try.prog 82 #[.pointer (some ⟨b, 0, none⟩), .agg (Nd.row T (.slice A T.l.length cap))] w fun e w' => e = .returned (.bool false) ∧ Keep Nb w w') →
   Calls Try.prog 82 #[.pointer (some ⟨b, 0, none⟩), .agg (Nd.row T (.slice A T.l.length cap))] w fun e w' => e = .returned (.bool (own T s)) ∧ Blk w' b (ownS T s).row 97 ∧ Keep (Ob b) w w' :=
  fun h hc => hc.mono fun e w' ⟨he, hk⟩ => by rw [(bad h).1, (bad h).2]; exact ⟨he, hb.keep hk id, hk.ob⟩
 by_cases h1 : T.h.k < 1
 ·exact fin (by simp [headOk]; omega) (own_bad1 T h1 b _ w)
 by_cases h2 : 10 < T.h.k
 ·exact fin (by simp [headOk]; omega) (own_bad2 T (by omega) h2 b _ w)
 by_cases h3' : neededH T.h ≠ T.h
 ·exact fin (by simp [headOk, h3']) (own_bad3 T (by omega) (by omega) h3' b _ w)
 have h3 : neededH T.h = T.h := Decidable.not_not.1 h3'
 by_cases h4' : ¬ (kidsOf T.h.k < 0 ∨ kidsOf T.h.k = T.l.length)
 ·exact fin (by simp only [headOk, h4', and_false, decide_false]) (own_bad4 T A cap hlen (by omega) (by omega) h3 (by omega) (by omega) b w)
 have h4 := Decidable.not_not.1 h4'
 have hok : headOk T = true := by simp [headOk, h3, h4]; omega
 by_cases k6 : T.h.k = 6
 ·exact own_6 T s hlen hg0 hg1 hok k6 A cap hcap b w hb hL
 by_cases k7 : T.h.k = 7
 ·exact own_7 T s hlen hg0 hg1 hok k7 A cap hcap b w hb hL
 by_cases k8 : T.h.k = 8
 ·exact own_8 T s hlen hg0 hg1 hok k8 A cap hcap b w hb hL
 by_cases k9 : T.h.k = 9
 ·exact own_9 T s hlen hg0 hg1 hok k9 A cap hcap b w hb hL
 by_cases k10 : T.h.k = 10
 ·exact own_10 T s hlen hg0 hg1 hok k10 A cap hcap b w hb hL
 ·exact own_0 T s hlen hg0 hg1 hok (by omega) A cap hcap b w hb hL
mutual
def allT : Nd → Chk → Bool × Chk
 | .mk h l, s => if own (.mk h l) s = false then (false, ownS (.mk h l) s) else
   match allL h.k l (ownS (.mk h l) s) with
   | (false, s') => (false, s')
   | (true, s') => (true, if h.k = 6 then ⟨s'.g, fun i => if i = h.n.toNat then true else s'.E i⟩ else s')
def allL (k : Int) : List Nd → Chk → Bool × Chk
 | [], s => (true, s)
 | x :: r, s => if x.h.k = k ∧ (k = 8 ∨ k = 9) then (false, s) else
   match allT x s with
   | (false, s') => (false, s')
   | (true, s') => allL k r s'
end
theorem ownS_g (T : Nd) (s : Chk) : s.g ≤ (ownS T s).g ∧ (ownS T s).g ≤ s.g + 1 := by unfold ownS; split <;> simp <;> omega
mutual
theorem allT_g : ∀ (T : Nd) (s : Chk), s.g ≤ (allT T s).2.g ∧ (allT T s).2.g ≤ s.g + count T
 | .mk h l, s => by
  have h1 := ownS_g (.mk h l) s
  have h2 := allL_g h.k l (ownS (.mk h l) s)
  rw [allT, count]
  split
  ·simp only []; omega
  ·split
   ·rename_i s' e; rw [e] at h2; simp only [] at h2 ⊢; omega
   ·rename_i s' e; rw [e] at h2; simp only [] at h2 ⊢; split <;> (try simp only []) <;> omega
theorem allL_g : ∀ (k : Int) (l : List Nd) (s : Chk), s.g ≤ (allL k l s).2.g ∧ (allL k l s).2.g ≤ s.g + countL l
 | k, [], s => by rw [allL, countL]; simp
 | k, x :: r, s => by
  have h1 := allT_g x s
  rw [allL, countL]
  split
  ·simp only []; omega
  ·split
   ·rename_i s' e; rw [e] at h1; simp only [] at h1 ⊢; omega
   ·rename_i s' e; rw [e] at h1
    have h2 := allL_g k r s'
    simp only [] at h1 h2 ⊢; omega
end
def AllSaid (c : Nat) : Prop := ∀ (T : Nd) (_ : count T ≤ c) (s : Chk) (_ : 0 ≤ s.g) (_ : s.g + count T ≤ 1000000) (v : Value) (b : Nat) (w : World) (_ : Blk w b s.row 97) (_ : LiesP (fun k => k ≠ b) w T v),
  Calls Try.prog 63 #[.pointer (some ⟨b, 0, none⟩), .agg (Nd.row T v)] w fun e w' => e = .returned (.bool (allT T s).1) ∧ Blk w' b (allT T s).2.row 97 ∧ Keep (Ob b) w w'
def finish (h : Hd) : Bool × Chk → Bool × Chk
 | (false, s') => (false, s')
 | (true, s') => (true, if h.k = 6 then ⟨s'.g, fun i => if i = h.n.toNat then true else s'.E i⟩ else s')
theorem allT_ok {T : Nd} {s : Chk} (h : own T s = true) : allT T s = finish T.h (allL T.h.k T.l (ownS T s)) := by
 obtain ⟨h', l⟩ := T
 rw [allT, if_neg (by simp [h])]
 simp only [Nd.h, Nd.l]
 split <;> rename_i e <;> rw [e] <;> rfl
theorem allL_step (k : Int) (l : List Nd) (j : Nat) (hj : j < l.length) (s : Chk) : allL k (l.drop j) s = if l[j].h.k = k ∧ (k = 8 ∨ k = 9) then (false, s) else
      match allT l[j] s with
      | (false, s') => (false, s')
      | (true, s') => allL k (l.drop (j + 1)) s' := by
 rw [List.drop_eq_getElem_cons hj, allL]
theorem countL_drop (l : List Nd) (j : Nat) (hj : j < l.length) : countL (l.drop j) = count l[j] + countL (l.drop (j + 1)) := by
 rw [List.drop_eq_getElem_cons hj, countL]
set_option maxRecDepth 100000 in
set_option maxHeartbeats 4000000 in
theorem all_step (c : Nat) (hc : c ≤ 900000) (HI : Hid (AllSaid c)) : AllSaid (c + 1) := by
 intro T hd s hg0 hg1 v b w hb hl
 have hl' := hl
 rw [LiesP_def] at hl
 obtain ⟨A, cap, rfl, h1, h2, hL⟩ := hl
 have hlen : T.l.length ≤ 1000000 := by cases T; rw [count] at hd; have := countL_len ‹_›; simp only [Nd.l]; omega
 have hcl : countL T.l ≤ c := by cases T; rw [count] at hd; simp only [Nd.l]; omega
 have hcT : count T = 1 + countL T.l := by cases T; rw [count]; rfl
 unfold maxLen at h2
 have hblt := hb.lt
 have hown := own_any T s hlen hg0 (by omega) (.slice A T.l.length cap) b
 have hSg := ownS_g T s
 generalize hR : allT T s = R
 cases ho : own T s with
 | false =>
  have hR2 : R = (false, ownS T s) := by rw [← hR]; obtain ⟨h', l⟩ := T; rw [allT, if_pos ho]
  subst hR2
  rw [ho] at hown
  clear ho hR
  have HO := Lib.hid hown; clear hown
  simp only [Nd.row]
  go_enter Try.func63, Try.ntmps63
  go_wp2_with fail
  refine (HO.out _ (hb.alloc _) (Lies_keep kp (LiesP_all hl'))).mono ?_
  rintro e w2 ⟨rfl, hb2, hk2⟩
  go_wp2_with fail
  go_ret
  exact ⟨rfl, hb2, (Keep.alloc (Keep.refl (Ob b) w) _).trans hk2 (fun _ _ h => h)⟩
 | true =>
  have hR2 := allT_ok ho
  rw [hR] at hR2
  have hn6 : T.h.k = 6 → 1 ≤ T.h.n ∧ T.h.n ≤ 9 := fun k6 => by
   simp only [own, k6, if_true, Bool.and_eq_true, decide_eq_true_eq] at ho; omega
  rw [ho] at hown
  clear ho
  have HO := Lib.hid hown; clear hown
  generalize hs0 : ownS T s = s0 at *
  have HR := Lib.hid hR2; clear hR2 hR hs0
  have HN6 := Lib.hid hn6; clear hn6
  have hbw : w.heap.size ≠ b := by omega
  simp only [Nd.row]
  go_enter Try.func63, Try.ntmps63
  go_wp2_with fail
  refine (HO.out _ (hb.alloc _) (Lies_keep kp (LiesP_all hl'))).mono ?_
  rintro e w2 ⟨rfl, hb2, hk2⟩
  have hbx : Blk w2 w.heap.size (Nd.row T (.slice A T.l.length cap)) 33 := (Blk.new w _ _).keep hk2 (by simp only [Ob]; exact hbw)
  have hkw : Keep (Ob b) w w2 := (Keep.alloc (Keep.refl (Ob b) w) _).trans hk2 (fun _ _ h => h)
  have hs2 := hbx.lt
  (have o0 := Blk.cell hbx 0 (u := .int .i64 T.h.k) rfl; have o1 := Blk.cell hbx 1 (u := .int .u8 T.h.c) rfl; have o2 := Blk.cell hbx 2 (u := .int .u64 T.h.s0) rfl; have o3 := Blk.cell hbx 3 (u := .int .u64 T.h.s1) rfl; have o4 := Blk.cell hbx 4 (u := .int .u64 T.h.s2) rfl; have o5 := Blk.cell hbx 5 (u := .int .u64 T.h.s3) rfl; have o6 := Blk.cell hbx 6 (u := .int .i64 T.h.n) rfl; have o7 := Blk.cell hbx 7 (u := .int .i64 T.h.mn) rfl; have o8 := Blk.cell hbx 8 (u := .int .i64 T.h.mx) rfl; have o9 := Blk.cell hbx 9 (u := (.slice A T.l.length cap)) rfl)
  clear hk2
  go_wp2_with fail
  go_loopw [14] (fun i wr => ∃ (j : Nat) (sj : Chk), j ≤ T.l.length ∧ i = .int .i64 j ∧ Hid (R = finish T.h (allL T.h.k (T.l.drop j) sj)) ∧ 0 ≤ sj.g ∧ sj.g + countL (T.l.drop j) ≤ 1000000 ∧ Blk wr b sj.row 97 ∧
    Blk wr w.heap.size (Nd.row T (.slice A T.l.length cap)) 33 ∧ Keep (Ob b) w wr) (fun i _ => T.l.length - (intOf i).toNat)
  case atStart => exact ⟨0, s0, by omega, rfl, Lib.hid (by rw [HR.out]; rfl), by omega, by rw [List.drop_zero]; omega, hb2, hbx, hkw⟩
  case round =>
   obtain ⟨j, sj, hj, rfl, hH, hs0, hs1, hbj, hbxj, hk⟩ := hrel
   (have p0 := Blk.cell hbxj 0 (u := .int .i64 T.h.k) rfl; have p1 := Blk.cell hbxj 1 (u := .int .u8 T.h.c) rfl; have p2 := Blk.cell hbxj 2 (u := .int .u64 T.h.s0) rfl; have p3 := Blk.cell hbxj 3 (u := .int .u64 T.h.s1) rfl; have p4 := Blk.cell hbxj 4 (u := .int .u64 T.h.s2) rfl; have p5 := Blk.cell hbxj 5 (u := .int .u64 T.h.s3) rfl; have p6 := Blk.cell hbxj 6 (u := .int .i64 T.h.n) rfl; have p7 := Blk.cell hbxj 7 (u := .int .i64 T.h.mn) rfl; have p8 := Blk.cell hbxj 8 (u := .int .i64 T.h.mx) rfl; have p9 := Blk.cell hbxj 9 (u := (.slice A T.l.length cap)) rfl)
   have hsj := hbxj.lt
   have hbjl := hbj.lt
   by_cases hlt : j < T.l.length
   ·obtain ⟨b', off, A2, n2, rfl, hne, hten, hS⟩ := hL.atP j hlt
    obtain ⟨c0, c1, c2, c3, c4, c5, c6, c7, c8, c9, lt⟩ := hten.keepX hk hne
    have hcj := countL_get_le T.l j hlt
    have hcd := countL_drop T.l j hlt
    have hst := allL_step T.h.k T.l j hlt sj
    have hSk := LiesP_keep hk (fun k hk' => hk') hS
    have HIx := HI.out T.l[j] (by omega) sj hs0 (by omega) (.slice A2 T.l[j].l.length n2) b
    have hag := allT_g T.l[j] sj
    have HH2 : R = finish T.h (if T.l[j].h.k = T.h.k ∧ (T.h.k = 8 ∨ T.h.k = 9) then (false, sj) else match allT T.l[j] sj with | (false, s') => (false, s') | (true, s') => allL T.h.k (T.l.drop (j + 1)) s') := by rw [hH.out, hst]
    generalize hat : allT T.l[j] sj = r at HIx hag HH2
    obtain ⟨r1, r2⟩ := r
    have HIX := Lib.hid HIx
    clear HIx hst hat hH
    have H2 := Lib.hid HH2; clear HH2
    simp only [] at hag
    by_cases ek : T.l[j].h.k = T.h.k
    ·have m0 : (T.l[j].h.k == T.h.k) = true := by simpa using ek
     have EK := Lib.hid ek; clear ek
     by_cases e8 : T.h.k = 8
     ·have m8 : (T.h.k == 8) = true := by simpa using e8
      have E8 := Lib.hid e8; clear e8
      go_wp2_with fail
      go_ret
      have hF : R = (false, sj) := by rw [H2.out, if_pos ⟨EK.out, Or.inl E8.out⟩]; rfl
      exact ⟨ret_bool (by rw [hF]), by rw [hF]; exact hbj.alloc _, hk.alloc _⟩
     ·have m8 : (T.h.k == 8) = false := by simpa using e8
      have E8 := Lib.hid e8; clear e8
      by_cases e9 : T.h.k = 9
      ·have m9 : (T.h.k == 9) = true := by simpa using e9
       have E9 := Lib.hid e9; clear e9
       go_wp2_with fail
       go_ret
       have hF : R = (false, sj) := by rw [H2.out, if_pos ⟨EK.out, Or.inr E9.out⟩]; rfl
       exact ⟨ret_bool (by rw [hF]), by rw [hF]; exact hbj.alloc _, hk.alloc _⟩
      ·have m9 : (T.h.k == 9) = false := by simpa using e9
       have hno : ¬ (T.l[j].h.k = T.h.k ∧ (T.h.k = 8 ∨ T.h.k = 9)) := fun h => by rcases h.2 with h | h; exact E8.out h; exact e9 h
       have HNO := Lib.hid hno; clear hno e9
       go_wp2_with fail
       refine (HIX.out _ (hbj.alloc _) (LiesP_keep ((Keep.refl (Ob b) _).alloc _) (fun k hk' => hk') hSk)).mono ?_
       rintro e w4 ⟨rfl, hb4, hk4⟩
       have hbx4 := (hbxj.alloc _).keep hk4 (by simp only [Ob]; exact hbw)
       have hk5 : Keep (Ob b) w w4 := (hk.alloc _).trans hk4 (fun _ _ h => h)
       cases r1 with
       | false =>
        have hF : R = (false, r2) := by rw [H2.out, if_neg HNO.out]; rfl
        have HF := Lib.hid hF; clear hF
        go_wp2_with fail
        go_ret
        exact ⟨ret_bool (by rw [HF.out]), by rw [HF.out]; exact hb4, hk5⟩
       | true =>
        go_wp2_with fail
        go_roundw
        case rel => exact ⟨j + 1, r2, by omega, by go_num, Lib.hid (by rw [H2.out, if_neg HNO.out]), by omega, by omega, hb4, hbx4, hk5⟩
        case measure => simp [intOf]; omega
    ·have m0 : (T.l[j].h.k == T.h.k) = false := by simpa using ek
     have hno : ¬ (T.l[j].h.k = T.h.k ∧ (T.h.k = 8 ∨ T.h.k = 9)) := fun h => ek h.1
     have HNO := Lib.hid hno; clear hno ek
     go_wp2_with fail
     refine (HIX.out _ (hbj.alloc _) (LiesP_keep ((Keep.refl (Ob b) _).alloc _) (fun k hk' => hk') hSk)).mono ?_
     rintro e w4 ⟨rfl, hb4, hk4⟩
     have hbx4 := (hbxj.alloc _).keep hk4 (by simp only [Ob]; exact hbw)
     have hk5 : Keep (Ob b) w w4 := (hk.alloc _).trans hk4 (fun _ _ h => h)
     cases r1 with
     | false =>
      have hF : R = (false, r2) := by rw [H2.out, if_neg HNO.out]; rfl
      have HF := Lib.hid hF; clear hF
      go_wp2_with fail
      go_ret
      exact ⟨ret_bool (by rw [HF.out]), by rw [HF.out]; exact hb4, hk5⟩
     | true =>
      go_wp2_with fail
      go_roundw
      case rel => exact ⟨j + 1, r2, by omega, by go_num, Lib.hid (by rw [H2.out, if_neg HNO.out]), by omega, by omega, hb4, hbx4, hk5⟩
      case measure => simp [intOf]; omega
   ·obtain rfl : j = T.l.length := by omega
    have hF := hH.out
    rw [List.drop_length, allL] at hF
    have HF := Lib.hid hF; clear hF hH
    by_cases k6 : T.h.k = 6
    ·have m6 : (T.h.k == 6) = true := by simpa using k6
     obtain ⟨n1, n9⟩ := HN6.out k6
     have hR6 : R = (true, ⟨sj.g, fun i => if i = T.h.n.toNat then true else sj.E i⟩) := by rw [HF.out]; simp [finish, k6]
     have HR6 := Lib.hid hR6; clear hR6
     have K6 := Lib.hid k6; clear k6
     obtain ⟨m, hm⟩ : ∃ m : Nat, T.h.n = (m : Int) := ⟨T.h.n.toNat, by omega⟩
     rw [hm] at n1 n9 p6
     have HM := Lib.hid hm; clear hm
     have hm0 : (0 : Int) ≤ (m : Int) := by omega
     have hm1 : (m : Int) < 10 := by omega
     have hm9 : m = 1 ∨ m = 2 ∨ m = 3 ∨ m = 4 ∨ m = 5 ∨ m = 6 ∨ m = 7 ∨ m = 8 ∨ m = 9 := by omega
     have cm : wr.cell? ⟨b, 1 + m, none⟩ = some (.bool (sj.E m)) := hbj.cell (1 + m) (by rcases hm9 with rfl | rfl | rfl | rfl | rfl | rfl | rfl | rfl | rfl <;> rfl)
     have fm := hbj.frozen (1 + m)
     have HM9 := Lib.hid hm9; clear hm9
     go_wp2_with fail
     (refine wp_region_f [] (InX (Ob b) _) (by kernel_rfl) (InX.mk (Keep.drew (Keep.refl _ _))) (fun hI => ?_))
     have x0 : ¬ Ob b w.heap.size := by simp only [Ob]; exact hbw
     (refine wpI_from 0 ?_; (iterate 6 ((first | (refine wpI_take (v := ?_) rfl (by kernel_rfl) (fun _ _ _ h => h) hI rfl ?_ ?_; rotate_left; (focus (rintro _ ⟨E, rfl⟩; go_simp; (try with_reducible rfl)))) | refine wpI_skip rfl (by kernel_rfl) (fun _ _ _ h => h) hI rfl ?_); simp only [Act.put, tk, Nat.reduceAdd])); refine wpI_till ?_)
     (refine wpF_one 6 rfl (by kernel_rfl) rfl (fun K hK => ?_))
     go_simp
     (refine hK _ _ (fun _ => InX.mk ((Keep.drew (Keep.refl (Ob b) _)).trans (Keep.setOb _ _ _ _) (fun _ _ h => h))) (fun hI => ?_); have hI := hI (by simp); clear hK K; try simp only [Act.put, tk])
     (refine wpF_done (by kernel_rfl) ?_ _)
     go_wp2_with fail
     go_ret
     refine ⟨ret_bool (by rw [HR6.out]), ?_, (Keep.drew hk).trans (Keep.setOb _ _ _ _) (fun _ _ h => h)⟩
     have := hbj.drew.set (1 + m) (.bool true)
     rw [HR6.out, HM.out]
     have he : sj.row.setIfInBounds (1 + m) (.bool true) = Chk.row ⟨sj.g, fun i => if i = ((m : Int)).toNat then true else sj.E i⟩ := by
      rcases HM9.out with rfl | rfl | rfl | rfl | rfl | rfl | rfl | rfl | rfl <;> rfl
     rw [← he]
     exact this
    ·have m6 : (T.h.k == 6) = false := by simpa using k6
     have hR6 : R = (true, sj) := by rw [HF.out]; simp [finish, k6]
     subst hR6
     clear k6
     go_wp2_with fail
     go_ret
     exact ⟨rfl, hbj, hk⟩
theorem all_any : ∀ (c : Nat) (_ : c ≤ 900000), AllSaid c
 | 0, _ => fun T h => by have := count_pos T; omega
 | c + 1, h => all_step c (by omega) (all_any c (by omega))
def formedT (T : Nd) : Bool := decide (count T ≤ 200) && (decide (deep T ≤ 10) && (allT T ⟨0, fun _ => false⟩).1)
set_option maxRecDepth 100000 in
set_option maxHeartbeats 4000000 in
theorem formed_any (T : Nd) (hc : count T ≤ 900000) (v : Value) (w : World) (hl : Lies w T v) :
  Calls Try.prog 30 #[.agg (Nd.row T v)] w fun e w' => e = .returned (.bool (formedT T)) ∧ Keep Nb w w' := by
 have hcn := fun wx => tcount_any (count T) T (Nat.le_refl _) (by omega) v wx
 have hdp := fun wx => tdeep_any (count T) T (Nat.le_refl _) (by omega) v wx
 have hal := all_any (count T) hc T (Nat.le_refl _) ⟨0, fun _ => false⟩ (by simp) (by simp; omega) v
 have hdc := deep_le T
 generalize hR : formedT T = R
 unfold formedT at hR
 generalize count T = n at *
 generalize deep T = d at *
 generalize allT T ⟨0, fun _ => false⟩ = r at *
 obtain ⟨r1, r2⟩ := r
 have HCN := Lib.hid hcn; clear hcn
 have HDP := Lib.hid hdp; clear hdp
 have HAL := Lib.hid hal; clear hal
 have hlt := Lies_def.1 hl
 obtain ⟨A, cap, rfl, _⟩ := hlt
 have HR := Lib.hid hR; clear hR
 simp only [Nd.row]
 by_cases e1 : n ≤ 200
 ·have m1 : decide ((n : Int) ≤ 200) = true := by simp; omega
  have m2 : decide (n ≤ 200) = true := by simp; omega
  by_cases e2 : d ≤ 10
  ·have m3 : decide ((d : Int) ≤ 10) = true := by simp; omega
   have m4 : decide (d ≤ 10) = true := by simp; omega
   go_enter Try.func30, Try.ntmps30
   go_wp2_with fail
   refine (HCN.out _ (Lies_keep kp hl)).mono ?_
   rintro e w2 ⟨rfl, hk2⟩
   have hbx := (Blk.new w _ _).keep hk2 id
   have hk2' : Keep Nb w w2 := Keep.trans kp hk2 (fun _ _ h => h)
   have hs2 := hbx.lt
   (have o0 := Blk.cell hbx 0 (u := .int .i64 T.h.k) rfl; have o1 := Blk.cell hbx 1 (u := .int .u8 T.h.c) rfl; have o2 := Blk.cell hbx 2 (u := .int .u64 T.h.s0) rfl; have o3 := Blk.cell hbx 3 (u := .int .u64 T.h.s1) rfl; have o4 := Blk.cell hbx 4 (u := .int .u64 T.h.s2) rfl; have o5 := Blk.cell hbx 5 (u := .int .u64 T.h.s3) rfl; have o6 := Blk.cell hbx 6 (u := .int .i64 T.h.n) rfl; have o7 := Blk.cell hbx 7 (u := .int .i64 T.h.mn) rfl; have o8 := Blk.cell hbx 8 (u := .int .i64 T.h.mx) rfl; have o9 := Blk.cell hbx 9 (u := (.slice A T.l.length cap)) rfl)
   go_wp2_with fail
   refine (HDP.out _ (Lies_keep hk2' hl)).mono ?_
   rintro e w3 ⟨rfl, hk3⟩
   have hbx3 := hbx.keep hk3 id
   have hs3 := hbx3.lt
   have hk3' : Keep Nb w w3 := hk2'.trans hk3 (fun _ _ h => h)
   (have p0 := Blk.cell hbx3 0 (u := .int .i64 T.h.k) rfl; have p1 := Blk.cell hbx3 1 (u := .int .u8 T.h.c) rfl; have p2 := Blk.cell hbx3 2 (u := .int .u64 T.h.s0) rfl; have p3 := Blk.cell hbx3 3 (u := .int .u64 T.h.s1) rfl; have p4 := Blk.cell hbx3 4 (u := .int .u64 T.h.s2) rfl; have p5 := Blk.cell hbx3 5 (u := .int .u64 T.h.s3) rfl; have p6 := Blk.cell hbx3 6 (u := .int .i64 T.h.n) rfl; have p7 := Blk.cell hbx3 7 (u := .int .i64 T.h.mn) rfl; have p8 := Blk.cell hbx3 8 (u := .int .i64 T.h.mx) rfl; have p9 := Blk.cell hbx3 9 (u := (.slice A T.l.length cap)) rfl)
   go_wp2_with fail
   refine (HAL.out w3.heap.size _ (Blk.new w3 _ _) (LiesP_mono (Ok := fun b => b < w.heap.size) (fun b _ _ hb _ => by have := hk3'.size; omega) _ _ (Lies_keep (hk3'.alloc _) (LiesP_mono (fun b _ _ _ hc => cell_lt hc) _ _ hl)))).mono ?_
   rintro e w4 ⟨rfl, hb4, hk4⟩
   go_wp2_with fail
   go_ret
   exact ⟨ret_bool (by rw [← HR.out]; simp [e1, e2]), (hk3'.alloc _).trans hk4 (fun b hb hx => by have := hk3'.size; simp only [Ob] at hx; omega)⟩
  ·have m3 : decide ((d : Int) ≤ 10) = false := by simp; omega
   have m4 : decide (d ≤ 10) = false := by simp; omega
   go_enter Try.func30, Try.ntmps30
   go_wp2_with fail
   refine (HCN.out _ (Lies_keep kp hl)).mono ?_
   rintro e w2 ⟨rfl, hk2⟩
   have hbx := (Blk.new w _ _).keep hk2 id
   have hk2' : Keep Nb w w2 := Keep.trans kp hk2 (fun _ _ h => h)
   have hs2 := hbx.lt
   (have o0 := Blk.cell hbx 0 (u := .int .i64 T.h.k) rfl; have o1 := Blk.cell hbx 1 (u := .int .u8 T.h.c) rfl; have o2 := Blk.cell hbx 2 (u := .int .u64 T.h.s0) rfl; have o3 := Blk.cell hbx 3 (u := .int .u64 T.h.s1) rfl; have o4 := Blk.cell hbx 4 (u := .int .u64 T.h.s2) rfl; have o5 := Blk.cell hbx 5 (u := .int .u64 T.h.s3) rfl; have o6 := Blk.cell hbx 6 (u := .int .i64 T.h.n) rfl; have o7 := Blk.cell hbx 7 (u := .int .i64 T.h.mn) rfl; have o8 := Blk.cell hbx 8 (u := .int .i64 T.h.mx) rfl; have o9 := Blk.cell hbx 9 (u := (.slice A T.l.length cap)) rfl)
   go_wp2_with fail
   refine (HDP.out _ (Lies_keep hk2' hl)).mono ?_
   rintro e w3 ⟨rfl, hk3⟩
   go_wp2_with fail
   go_ret
   exact ⟨ret_bool (by rw [← HR.out]; simp [e2]), hk2'.trans hk3 (fun _ _ h => h)⟩
 ·have m1 : decide ((n : Int) ≤ 200) = false := by simp; omega
  have m2 : decide (n ≤ 200) = false := by simp; omega
  go_enter Try.func30, Try.ntmps30
  go_wp2_with fail
  refine (HCN.out _ (Lies_keep kp hl)).mono ?_
  rintro e w2 ⟨rfl, hk2⟩
  go_wp2_with fail
  go_ret
  exact ⟨ret_bool (by rw [← HR.out]; simp [e1]), Keep.trans kp hk2 (fun _ _ h => h)⟩
theorem few_any (T : Nd) (v : Value) (w : World) (hl : Lies w T v) :
  Calls Try.prog 21 #[.agg (Nd.row T v)] w fun e w' => e = .returned (.bool (few T)) ∧ Keep Nb w w' := by
 have hb := fun wx => bounded_any (count T) T (Nat.le_refl _) 40 (by omega) (by omega) 400 (by omega) (by omega) v wx
 generalize hR : few T = R
 unfold few at hR
 rw [show (40 : Int).toNat = 40 from rfl] at hb
 generalize bounded T 40 400 = q at *
 have HB := Lib.hid hb; clear hb
 have HR := Lib.hid hR; clear hR
 obtain ⟨A, cap, rfl, _⟩ := Lies_def.1 hl
 simp only [Nd.row]
 go_enter Try.func21, Try.ntmps21
 go_wp2_with fail
 refine (HB.out _ (Lies_keep kp hl)).mono ?_
 rintro e w2 ⟨rfl, hk2⟩
 go_wp2_with fail
 go_ret
 exact ⟨ret_bool (by rw [← HR.out]), Keep.trans kp hk2 (fun _ _ h => h)⟩
theorem lies_nil (w : World) (h : Hd) : Lies w (.mk h []) (.slice none 0 0) := Lies_mk.2 ⟨none, 0, rfl, by simp, by simp [maxLen], by simp [LiesPL]⟩
end Go.Proofs.Ytkidjbfapldmbaa
