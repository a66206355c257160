import Derived.Test.YtkidjbfapldmbaaZMn
set_option linter.unusedVariables false
set_option linter.unusedSimpArgs false
set_option linter.unusedSectionVars false
namespace Go.Proofs.Ytkidjbfapldmbaa
open Go.RowKit P8
set_option maxRecDepth 100000 in
set_option maxHeartbeats 4000000 in
theorem thr_step (p : Nat) (T : ByteArray) (e : Env) (k : Nat) (hT : T.toList = e.L) (h6 : T.size ≤ 600) (h7 : e.start ≤ 600) (TH : ThrSaid p T e k) (ts : List Tk) (q : Nat) (c : Caps) (s s' : St) (tv : Value) (w : World)
  (h : thr (k + 1) e ts q c s = some s') (hs : StOk e s) (hok : TksOk q s.tries ts) (hq : q ≤ T.size) (hc : CapsOk T.size c) (hb : FAt w p T e s c) (hr : TasksAt (Off p) w ts tv) :
  Calls Try.prog 66 #[.pointer (some ⟨p, 0, none⟩), tv, .int .i64 (q : Int)] w fun x w' => x = .returned (.tuple #[]) ∧ FAt w' p T e s' c ∧ Keep (Ob p) w w' := by
 have c3 := hb.cell 3 (u := .bool s.over) rfl
 have lp := hb.lt
 by_cases ho : s.over = true
 ·rw [thr_over _ _ _ _ _ ho] at h
  cases h
  rw [ho] at c3
  obtain ⟨po, rfl⟩ := hr.ptr
  have HB := Lib.hid hb
  clear hb hr hok hc TH ho hs
  go_enter Try.func66, Try.ntmps66
  go_wp2_with fail
  go_end0
  exact ⟨rfl, HB.out, Keep.refl _ _⟩
 have ho2 : s.over = false := by simpa using ho
 rw [ho2] at c3
 have hsz : T.size = e.L.length := by rw [← hT, toList_len]
 match ts, h, hok, hr with
 | [], h, hok, hr =>
  rw [thr_nil _ _ _ _ ho] at h
  cases h
  obtain rfl : tv = .pointer none := hr
  have HY := Lib.hid (come_any p T e s c q w hT (by omega) (by omega) h7 hs hb)
  clear hb hr hok hc TH ho ho2 hs hT hsz
  go_enter Try.func66, Try.ntmps66
  go_wp2_with fail
  refine HY.out.mono ?_
  rintro x w1 ⟨rfl, hf1, hk1⟩
  have F1 := Lib.hid hf1
  have K1 := Lib.hid hk1
  clear hf1 hk1
  go_wp2_with fail
  go_end0
  exact ⟨rfl, F1.out, K1.out⟩
 | .grp n a :: r, h, hok, hr =>
  rw [thr_grp _ _ _ _ _ _ _ ho] at h
  obtain ⟨b, nd, nx, rfl, hbp, ht, hn0, hrr⟩ := hr
  have HY := Lib.hid (end_any p T e k h6 TH n a r q c s s' b nd nx w h hs hok hq hc hb hbp ht hn0 hrr)
  have d1 := ht.cell 1 (u := .int .i64 1) rfl
  have lt := ht.lt
  clear hb hok hc TH ho ho2 hs hT hsz h ht hn0 hrr
  go_enter Try.func66, Try.ntmps66
  go_wp2_with fail
  refine HY.out.mono ?_
  rintro x w1 ⟨rfl, hf1, hk1⟩
  have F1 := Lib.hid hf1
  have K1 := Lib.hid hk1
  clear hf1 hk1
  go_wp2_with fail
  go_end0
  exact ⟨rfl, F1.out, K1.out⟩
 | .again n a t :: r, h, hok, hr =>
  rw [thr_again _ _ _ _ _ _ _ _ ho] at h
  obtain ⟨b, nd, nx, rfl, hbp, ht, hn0, hrr⟩ := hr
  have hokn := hok.head
  obtain ⟨hon, hk10, htt⟩ := hokn
  obtain ⟨nb, no, S, hnd, hnbp, hten, hlies⟩ := id hn0
  have hnd' : nd = .pointer (some ⟨nb, no, none⟩) := hnd
  subst hnd'
  have hten' : Ten w nb no n S := hten
  obtain ⟨po, hpo⟩ := hrr.ptr
  subst hpo
  have d0 := ht.cell 0 (u := .pointer (some ⟨nb, no, none⟩)) rfl
  have d1 := ht.cell 1 (u := .int .i64 2) rfl
  have d2 := ht.cell 2 (u := .int .i64 (a : Int)) rfl
  have d3 := ht.cell 3 (u := .int .i64 (t : Int)) rfl
  have d4 := ht.cell 4 (u := .pointer po) rfl
  have lt := ht.lt
  have n7 := hten'.c7
  have ln := hten'.lt
  by_cases hc1 : q = a
  ·subst hc1
   by_cases hc2 : (t : Int) ≤ n.h.mn
   ·rw [if_pos (.inr hc2)] at h
    have m1 : ((q : Int) != (q : Int)) = false := by simp
    have m2 : decide ((t : Int) ≤ n.h.mn) = true := by simpa using hc2
    obtain ⟨kk, rfl⟩ : ∃ i, k = i + 1 := by
     cases k with
     | zero => rw [rep.eq_def] at h; cases h
     | succ i => exact ⟨i, rfl⟩
    have HY := Lib.hid (fun wx (hx : FAt wx p T e s c) (hy : NodeAt (Off p) wx n (.pointer (some ⟨nb, no, none⟩))) (hz : TasksAt (Off p) wx r (.pointer po)) => repeat_any p T e kk hT (TH.down (Nat.le_succ _)) n t r q c s s' _ _ wx h hs hon hk10 htt hok.tail hq hc hx hy hz)
    have HB := Lib.hid hb
    have HT0 := Lib.hid ht
    have HN0 := Lib.hid hn0
    have HRR := Lib.hid hrr
    clear hb hok hc TH ho ho2 hs hT hsz h ht hn0 hrr hten hten' hlies hon hk10 htt
    go_enter Try.func66, Try.ntmps66
    go_wp2_with fail
    refine wp_region_x (by kernel_rfl) (by kernel_rfl) ?_; (repeat (go_big_quiet_step ((fail)))); refine wpQuiet_nil ?_; rintro w3 ⟨⟨_, hk3⟩, rfl⟩
    have d0' := hk3.cell d0 id
    have d3' := hk3.cell d3 id
    have d4' := hk3.cell d4 id
    have lt' : b < w3.heap.size := Nat.lt_of_lt_of_le lt hk3.size
    have K3 := Lib.hid hk3
    clear d0 d1 d2 d3 d4 lt n7 ln c3 lp hk3
    go_wp2_with fail
    (refine wp_region_f [] (InX (Ob p) _) (by kernel_rfl) (InX.mk (Keep.drew (Keep.refl _ _))) (fun hI => ?_))
    have xx : ¬ Ob p b := fun h => hbp h
    have hK0 : Keep Nb w3 w3.drew := (Keep.refl _ _).drew
    have hKA : Keep (Ob p) w w3.drew := (K3.out.trans hK0 (fun _ _ h => h)).mono (fun _ _ h => h.elim)
    have hKN : Keep Nb w w3.drew := K3.out.trans hK0 (fun _ _ h => h)
    generalize w3.drew = x0 at hK0 hKA hKN hI ⊢
    (refine wpI_from 0 ?_; (iterate 14 ((first | (refine wpI_take (v := ?_) rfl (by kernel_rfl) (fun _ _ _ h => h) hI rfl ?_ ?_; rotate_left; (focus (rintro _ ⟨E, rfl⟩; go_simp; (try with_reducible rfl)))) | refine wpI_skip rfl (by kernel_rfl) (fun _ _ _ h => h) hI rfl ?_); simp only [Act.put, tk, Nat.reduceAdd])); refine wpI_till ?_)
    (refine wpF_one 14 rfl (by kernel_rfl) rfl (fun K hK => ?_))
    go_simp
    refine (HY.out _ (HB.out.keep hKN id) (HN0.out.keep hKA) (TasksAt.keep hKA HRR.out)).mono ?_
    rintro x z1 ⟨he, hz, hkz⟩
    subst he
    have FZ := Lib.hid hz
    have KZ := Lib.hid (hKA.trans hkz (fun _ _ h => h))
    have KX := Lib.hid ((hK0.mono (Y := Ob p) (fun _ _ h => h.elim)).trans hkz (fun _ _ h => h))
    clear hz hkz
    (refine hK _ _ (fun _ => InX.mk KX.out) (fun hI => ?_); have hI := hI (by simp); clear hK K; try simp only [Act.put, tk])
    (refine wpF_done (by kernel_rfl) ?_ _)
    go_wp2_with fail
    go_end0
    exact ⟨rfl, FZ.out, KZ.out⟩
   ·rw [if_neg (by rintro (h1 | h1); exact h1 rfl; exact hc2 h1)] at h
    cases h
    have m1 : ((q : Int) != (q : Int)) = false := by simp
    have m2 : decide ((t : Int) ≤ n.h.mn) = false := by simpa using hc2
    have HB := Lib.hid hb
    clear hb hok hc TH ho ho2 hs hT hsz ht hn0 hrr hten hten' hlies hon hk10 htt hc2
    go_enter Try.func66, Try.ntmps66
    go_wp2_with fail
    refine wp_region_x (by kernel_rfl) (by kernel_rfl) ?_; (repeat (go_big_quiet_step ((fail)))); refine wpQuiet_nil ?_; rintro w3 ⟨⟨_, hk3⟩, rfl⟩
    go_wp2_with fail
    go_end0
    exact ⟨rfl, HB.out.keep hk3 id, hk3.mono (fun _ _ h => h.elim)⟩
  ·rw [if_pos (.inl hc1)] at h
   have m1 : ((q : Int) != (a : Int)) = true := by rw [bne, bne_int (by omega)]; rfl
   have m0 : ((q : Int) == (a : Int)) = false := bne_int (by omega)
   obtain ⟨kk, rfl⟩ : ∃ i, k = i + 1 := by
    cases k with
    | zero => rw [rep.eq_def] at h; cases h
    | succ i => exact ⟨i, rfl⟩
   have HY := Lib.hid (fun wx (hx : FAt wx p T e s c) (hy : NodeAt (Off p) wx n (.pointer (some ⟨nb, no, none⟩))) (hz : TasksAt (Off p) wx r (.pointer po)) => repeat_any p T e kk hT (TH.down (Nat.le_succ _)) n t r q c s s' _ _ wx h hs hon hk10 htt hok.tail hq hc hx hy hz)
   have HB := Lib.hid hb
   have HT0 := Lib.hid ht
   have HN0 := Lib.hid hn0
   have HRR := Lib.hid hrr
   clear hb hok hc TH ho ho2 hs hT hsz h ht hn0 hrr hten hten' hlies hon hk10 htt
   go_enter Try.func66, Try.ntmps66
   go_wp2_with fail
   refine wp_region_x (by kernel_rfl) (by kernel_rfl) ?_; (repeat (go_big_quiet_step ((fail)))); refine wpQuiet_nil ?_; rintro w3 ⟨⟨_, hk3⟩, rfl⟩
   have d0' := hk3.cell d0 id
   have d3' := hk3.cell d3 id
   have d4' := hk3.cell d4 id
   have lt' : b < w3.heap.size := Nat.lt_of_lt_of_le lt hk3.size
   have K3 := Lib.hid hk3
   clear d0 d1 d2 d3 d4 lt n7 ln c3 lp hk3
   go_wp2_with fail
   (refine wp_region_f [] (InX (Ob p) _) (by kernel_rfl) (InX.mk (Keep.drew (Keep.refl _ _))) (fun hI => ?_))
   have xx : ¬ Ob p b := fun h => hbp h
   have hK0 : Keep Nb w3 w3.drew := (Keep.refl _ _).drew
   have hKA : Keep (Ob p) w w3.drew := (K3.out.trans hK0 (fun _ _ h => h)).mono (fun _ _ h => h.elim)
   have hKN : Keep Nb w w3.drew := K3.out.trans hK0 (fun _ _ h => h)
   generalize w3.drew = x0 at hK0 hKA hKN hI ⊢
   (refine wpI_from 0 ?_; (iterate 14 ((first | (refine wpI_take (v := ?_) rfl (by kernel_rfl) (fun _ _ _ h => h) hI rfl ?_ ?_; rotate_left; (focus (rintro _ ⟨E, rfl⟩; go_simp; (try with_reducible rfl)))) | refine wpI_skip rfl (by kernel_rfl) (fun _ _ _ h => h) hI rfl ?_); simp only [Act.put, tk, Nat.reduceAdd])); refine wpI_till ?_)
   (refine wpF_one 14 rfl (by kernel_rfl) rfl (fun K hK => ?_))
   go_simp
   refine (HY.out _ (HB.out.keep hKN id) (HN0.out.keep hKA) (TasksAt.keep hKA HRR.out)).mono ?_
   rintro x z1 ⟨he, hz, hkz⟩
   subst he
   have FZ := Lib.hid hz
   have KZ := Lib.hid (hKA.trans hkz (fun _ _ h => h))
   have KX := Lib.hid ((hK0.mono (Y := Ob p) (fun _ _ h => h.elim)).trans hkz (fun _ _ h => h))
   clear hz hkz
   (refine hK _ _ (fun _ => InX.mk KX.out) (fun hI => ?_); have hI := hI (by simp); clear hK K; try simp only [Act.put, tk])
   (refine wpF_done (by kernel_rfl) ?_ _)
   go_wp2_with fail
   go_end0
   exact ⟨rfl, FZ.out, KZ.out⟩
 | .node n :: r, h, hok, hr =>
  obtain ⟨b, nd, nx, rfl, hbp, ht, hn0, hrr⟩ := hr
  obtain ⟨nb, no, S, hnd, hnbp, hten, hlies⟩ := id hn0
  have hnd' : nd = .pointer (some ⟨nb, no, none⟩) := hnd
  subst hnd'
  obtain ⟨po, hpo⟩ := hrr.ptr
  subst hpo
  have HY := Lib.hid (fun wx (hx : FAt wx p T e s c) (hy : NodeAt (Off p) wx n (.pointer (some ⟨nb, no, none⟩))) (hz : TasksAt (Off p) wx r (.pointer po)) => node_any p T e k hT h6 TH n r q c s s' _ _ wx h ho2 hs hok hq hc hx hy hz)
  have d0 := ht.cell 0 (u := .pointer (some ⟨nb, no, none⟩)) rfl
  have d1 := ht.cell 1 (u := .int .i64 0) rfl
  have d4 := ht.cell 4 (u := .pointer po) rfl
  have lt := ht.lt
  have HB := Lib.hid hb
  have HN0 := Lib.hid hn0
  have HRR := Lib.hid hrr
  clear hb hok hc TH ho ho2 hs hT hsz h ht hn0 hrr hten hlies
  go_enter Try.func66, Try.ntmps66
  go_wp2_with fail
  (refine wp_region_f [] (InX (Ob p) _) (by kernel_rfl) (InX.mk (Keep.drew (Keep.refl _ _))) (fun hI => ?_))
  have xx : ¬ Ob p b := fun h => hbp h
  have hK0 : Keep Nb w w.drew := (Keep.refl _ _).drew
  generalize w.drew = x0 at hK0 hI ⊢
  (refine wpI_from 0 ?_; (iterate 10 ((first | (refine wpI_take (v := ?_) rfl (by kernel_rfl) (fun _ _ _ h => h) hI rfl ?_ ?_; rotate_left; (focus (rintro _ ⟨E, rfl⟩; go_simp; (try with_reducible rfl)))) | refine wpI_skip rfl (by kernel_rfl) (fun _ _ _ h => h) hI rfl ?_); simp only [Act.put, tk, Nat.reduceAdd])); refine wpI_till ?_)
  (refine wpF_one 10 rfl (by kernel_rfl) rfl (fun K hK => ?_))
  go_simp
  refine (HY.out _ (HB.out.keep hK0 id) (HN0.out.keep (hK0.mono (fun _ _ h => h.elim))) (TasksAt.keep (hK0.mono (fun _ _ h => h.elim)) HRR.out)).mono ?_
  rintro x z1 ⟨he, hz, hkz⟩
  subst he
  have FZ := Lib.hid hz
  have KZ := Lib.hid ((hK0.mono (Y := Ob p) (fun _ _ h => h.elim)).trans hkz (fun _ _ h => h))
  clear hz hkz
  (refine hK _ _ (fun _ => InX.mk KZ.out) (fun hI => ?_); have hI := hI (by simp); clear hK K; try simp only [Act.put, tk])
  (refine wpF_done (by kernel_rfl) ?_ _)
  go_wp2_with fail
  go_end0
  exact ⟨rfl, FZ.out, KZ.out⟩
theorem thr_any (p : Nat) (T : ByteArray) (e : Env) (hT : T.toList = e.L) (h6 : T.size ≤ 600) (h7 : e.start ≤ 600) : ∀ k, ThrSaid p T e k
 | 0 => fun ts q c s s' tv w h => by (rw [thr.eq_def] at h; cases h)
 | k + 1 => fun ts q c s s' tv w h hs hok hq hc hb hr => thr_step p T e k hT h6 h7 (thr_any p T e hT h6 h7 k) ts q c s s' tv w h hs hok hq hc hb hr
def noC : Caps := fun _ => none
def findS (k : Nat) (L : List UInt8) (b : Bool) (n : Nd) : Nat → Nat → St → Option St
 | 0, _, s => some s
 | m + 1, a, s => if s.best.isSome = true then some s else (thr k ⟨L, b, a⟩ [.node n] a noC s).bind fun s1 => if s1.over = true then some s1 else findS k L b n m (a + 1) s1
theorem findS_more {k j : Nat} (hk : k ≤ j) {L : List UInt8} {b : Bool} {n : Nd} : ∀ (m a : Nat) (s x : St), findS k L b n m a s = some x → findS j L b n m a s = some x
 | 0, _, _, _, h => h
 | m + 1, a, s, x, h => by
  rw [findS] at h ⊢
  split
  ·rename_i hb; rw [if_pos hb] at h; exact h
  ·rename_i hb
   rw [if_neg hb, Option.bind_eq_some_iff] at h
   obtain ⟨s1, h1, h2⟩ := h
   rw [Option.bind_eq_some_iff]
   refine ⟨s1, thr_more hk h1, ?_⟩
   split
   ·rename_i ho; rw [if_pos ho] at h2; exact h2
   ·rename_i ho; rw [if_neg ho] at h2; exact findS_more hk m _ _ _ h2
theorem noC_ok (n : Nat) : CapsOk n noC := fun _ _ _ h => by cases h
theorem one_ok {n : Nd} (h : okT n) (q t : Nat) : TksOk q t [.node n] := fun u hu => by
 rcases List.mem_cons.1 hu with rfl | hu
 ·exact h
 ·cases hu
theorem findS_ends (L : List UInt8) (b : Bool) (n : Nd) (hn : okT n) : ∀ (m a : Nat) (s : St), s.tries ≤ 3000 → ∃ k x, findS k L b n m a s = some x
 | 0, _, s, _ => ⟨0, s, rfl⟩
 | m + 1, a, s, hs => by
  by_cases hb : s.best.isSome = true
  ·exact ⟨0, s, by rw [findS, if_pos hb]⟩
  obtain ⟨k1, s1, h1, _, h3⟩ := thr_ends ⟨L, b, a⟩ [.node n] a noC s (fun t ht => by
   rcases List.mem_cons.1 ht with rfl | ht
   ·exact hn
   ·cases ht) hs
  by_cases ho : s1.over = true
  ·exact ⟨k1, s1, by rw [findS, if_neg hb, Option.bind_eq_some_iff]; exact ⟨s1, h1, if_pos ho⟩⟩
  obtain ⟨k2, x, h4⟩ := findS_ends L b n hn m (a + 1) s1 h3
  refine ⟨max k1 k2, x, ?_⟩
  rw [findS, if_neg hb, Option.bind_eq_some_iff]
  exact ⟨s1, thr_more (Nat.le_max_left _ _) h1, by rw [if_neg ho]; exact findS_more (Nat.le_max_right _ _) _ _ _ _ h4⟩
noncomputable def found (L : List UInt8) (b : Bool) (n : Nd) (hn : okT n) (a : Nat) : St := (findS_ends L b n hn (L.length + 1 - a) a ⟨0, false, none⟩ (Nat.zero_le _)).choose_spec.choose
theorem found_spec (L : List UInt8) (b : Bool) (n : Nd) (hn : okT n) (a : Nat) : ∃ k, findS k L b n (L.length + 1 - a) a ⟨0, false, none⟩ = some (found L b n hn a) :=
 ⟨_, (findS_ends L b n hn (L.length + 1 - a) a ⟨0, false, none⟩ (Nat.zero_le _)).choose_spec.choose_spec⟩
end Go.Proofs.Ytkidjbfapldmbaa
