/- MatchWithin, where something is found. -/
import Derived.Test.YtkidjbfapldmbaaWit0
import Derived.Test.YtkidjbfapldmbaaFna
import Derived.Deep.DeepCutAuto
namespace Go.Proofs.Ytkidjbfapldmbaa
set_option linter.unusedVariables false
set_option linter.unusedSimpArgs false
open Go.RowKit P8

set_option maxRecDepth 100000 in
set_option maxHeartbeats 2000000 in
theorem wit_some (N : Nd) (v : Value) (T : ByteArray) (a : Int) (w : World) (hl : Lies w N v) (hf : few N = true) (h6 : T.size ≤ 600) (cs : Array Value) (hsz : Hid (cs.size = 22)) (hone : Hid (cs.all (·.oneCell') = true)) (c : Caps) (hcell : Hid (∀ j, j < 10 → cs[1 + j]? = some (grpV (c j)) ∧ cs[11 + j]? = some (hasV (c j)))) (hcap : Hid (CapsOk T.size c)) (st q : Nat) (hst : st < 701) (hq : q < 701) (ha : a ≤ st) (hsq : st ≤ q) (hqT : q ≤ T.size) (hc0 : Hid (cs[0]? = some (.complex .f64 (F st) (F q)))) (hc1 : Hid (cs[1]? = some (.complex .f64 (F st) (F q)))) (hc11 : Hid (cs[11]? = some (.bool true))) (hv : findV N T a false = .tuple #[.agg cs, .bool true, .int .i64 0]) (cs2 : Array Value) (hsz2 : Hid (cs2.size = 22)) (hone2 : Hid (cs2.all (·.oneCell') = true)) (hc2 : Hid (cs2[0]? = some (.complex .f64 (F st) (F q)))) (hv2 : findV N T st false = .tuple #[.agg cs2, .bool true, .int .i64 0]) :
    Calls Try.prog 9 #[.agg (Nd.row N v), .string T, .int .i64 a] w fun e w' => e = .returned (.bool true) ∧ Keep Nb w w' := by
  have h1 := fun wx => few_any N v wx
  have hcT := (few_count hf).1
  rw [hf] at h1
  have H1 := Lib.hid h1; clear h1 hf
  have m1 : decide (600 < (T.size : Int)) = false := by simp; omega
  have m2 : decide (600 < T.size) = false := by simp; omega
  obtain ⟨A, cap, rfl, _⟩ := Lies_def.1 hl
  have HF := Lib.hid (fun A1 n1 wx hx => find_any N (by omega) A1 n1 T a false wx hx)
  have HG := Lib.hid (fun A1 n1 wx hx => find_any N (by omega) A1 n1 T st false wx hx)
  have v1 := fun wx => F_back (a := st) hst wx
  have v2 := fun wx => F_back (a := q) hq wx
  have e1 : (FloatKind.f64.format.order (F st) (F st) == some .eq) = true := by rw [F_eq hst hst]; simp
  have e2 : (FloatKind.f64.format.order (F q) (F q) == some .eq) = true := by rw [F_eq hq hq]; simp
  have p1 : decide ((st : Int) < a) = false := by simp; omega
  have p2 : decide ((q : Int) < (st : Int)) = false := by simp; omega
  have p3 : decide ((T.size : Int) < (q : Int)) = false := by simp; omega
  have p4 : decide (q < st) = false := by simp; omega
  have p5 : decide (T.size < q) = false := by simp; omega
  simp only [Nd.row]
  go_enter Try.func9, Try.ntmps9
  go_wp2_with fail
  refine (awake12 _).mono ?_
  rintro e w2 ⟨rfl, hk2⟩
  have hb1 : Blk w2 w.heap.size (Nd.row N (.slice A N.l.length cap)) 27 := (Blk.new w _ _).keep hk2 id
  have hk2' : Keep Nb w w2 := Keep.trans (by repeat (first | assumption | exact Keep.refl _ _ | refine Keep.alloc ?_ _ | refine Keep.drew ?_ | refine Keep.setCell ?_ (Or.inl (by simp)) _ | refine Keep.setRow ?_ (Or.inl (by simp)) _)) hk2 (fun _ _ h => h)
  (have o0 := Blk.cell hb1 0 (u := .int .i64 N.h.k) rfl; have o1 := Blk.cell hb1 1 (u := .int .u8 N.h.c) rfl; have o2 := Blk.cell hb1 2 (u := .int .u64 N.h.s0) rfl; have o3 := Blk.cell hb1 3 (u := .int .u64 N.h.s1) rfl; have o4 := Blk.cell hb1 4 (u := .int .u64 N.h.s2) rfl; have o5 := Blk.cell hb1 5 (u := .int .u64 N.h.s3) rfl; have o6 := Blk.cell hb1 6 (u := .int .i64 N.h.n) rfl; have o7 := Blk.cell hb1 7 (u := .int .i64 N.h.mn) rfl; have o8 := Blk.cell hb1 8 (u := .int .i64 N.h.mx) rfl; have o9 := Blk.cell hb1 9 (u := (.slice A N.l.length cap)) rfl)
  go_wp2_with fail
  refine (H1.out _ (Lies_keep hk2' hl)).mono ?_
  rintro e w3 ⟨rfl, hk3⟩
  have hk3' := hk2'.trans hk3 (fun _ _ h => h)
  have hb13 := hb1.keep hk3 id
  clear o0 o1 o2 o3 o4 o5 o6 o7 o8 o9 hb1 hk2 hk2' hk3
  (have o0 := Blk.cell hb13 0 (u := .int .i64 N.h.k) rfl; have o1 := Blk.cell hb13 1 (u := .int .u8 N.h.c) rfl; have o2 := Blk.cell hb13 2 (u := .int .u64 N.h.s0) rfl; have o3 := Blk.cell hb13 3 (u := .int .u64 N.h.s1) rfl; have o4 := Blk.cell hb13 4 (u := .int .u64 N.h.s2) rfl; have o5 := Blk.cell hb13 5 (u := .int .u64 N.h.s3) rfl; have o6 := Blk.cell hb13 6 (u := .int .i64 N.h.n) rfl; have o7 := Blk.cell hb13 7 (u := .int .i64 N.h.mn) rfl; have o8 := Blk.cell hb13 8 (u := .int .i64 N.h.mx) rfl; have o9 := Blk.cell hb13 9 (u := (.slice A N.l.length cap)) rfl)
  go_wp2_with fail
  refine (theirs_any 400 (by omega) N (by omega) _ _ (Lies_keep hk3' hl)).mono ?_
  rintro e w4 ⟨S1, rfl, hB1, hk4⟩
  obtain ⟨A1, n1, rfl, _⟩ := LiesP_def.1 hB1
  have hl4 := LiesP_all hB1
  have hk4' := hk3'.trans hk4 (fun _ _ h => h)
  clear o0 o1 o2 o3 o4 o5 o6 o7 o8 o9 hb13 hk4 hk3' H1 hB1
  simp only [Nd.row]
  go_wp2_with fail
  have ku : Keep Nb w4 (w4.alloc (.cells #[.int .i64 N.h.k, .int .u8 N.h.c, .int .u64 N.h.s0, .int .u64 N.h.s1, .int .u64 N.h.s2, .int .u64 N.h.s3, .int .i64 N.h.n, .int .i64 N.h.mn, .int .i64 N.h.mx, .slice A1 N.l.length n1] 33)) := Keep.alloc (Keep.refl _ _) _
  have hu : Blk (w4.alloc (.cells #[.int .i64 N.h.k, .int .u8 N.h.c, .int .u64 N.h.s0, .int .u64 N.h.s1, .int .u64 N.h.s2, .int .u64 N.h.s3, .int .i64 N.h.n, .int .i64 N.h.mn, .int .i64 N.h.mx, .slice A1 N.l.length n1] 33)) w4.heap.size (Nd.row N (.slice A1 N.l.length n1)) 33 := Blk.new w4 _ _
  generalize w4.alloc (.cells #[.int .i64 N.h.k, .int .u8 N.h.c, .int .u64 N.h.s0, .int .u64 N.h.s1, .int .u64 N.h.s2, .int .u64 N.h.s3, .int .i64 N.h.n, .int .i64 N.h.mn, .int .i64 N.h.mx, .slice A1 N.l.length n1] 33) = wc at ku hu ⊢
  generalize w4.heap.size = pu at hu ⊢
  have kc := Lib.hid (hk4'.trans ku (fun _ _ h => h))
  have hlc := Lies_keep ku hl4
  clear ku hk4' hl4
  (have u0 := Blk.cell hu 0 (u := .int .i64 N.h.k) rfl; have u1 := Blk.cell hu 1 (u := .int .u8 N.h.c) rfl; have u2 := Blk.cell hu 2 (u := .int .u64 N.h.s0) rfl; have u3 := Blk.cell hu 3 (u := .int .u64 N.h.s1) rfl; have u4 := Blk.cell hu 4 (u := .int .u64 N.h.s2) rfl; have u5 := Blk.cell hu 5 (u := .int .u64 N.h.s3) rfl; have u6 := Blk.cell hu 6 (u := .int .i64 N.h.n) rfl; have u7 := Blk.cell hu 7 (u := .int .i64 N.h.mn) rfl; have u8 := Blk.cell hu 8 (u := .int .i64 N.h.mx) rfl; have u9 := Blk.cell hu 9 (u := (.slice A1 N.l.length n1)) rfl)
  go_wp2_with fail
  refine (HF.out A1 n1 _ hlc).mono ?_
  rintro e w5 ⟨rfl, hk5⟩
  rw [hv]
  have HU := Lib.hid (hu.keep hk5 id)
  have hK5 := Lib.hid (kc.out.trans hk5 (fun _ _ h => h))
  have HLC := Lib.hid (Lies_keep hk5 hlc)
  clear u0 u1 u2 u3 u4 u5 u6 u7 u8 u9 kc hk5 hlc hu hv
  have z0 : Blk (w5.alloc (.cells #[.complex .f64 0 0, .complex .f64 0 0, .complex .f64 0 0, .complex .f64 0 0, .complex .f64 0 0, .complex .f64 0 0, .complex .f64 0 0, .complex .f64 0 0, .complex .f64 0 0, .complex .f64 0 0, .complex .f64 0 0, .bool false, .bool false, .bool false, .bool false, .bool false, .bool false, .bool false, .bool false, .bool false, .bool false, .int .i64 0] 49)) w5.heap.size #[.complex .f64 0 0, .complex .f64 0 0, .complex .f64 0 0, .complex .f64 0 0, .complex .f64 0 0, .complex .f64 0 0, .complex .f64 0 0, .complex .f64 0 0, .complex .f64 0 0, .complex .f64 0 0, .complex .f64 0 0, .bool false, .bool false, .bool false, .bool false, .bool false, .bool false, .bool false, .bool false, .bool false, .bool false, .int .i64 0] 49 := Blk.new w5 _ _
  have z1 : Blk ((w5.alloc (.cells #[.complex .f64 0 0, .complex .f64 0 0, .complex .f64 0 0, .complex .f64 0 0, .complex .f64 0 0, .complex .f64 0 0, .complex .f64 0 0, .complex .f64 0 0, .complex .f64 0 0, .complex .f64 0 0, .complex .f64 0 0, .bool false, .bool false, .bool false, .bool false, .bool false, .bool false, .bool false, .bool false, .bool false, .bool false, .int .i64 0] 49)).setRow w5.heap.size cs) w5.heap.size cs 49 := z0.setRow _
  have k1 : Keep Nb w ((w5.alloc (.cells #[.complex .f64 0 0, .complex .f64 0 0, .complex .f64 0 0, .complex .f64 0 0, .complex .f64 0 0, .complex .f64 0 0, .complex .f64 0 0, .complex .f64 0 0, .complex .f64 0 0, .complex .f64 0 0, .complex .f64 0 0, .bool false, .bool false, .bool false, .bool false, .bool false, .bool false, .bool false, .bool false, .bool false, .bool false, .int .i64 0] 49)).setRow w5.heap.size cs) := Keep.setRow (Keep.alloc hK5.out _) (Or.inl hK5.out.size) _
  have HZ0 := Lib.hid z0
  have HZ1 := Lib.hid z1
  have HK1 := Lib.hid k1
  clear z0 k1
  have c0 := z1.cell 0 hc0.out
  have l1 := z1.lt
  clear z1
  go_wp2_with (refine wpList_store_row rfl 49 (.tmp 8) (.tmp 38) rfl w5.heap.size cs rfl rfl 49 _ HZ0.out (by rw [hsz.out]; exact sizeFo) (by rw [hsz.out]; rfl) hone.out ?_)
  have HU6 := Lib.hid ((HU.out.alloc (.cells #[.complex .f64 0 0, .complex .f64 0 0, .complex .f64 0 0, .complex .f64 0 0, .complex .f64 0 0, .complex .f64 0 0, .complex .f64 0 0, .complex .f64 0 0, .complex .f64 0 0, .complex .f64 0 0, .complex .f64 0 0, .bool false, .bool false, .bool false, .bool false, .bool false, .bool false, .bool false, .bool false, .bool false, .bool false, .int .i64 0] 49)).setRowOther (Nat.ne_of_lt HU.out.lt) cs)
  have hk6 : Keep Nb w5 ((w5.alloc (.cells #[.complex .f64 0 0, .complex .f64 0 0, .complex .f64 0 0, .complex .f64 0 0, .complex .f64 0 0, .complex .f64 0 0, .complex .f64 0 0, .complex .f64 0 0, .complex .f64 0 0, .complex .f64 0 0, .complex .f64 0 0, .bool false, .bool false, .bool false, .bool false, .bool false, .bool false, .bool false, .bool false, .bool false, .bool false, .int .i64 0] 49)).setRow w5.heap.size cs) := Keep.setRow (Keep.alloc (Keep.refl _ _) _) (Or.inl (Nat.le_refl _)) _
  have HL6 := Lib.hid (Lies_keep hk6 HLC.out)
  clear hk6
  generalize (w5.alloc (.cells #[.complex .f64 0 0, .complex .f64 0 0, .complex .f64 0 0, .complex .f64 0 0, .complex .f64 0 0, .complex .f64 0 0, .complex .f64 0 0, .complex .f64 0 0, .complex .f64 0 0, .complex .f64 0 0, .complex .f64 0 0, .bool false, .bool false, .bool false, .bool false, .bool false, .bool false, .bool false, .bool false, .bool false, .bool false, .int .i64 0] 49)).setRow w5.heap.size cs = w6 at HZ1 HK1 HU6 HL6 c0 l1 ⊢
  generalize w5.heap.size = pf at HZ1 HU6 c0 l1 ⊢
  (refine wp_region_f [9] (InX Nb _) (by kernel_rfl) (InX.mk (Keep.drew (Keep.refl _ _))) (fun hI => ?_))
  have xx : ∀ k, ¬ Nb k := fun _ h => h
  have hK0 : Keep Nb w6 w6.drew := (Keep.refl _ _).drew
  generalize w6.drew = x0 at hK0 hI ⊢
  (refine wpF_take (v := ?_) 0 rfl (by kernel_rfl) (by kernel_rfl) (by kernel_rfl) (by kernel_rfl) (fun _ _ _ h => h) (by assumption) rfl ?_ ?_; rotate_left; (focus (rintro _ ⟨E, rfl⟩; go_simp; (try with_reducible rfl))); simp only [Act.put, List.getElem_toArray, List.getElem_cons_succ, List.getElem_cons_zero, List.setIfInBounds_toArray, List.set_cons_zero, List.set_cons_succ])
  (refine wpF_take (v := ?_) 1 rfl (by kernel_rfl) (by kernel_rfl) (by kernel_rfl) (by kernel_rfl) (fun _ _ _ h => h) (by assumption) rfl ?_ ?_; rotate_left; (focus (rintro _ ⟨E, rfl⟩; go_simp; (try with_reducible rfl))); simp only [Act.put, List.getElem_toArray, List.getElem_cons_succ, List.getElem_cons_zero, List.setIfInBounds_toArray, List.set_cons_zero, List.set_cons_succ])
  (refine wpF_take (v := ?_) 2 rfl (by kernel_rfl) (by kernel_rfl) (by kernel_rfl) (by kernel_rfl) (fun _ _ _ h => h) (by assumption) rfl ?_ ?_; rotate_left; (focus (rintro _ ⟨E, rfl⟩; go_simp; (try with_reducible rfl))); simp only [Act.put, List.getElem_toArray, List.getElem_cons_succ, List.getElem_cons_zero, List.setIfInBounds_toArray, List.set_cons_zero, List.set_cons_succ])
  (refine wpF_take (v := ?_) 3 rfl (by kernel_rfl) (by kernel_rfl) (by kernel_rfl) (by kernel_rfl) (fun _ _ _ h => h) (by assumption) rfl ?_ ?_; rotate_left; (focus (rintro _ ⟨E, rfl⟩; go_simp; (try with_reducible rfl))); simp only [Act.put, List.getElem_toArray, List.getElem_cons_succ, List.getElem_cons_zero, List.setIfInBounds_toArray, List.set_cons_zero, List.set_cons_succ])
  (refine wpF_take (v := ?_) 4 rfl (by kernel_rfl) (by kernel_rfl) (by kernel_rfl) (by kernel_rfl) (fun _ _ _ h => h) (by assumption) rfl ?_ ?_; rotate_left; (focus (rintro _ ⟨E, rfl⟩; go_simp; (try with_reducible rfl))); simp only [Act.put, List.getElem_toArray, List.getElem_cons_succ, List.getElem_cons_zero, List.setIfInBounds_toArray, List.set_cons_zero, List.set_cons_succ])
  (refine wpF_take (v := ?_) 5 rfl (by kernel_rfl) (by kernel_rfl) (by kernel_rfl) (by kernel_rfl) (fun _ _ _ h => h) (by assumption) rfl ?_ ?_; rotate_left; (focus (rintro _ ⟨E, rfl⟩; go_simp; (try with_reducible rfl))); simp only [Act.put, List.getElem_toArray, List.getElem_cons_succ, List.getElem_cons_zero, List.setIfInBounds_toArray, List.set_cons_zero, List.set_cons_succ])
  (refine wpF_take (v := ?_) 6 rfl (by kernel_rfl) (by kernel_rfl) (by kernel_rfl) (by kernel_rfl) (fun _ _ _ h => h) (by assumption) rfl ?_ ?_; rotate_left; (focus (rintro _ ⟨E, rfl⟩; go_simp; (try with_reducible rfl))); simp only [Act.put, List.getElem_toArray, List.getElem_cons_succ, List.getElem_cons_zero, List.setIfInBounds_toArray, List.set_cons_zero, List.set_cons_succ])
  (refine wpF_take (v := ?_) 7 rfl (by kernel_rfl) (by kernel_rfl) (by kernel_rfl) (by kernel_rfl) (fun _ _ _ h => h) (by assumption) rfl ?_ ?_; rotate_left; (focus (rintro _ ⟨E, rfl⟩; go_simp; (try with_reducible rfl))); simp only [Act.put, List.getElem_toArray, List.getElem_cons_succ, List.getElem_cons_zero, List.setIfInBounds_toArray, List.set_cons_zero, List.set_cons_succ])
  (refine wpF_take (v := ?_) 8 rfl (by kernel_rfl) (by kernel_rfl) (by kernel_rfl) (by kernel_rfl) (fun _ _ _ h => h) (by assumption) rfl ?_ ?_; rotate_left; (focus (rintro _ ⟨E, rfl⟩; go_simp; (try with_reducible rfl))); simp only [Act.put, List.getElem_toArray, List.getElem_cons_succ, List.getElem_cons_zero, List.setIfInBounds_toArray, List.set_cons_zero, List.set_cons_succ])
  (refine wpF_one 9 rfl (by kernel_rfl) rfl (fun K hK => ?_))
  go_simp
  (refine hK _ _ (fun h => absurd (by simp) h) (fun _ => ?_); clear hK K; try simp only [Act.put, List.getElem_toArray, List.getElem_cons_succ, List.getElem_cons_zero, List.setIfInBounds_toArray, List.set_cons_zero, List.set_cons_succ])
  (refine wpF_done (by kernel_rfl) ?_ _)
  have hzX := HZ1.out.keep hK0 id
  have d0 := hzX.cell 0 hc0.out
  have d1 := hzX.cell 1 hc1.out
  have d11 := hzX.cell 11 hc11.out
  have lX := hzX.lt
  go_wp2_with fail
  clear d0 d1 d11 lX m1 m2 p1 p2 p3 p4 p5
  have HX := Lib.hid (HK1.out.trans hK0 (fun _ _ h => h))
  have HZX := Lib.hid hzX
  have HUX := Lib.hid (HU6.out.keep hK0 id)
  have HLX := Lib.hid (Lies_keep hK0 HL6.out)
  clear hzX hK0
  go_loopw [86] (fun i wr => ∃ j : Nat, j ≤ 10 ∧ i = .int .i64 j ∧ Hid (Keep Nb x0 wr)) (fun i _ => 10 - (intOf i).toNat)
  case atStart => exact ⟨0, by omega, rfl, Lib.hid (Keep.refl _ _)⟩
  case round =>
    obtain ⟨j, hj, rfl, hkr⟩ := hrel
    by_cases hlt : j < 10
    · have g1 : decide ((j : Int) < 10) = true := by simp; omega
      have hzr := HZX.out.keep hkr.out id
      obtain ⟨ec1, ec2⟩ := hcell.out j hlt
      have cg := hzr.cell (1 + j) ec1
      have ch := hzr.cell (11 + j) ec2
      have lr := hzr.lt
      cases hcj : c j with
      | none =>
        rw [hcj] at cg ch
        clear ec1 ec2
        have v0 := fun wx => F_back (a := 0) (by omega) wx
        rw [show F 0 = 0 from by decide +kernel] at v0
        have q2 : decide (j < 10) = true := by simp; omega
        have q3 : ¬ ((j : Int) < 0) := by omega
        have q4 : ¬ (10 ≤ (j : Int)) := by omega
        have q5 : (j : Int).toNat = j := by simp
        simp only [grpV] at cg
        simp only [hasV, Option.isSome_none] at ch
        go_wp2_with fail
        (refine wp_region_f [13] (InX Nb _) (by kernel_rfl) (InX.mk (Keep.drew (Keep.refl _ _))) (fun hI => ?_))
        have hK1 : Keep Nb wr wr.drew := (Keep.refl _ _).drew
        generalize wr.drew = x1 at hK1 hI ⊢
        (refine wpF_take (v := ?_) 0 rfl (by kernel_rfl) (by kernel_rfl) (by kernel_rfl) (by kernel_rfl) (fun _ _ _ h => h) (by assumption) rfl ?_ ?_; rotate_left; (focus (rintro _ ⟨E, rfl⟩; go_simp; (try with_reducible rfl))); simp only [Act.put, List.getElem_toArray, List.getElem_cons_succ, List.getElem_cons_zero, List.setIfInBounds_toArray, List.set_cons_zero, List.set_cons_succ])
        (refine wpF_take (v := ?_) 1 rfl (by kernel_rfl) (by kernel_rfl) (by kernel_rfl) (by kernel_rfl) (fun _ _ _ h => h) (by assumption) rfl ?_ ?_; rotate_left; (focus (rintro _ ⟨E, rfl⟩; go_simp; (try with_reducible rfl))); simp only [Act.put, List.getElem_toArray, List.getElem_cons_succ, List.getElem_cons_zero, List.setIfInBounds_toArray, List.set_cons_zero, List.set_cons_succ])
        (refine wpF_take (v := ?_) 2 rfl (by kernel_rfl) (by kernel_rfl) (by kernel_rfl) (by kernel_rfl) (fun _ _ _ h => h) (by assumption) rfl ?_ ?_; rotate_left; (focus (rintro _ ⟨E, rfl⟩; go_simp; (try with_reducible rfl))); simp only [Act.put, List.getElem_toArray, List.getElem_cons_succ, List.getElem_cons_zero, List.setIfInBounds_toArray, List.set_cons_zero, List.set_cons_succ])
        (refine wpF_take (v := ?_) 3 rfl (by kernel_rfl) (by kernel_rfl) (by kernel_rfl) (by kernel_rfl) (fun _ _ _ h => h) (by assumption) rfl ?_ ?_; rotate_left; (focus (rintro _ ⟨E, rfl⟩; go_simp; (try with_reducible rfl))); simp only [Act.put, List.getElem_toArray, List.getElem_cons_succ, List.getElem_cons_zero, List.setIfInBounds_toArray, List.set_cons_zero, List.set_cons_succ])
        (refine wpF_take (v := ?_) 4 rfl (by kernel_rfl) (by kernel_rfl) (by kernel_rfl) (by kernel_rfl) (fun _ _ _ h => h) (by assumption) rfl ?_ ?_; rotate_left; (focus (rintro _ ⟨E, rfl⟩; go_simp; (try with_reducible rfl))); simp only [Act.put, List.getElem_toArray, List.getElem_cons_succ, List.getElem_cons_zero, List.setIfInBounds_toArray, List.set_cons_zero, List.set_cons_succ])
        (refine wpF_take (v := ?_) 5 rfl (by kernel_rfl) (by kernel_rfl) (by kernel_rfl) (by kernel_rfl) (fun _ _ _ h => h) (by assumption) rfl ?_ ?_; rotate_left; (focus (rintro _ ⟨E, rfl⟩; go_simp; (try with_reducible rfl))); simp only [Act.put, List.getElem_toArray, List.getElem_cons_succ, List.getElem_cons_zero, List.setIfInBounds_toArray, List.set_cons_zero, List.set_cons_succ])
        (refine wpF_take (v := ?_) 6 rfl (by kernel_rfl) (by kernel_rfl) (by kernel_rfl) (by kernel_rfl) (fun _ _ _ h => h) (by assumption) rfl ?_ ?_; rotate_left; (focus (rintro _ ⟨E, rfl⟩; go_simp; (try with_reducible rfl))); simp only [Act.put, List.getElem_toArray, List.getElem_cons_succ, List.getElem_cons_zero, List.setIfInBounds_toArray, List.set_cons_zero, List.set_cons_succ])
        (refine wpF_take (v := ?_) 7 rfl (by kernel_rfl) (by kernel_rfl) (by kernel_rfl) (by kernel_rfl) (fun _ _ _ h => h) (by assumption) rfl ?_ ?_; rotate_left; (focus (rintro _ ⟨E, rfl⟩; go_simp; (try with_reducible rfl))); simp only [Act.put, List.getElem_toArray, List.getElem_cons_succ, List.getElem_cons_zero, List.setIfInBounds_toArray, List.set_cons_zero, List.set_cons_succ])
        (refine wpF_take (v := ?_) 8 rfl (by kernel_rfl) (by kernel_rfl) (by kernel_rfl) (by kernel_rfl) (fun _ _ _ h => h) (by assumption) rfl ?_ ?_; rotate_left; (focus (rintro _ ⟨E, rfl⟩; go_simp; (try with_reducible rfl))); simp only [Act.put, List.getElem_toArray, List.getElem_cons_succ, List.getElem_cons_zero, List.setIfInBounds_toArray, List.set_cons_zero, List.set_cons_succ])
        (refine wpF_take (v := ?_) 9 rfl (by kernel_rfl) (by kernel_rfl) (by kernel_rfl) (by kernel_rfl) (fun _ _ _ h => h) (by assumption) rfl ?_ ?_; rotate_left; (focus (rintro _ ⟨E, rfl⟩; go_simp; (try with_reducible rfl))); simp only [Act.put, List.getElem_toArray, List.getElem_cons_succ, List.getElem_cons_zero, List.setIfInBounds_toArray, List.set_cons_zero, List.set_cons_succ])
        (refine wpF_take (v := ?_) 10 rfl (by kernel_rfl) (by kernel_rfl) (by kernel_rfl) (by kernel_rfl) (fun _ _ _ h => h) (by assumption) rfl ?_ ?_; rotate_left; (focus (rintro _ ⟨E, rfl⟩; go_simp; (try with_reducible rfl))); simp only [Act.put, List.getElem_toArray, List.getElem_cons_succ, List.getElem_cons_zero, List.setIfInBounds_toArray, List.set_cons_zero, List.set_cons_succ])
        (refine wpF_take (v := ?_) 11 rfl (by kernel_rfl) (by kernel_rfl) (by kernel_rfl) (by kernel_rfl) (fun _ _ _ h => h) (by assumption) rfl ?_ ?_; rotate_left; (focus (rintro _ ⟨E, rfl⟩; go_simp; (try with_reducible rfl))); simp only [Act.put, List.getElem_toArray, List.getElem_cons_succ, List.getElem_cons_zero, List.setIfInBounds_toArray, List.set_cons_zero, List.set_cons_succ])
        (refine wpF_take (v := ?_) 12 rfl (by kernel_rfl) (by kernel_rfl) (by kernel_rfl) (by kernel_rfl) (fun _ _ _ h => h) (by assumption) rfl ?_ ?_; rotate_left; (focus (rintro _ ⟨E, rfl⟩; go_simp; (try with_reducible rfl))); simp only [Act.put, List.getElem_toArray, List.getElem_cons_succ, List.getElem_cons_zero, List.setIfInBounds_toArray, List.set_cons_zero, List.set_cons_succ])
        (refine wpF_one 13 rfl (by kernel_rfl) rfl (fun K hK => ?_))
        go_simp
        (refine hK _ _ (fun h => absurd (by simp) h) (fun _ => ?_); clear hK K; try simp only [Act.put, List.getElem_toArray, List.getElem_cons_succ, List.getElem_cons_zero, List.setIfInBounds_toArray, List.set_cons_zero, List.set_cons_succ])
        (refine wpF_done (by kernel_rfl) ?_ _)
        have hz1 := HZX.out.keep (hkr.out.trans hK1 (fun _ _ h => h)) id
        clear cg ch lr
        obtain ⟨ec1, ec2⟩ := hcell.out j hlt
        have cg := hz1.cell (1 + j) ec1
        have ch := hz1.cell (11 + j) ec2
        have lr := hz1.lt
        rw [hcj] at cg ch
        simp only [grpV] at cg
        simp only [hasV, Option.isSome_none] at ch
        have zz : (FloatKind.f64.format.order 0 0 == some .eq) = true := by decide +kernel
        go_wp2_with fail
        exact ⟨⟨j + 1, by omega, by simp, Lib.hid (hkr.out.trans hK1 (fun _ _ h => h))⟩, by simp [intOf]; omega⟩
      | some xy =>
        obtain ⟨x, y⟩ := xy
        rw [hcj] at cg ch
        clear ec1 ec2
        have hxy := hcap.out j x y hcj
        have vx := fun wx => F_back (a := x) (by omega) wx
        have vy := fun wx => F_back (a := y) (by omega) wx
        have r1 : decide ((x : Int) < 0) = false := by simp
        have r2 : decide ((y : Int) < (x : Int)) = false := by simp; omega
        have r3 : decide (y < x) = false := by simp; omega
        have r4 : decide ((T.size : Int) < (y : Int)) = false := by simp; omega
        have r5 : decide (T.size < y) = false := by simp; omega
        have q2 : decide (j < 10) = true := by simp; omega
        have q3 : ¬ ((j : Int) < 0) := by omega
        have q4 : ¬ (10 ≤ (j : Int)) := by omega
        have q5 : (j : Int).toNat = j := by simp
        simp only [grpV] at cg
        simp only [hasV, Option.isSome_some] at ch
        go_wp2_with fail
        (refine wp_region_f [13] (InX Nb _) (by kernel_rfl) (InX.mk (Keep.drew (Keep.refl _ _))) (fun hI => ?_))
        have hK1 : Keep Nb wr wr.drew := (Keep.refl _ _).drew
        generalize wr.drew = x1 at hK1 hI ⊢
        (refine wpF_take (v := ?_) 0 rfl (by kernel_rfl) (by kernel_rfl) (by kernel_rfl) (by kernel_rfl) (fun _ _ _ h => h) (by assumption) rfl ?_ ?_; rotate_left; (focus (rintro _ ⟨E, rfl⟩; go_simp; (try with_reducible rfl))); simp only [Act.put, List.getElem_toArray, List.getElem_cons_succ, List.getElem_cons_zero, List.setIfInBounds_toArray, List.set_cons_zero, List.set_cons_succ])
        (refine wpF_take (v := ?_) 1 rfl (by kernel_rfl) (by kernel_rfl) (by kernel_rfl) (by kernel_rfl) (fun _ _ _ h => h) (by assumption) rfl ?_ ?_; rotate_left; (focus (rintro _ ⟨E, rfl⟩; go_simp; (try with_reducible rfl))); simp only [Act.put, List.getElem_toArray, List.getElem_cons_succ, List.getElem_cons_zero, List.setIfInBounds_toArray, List.set_cons_zero, List.set_cons_succ])
        (refine wpF_take (v := ?_) 2 rfl (by kernel_rfl) (by kernel_rfl) (by kernel_rfl) (by kernel_rfl) (fun _ _ _ h => h) (by assumption) rfl ?_ ?_; rotate_left; (focus (rintro _ ⟨E, rfl⟩; go_simp; (try with_reducible rfl))); simp only [Act.put, List.getElem_toArray, List.getElem_cons_succ, List.getElem_cons_zero, List.setIfInBounds_toArray, List.set_cons_zero, List.set_cons_succ])
        (refine wpF_take (v := ?_) 3 rfl (by kernel_rfl) (by kernel_rfl) (by kernel_rfl) (by kernel_rfl) (fun _ _ _ h => h) (by assumption) rfl ?_ ?_; rotate_left; (focus (rintro _ ⟨E, rfl⟩; go_simp; (try with_reducible rfl))); simp only [Act.put, List.getElem_toArray, List.getElem_cons_succ, List.getElem_cons_zero, List.setIfInBounds_toArray, List.set_cons_zero, List.set_cons_succ])
        (refine wpF_take (v := ?_) 4 rfl (by kernel_rfl) (by kernel_rfl) (by kernel_rfl) (by kernel_rfl) (fun _ _ _ h => h) (by assumption) rfl ?_ ?_; rotate_left; (focus (rintro _ ⟨E, rfl⟩; go_simp; (try with_reducible rfl))); simp only [Act.put, List.getElem_toArray, List.getElem_cons_succ, List.getElem_cons_zero, List.setIfInBounds_toArray, List.set_cons_zero, List.set_cons_succ])
        (refine wpF_take (v := ?_) 5 rfl (by kernel_rfl) (by kernel_rfl) (by kernel_rfl) (by kernel_rfl) (fun _ _ _ h => h) (by assumption) rfl ?_ ?_; rotate_left; (focus (rintro _ ⟨E, rfl⟩; go_simp; (try with_reducible rfl))); simp only [Act.put, List.getElem_toArray, List.getElem_cons_succ, List.getElem_cons_zero, List.setIfInBounds_toArray, List.set_cons_zero, List.set_cons_succ])
        (refine wpF_take (v := ?_) 6 rfl (by kernel_rfl) (by kernel_rfl) (by kernel_rfl) (by kernel_rfl) (fun _ _ _ h => h) (by assumption) rfl ?_ ?_; rotate_left; (focus (rintro _ ⟨E, rfl⟩; go_simp; (try with_reducible rfl))); simp only [Act.put, List.getElem_toArray, List.getElem_cons_succ, List.getElem_cons_zero, List.setIfInBounds_toArray, List.set_cons_zero, List.set_cons_succ])
        (refine wpF_take (v := ?_) 7 rfl (by kernel_rfl) (by kernel_rfl) (by kernel_rfl) (by kernel_rfl) (fun _ _ _ h => h) (by assumption) rfl ?_ ?_; rotate_left; (focus (rintro _ ⟨E, rfl⟩; go_simp; (try with_reducible rfl))); simp only [Act.put, List.getElem_toArray, List.getElem_cons_succ, List.getElem_cons_zero, List.setIfInBounds_toArray, List.set_cons_zero, List.set_cons_succ])
        (refine wpF_take (v := ?_) 8 rfl (by kernel_rfl) (by kernel_rfl) (by kernel_rfl) (by kernel_rfl) (fun _ _ _ h => h) (by assumption) rfl ?_ ?_; rotate_left; (focus (rintro _ ⟨E, rfl⟩; go_simp; (try with_reducible rfl))); simp only [Act.put, List.getElem_toArray, List.getElem_cons_succ, List.getElem_cons_zero, List.setIfInBounds_toArray, List.set_cons_zero, List.set_cons_succ])
        (refine wpF_take (v := ?_) 9 rfl (by kernel_rfl) (by kernel_rfl) (by kernel_rfl) (by kernel_rfl) (fun _ _ _ h => h) (by assumption) rfl ?_ ?_; rotate_left; (focus (rintro _ ⟨E, rfl⟩; go_simp; (try with_reducible rfl))); simp only [Act.put, List.getElem_toArray, List.getElem_cons_succ, List.getElem_cons_zero, List.setIfInBounds_toArray, List.set_cons_zero, List.set_cons_succ])
        (refine wpF_take (v := ?_) 10 rfl (by kernel_rfl) (by kernel_rfl) (by kernel_rfl) (by kernel_rfl) (fun _ _ _ h => h) (by assumption) rfl ?_ ?_; rotate_left; (focus (rintro _ ⟨E, rfl⟩; go_simp; (try with_reducible rfl))); simp only [Act.put, List.getElem_toArray, List.getElem_cons_succ, List.getElem_cons_zero, List.setIfInBounds_toArray, List.set_cons_zero, List.set_cons_succ])
        (refine wpF_take (v := ?_) 11 rfl (by kernel_rfl) (by kernel_rfl) (by kernel_rfl) (by kernel_rfl) (fun _ _ _ h => h) (by assumption) rfl ?_ ?_; rotate_left; (focus (rintro _ ⟨E, rfl⟩; go_simp; (try with_reducible rfl))); simp only [Act.put, List.getElem_toArray, List.getElem_cons_succ, List.getElem_cons_zero, List.setIfInBounds_toArray, List.set_cons_zero, List.set_cons_succ])
        (refine wpF_take (v := ?_) 12 rfl (by kernel_rfl) (by kernel_rfl) (by kernel_rfl) (by kernel_rfl) (fun _ _ _ h => h) (by assumption) rfl ?_ ?_; rotate_left; (focus (rintro _ ⟨E, rfl⟩; go_simp; (try with_reducible rfl))); simp only [Act.put, List.getElem_toArray, List.getElem_cons_succ, List.getElem_cons_zero, List.setIfInBounds_toArray, List.set_cons_zero, List.set_cons_succ])
        (refine wpF_one 13 rfl (by kernel_rfl) rfl (fun K hK => ?_))
        go_simp
        (refine hK _ _ (fun h => absurd (by simp) h) (fun _ => ?_); clear hK K; try simp only [Act.put, List.getElem_toArray, List.getElem_cons_succ, List.getElem_cons_zero, List.setIfInBounds_toArray, List.set_cons_zero, List.set_cons_succ])
        (refine wpF_done (by kernel_rfl) ?_ _)
        have hz1 := HZX.out.keep (hkr.out.trans hK1 (fun _ _ h => h)) id
        clear cg ch lr
        obtain ⟨ec1, ec2⟩ := hcell.out j hlt
        have cg := hz1.cell (1 + j) ec1
        have ch := hz1.cell (11 + j) ec2
        have lr := hz1.lt
        rw [hcj] at cg ch
        simp only [grpV] at cg
        simp only [hasV, Option.isSome_some] at ch
        go_wp2_with fail
        exact ⟨⟨j + 1, by omega, by simp, Lib.hid (hkr.out.trans hK1 (fun _ _ h => h))⟩, by simp [intOf]; omega⟩
    · have g1 : decide ((j : Int) < 10) = false := by simp; omega
      have g2 : decide (j < 10) = false := by simp; omega
      have hur := HUX.out.keep hkr.out id
      (have u0 := Blk.cell hur 0 (u := .int .i64 N.h.k) rfl; have u1 := Blk.cell hur 1 (u := .int .u8 N.h.c) rfl; have u2 := Blk.cell hur 2 (u := .int .u64 N.h.s0) rfl; have u3 := Blk.cell hur 3 (u := .int .u64 N.h.s1) rfl; have u4 := Blk.cell hur 4 (u := .int .u64 N.h.s2) rfl; have u5 := Blk.cell hur 5 (u := .int .u64 N.h.s3) rfl; have u6 := Blk.cell hur 6 (u := .int .i64 N.h.n) rfl; have u7 := Blk.cell hur 7 (u := .int .i64 N.h.mn) rfl; have u8 := Blk.cell hur 8 (u := .int .i64 N.h.mx) rfl; have u9 := Blk.cell hur 9 (u := (.slice A1 N.l.length n1)) rfl)
      have lu := hur.lt
      have hlr := Lies_keep hkr.out HLX.out
      go_wp2_with fail
      refine (HG.out A1 n1 _ hlr).mono ?_
      rintro e w7 ⟨rfl, hk7⟩
      rw [hv2]
      clear u0 u1 u2 u3 u4 u5 u6 u7 u8 u9 lu hlr hur g1 g2
      have hz7 := HZX.out.keep (hkr.out.trans hk7 (fun _ _ h => h)) id
      have hK7 := HX.out.trans (hkr.out.trans hk7 (fun _ _ h => h)) (fun _ _ h => h)
      have y0 : Blk (w7.alloc (.cells #[.complex .f64 0 0, .complex .f64 0 0, .complex .f64 0 0, .complex .f64 0 0, .complex .f64 0 0, .complex .f64 0 0, .complex .f64 0 0, .complex .f64 0 0, .complex .f64 0 0, .complex .f64 0 0, .complex .f64 0 0, .bool false, .bool false, .bool false, .bool false, .bool false, .bool false, .bool false, .bool false, .bool false, .bool false, .int .i64 0] 49)) w7.heap.size #[.complex .f64 0 0, .complex .f64 0 0, .complex .f64 0 0, .complex .f64 0 0, .complex .f64 0 0, .complex .f64 0 0, .complex .f64 0 0, .complex .f64 0 0, .complex .f64 0 0, .complex .f64 0 0, .complex .f64 0 0, .bool false, .bool false, .bool false, .bool false, .bool false, .bool false, .bool false, .bool false, .bool false, .bool false, .int .i64 0] 49 := Blk.new w7 _ _
      have y1 : Blk ((w7.alloc (.cells #[.complex .f64 0 0, .complex .f64 0 0, .complex .f64 0 0, .complex .f64 0 0, .complex .f64 0 0, .complex .f64 0 0, .complex .f64 0 0, .complex .f64 0 0, .complex .f64 0 0, .complex .f64 0 0, .complex .f64 0 0, .bool false, .bool false, .bool false, .bool false, .bool false, .bool false, .bool false, .bool false, .bool false, .bool false, .int .i64 0] 49)).setRow w7.heap.size cs2) w7.heap.size cs2 49 := y0.setRow _
      have k7 : Keep Nb w ((w7.alloc (.cells #[.complex .f64 0 0, .complex .f64 0 0, .complex .f64 0 0, .complex .f64 0 0, .complex .f64 0 0, .complex .f64 0 0, .complex .f64 0 0, .complex .f64 0 0, .complex .f64 0 0, .complex .f64 0 0, .complex .f64 0 0, .bool false, .bool false, .bool false, .bool false, .bool false, .bool false, .bool false, .bool false, .bool false, .bool false, .int .i64 0] 49)).setRow w7.heap.size cs2) := Keep.setRow (Keep.alloc hK7 _) (Or.inl hK7.size) _
      have x1 : Blk ((w7.alloc (.cells #[.complex .f64 0 0, .complex .f64 0 0, .complex .f64 0 0, .complex .f64 0 0, .complex .f64 0 0, .complex .f64 0 0, .complex .f64 0 0, .complex .f64 0 0, .complex .f64 0 0, .complex .f64 0 0, .complex .f64 0 0, .bool false, .bool false, .bool false, .bool false, .bool false, .bool false, .bool false, .bool false, .bool false, .bool false, .int .i64 0] 49)).setRow w7.heap.size cs2) pf cs 49 := (hz7.alloc (.cells #[.complex .f64 0 0, .complex .f64 0 0, .complex .f64 0 0, .complex .f64 0 0, .complex .f64 0 0, .complex .f64 0 0, .complex .f64 0 0, .complex .f64 0 0, .complex .f64 0 0, .complex .f64 0 0, .complex .f64 0 0, .bool false, .bool false, .bool false, .bool false, .bool false, .bool false, .bool false, .bool false, .bool false, .bool false, .int .i64 0] 49)).setRowOther (Nat.ne_of_lt hz7.lt) cs2
      have Y0 := Lib.hid y0
      have K7 := Lib.hid k7
      have c0 := y1.cell 0 hc2.out
      have l0 := y1.lt
      have c1 := x1.cell 0 hc0.out
      have l1 := x1.lt
      clear y0 y1 k7 x1 hz7 hK7 hk7
      go_wp2_with (refine wpList_store_row rfl 49 (.tmp 16) (.tmp 140) rfl w7.heap.size cs2 rfl rfl 49 _ Y0.out (by rw [hsz2.out]; exact sizeFo) (by rw [hsz2.out]; rfl) hone2.out ?_)
      go_ret
      exact ⟨by first | rfl | (rw [e1, e2]; rfl) | (simp only [e1, e2]; rfl), K7.out⟩

theorem wit_zero : zeroFnd.all (·.oneCell') = true := by decide +kernel
theorem wit_cells (S : St) (q : Nat) (c : Caps) (hb : S.best = some (q, c)) : ∀ j, j < 10 → (fndL S).toArray[1 + j]? = some (grpV (c j)) ∧ (fndL S).toArray[11 + j]? = some (hasV (c j)) := by
  intro j hj
  have : j = 0 ∨ j = 1 ∨ j = 2 ∨ j = 3 ∨ j = 4 ∨ j = 5 ∨ j = 6 ∨ j = 7 ∨ j = 8 ∨ j = 9 := by omega
  rcases this with rfl | rfl | rfl | rfl | rfl | rfl | rfl | rfl | rfl | rfl <;> simp [fndL, bestC, hb]
theorem wit_any (N : Nd) (v : Value) (T : ByteArray) (a : Int) (w : World) (hl : Lies w N v) :
    Calls Try.prog 9 #[.agg (Nd.row N v), .string T, .int .i64 a] w fun e w' => e = .returned (.bool true) ∧ Keep Nb w w' := by
  by_cases hf : few N = true
  · by_cases h6 : T.size ≤ 600
    · by_cases h : formedT N = true ∧ T.size ≤ 600 ∧ 0 ≤ a ∧ a ≤ T.size
      · have hv : findV N T a false = findW (found T.toList false N (formed_ok h.1) a.toNat) := by rw [findV, dif_pos h]
        obtain ⟨k, hk⟩ := found_spec T.toList false N (formed_ok h.1) a.toNat
        have lo := find_again T.toList false N (formed_ok h.1) k _ _ _ _ hk rfl (Nat.zero_le _) (by rw [toList_len]; omega)
        have bo := find_low T.toList false N (formed_ok h.1) k _ _ _ _ hk rfl (Nat.zero_le _) (by rw [toList_len]; omega)
        generalize found T.toList false N (formed_ok h.1) a.toNat = S at hv lo bo
        by_cases ho : S.over = true
        · rw [findW, if_pos ho] at hv
          exact wit_n12 N v T a w hl hf h6 _ (Lib.hid rfl) (Lib.hid wit_zero) (Lib.hid rfl) hv
        · rw [findW, if_neg ho] at hv
          cases hb : S.best with
          | none =>
            rw [hb] at hv
            exact wit_n0 N v T a w hl hf h6 _ (Lib.hid rfl) (Lib.hid (fnd_all S)) (Lib.hid (by simp [fndL, bestC, hb, grpV])) hv
          | some o =>
            obtain ⟨q, c⟩ := o
            rw [hb] at hv
            obtain ⟨hcap, st, r1, r2, r3, X, r4, r5, r6⟩ := lo (by simpa using ho) q c hb
            obtain ⟨st', b1, b2, b3, _⟩ := bo q c hb
            rw [r1] at b1
            obtain ⟨rfl, _⟩ := Prod.mk.inj (Option.some.inj b1)
            have hn := (least_range N).1
            rw [toList_len] at r3 b3
            have h9 : formedT N = true ∧ T.size ≤ 600 ∧ (0 : Int) ≤ (st : Int) ∧ (st : Int) ≤ T.size := ⟨h.1, h6, by omega, by omega⟩
            have hv2 : findV N T st false = findW (found T.toList false N (formed_ok h.1) (st : Int).toNat) := by rw [findV, dif_pos h9]
            obtain ⟨k2, hk2⟩ := found_spec T.toList false N (formed_ok h.1) (st : Int).toNat
            rw [Int.toNat_natCast] at hk2 hv2
            have e1 := findS_more (Nat.le_max_left k k2) _ _ _ _ r4
            have e2 := findS_more (Nat.le_max_right k k2) _ _ _ _ hk2
            rw [e1] at e2
            have e3 := Option.some.inj e2
            rw [← e3, findW, if_neg (by rw [r5]; simp), r6] at hv2
            have cc : ∀ S' : St, S'.best = some (q, c) → (fndL S').toArray[0]? = some (.complex .f64 (F st) (F q)) := fun S' h => by simp [fndL, bestC, h, r1, grpV]
            have c1 : (fndL S).toArray[1]? = some (.complex .f64 (F st) (F q)) := by simp [fndL, bestC, hb, r1, grpV]
            have c11 : (fndL S).toArray[11]? = some (.bool true) := by simp [fndL, bestC, hb, r1, hasV]
            exact wit_some N v T a w hl hf h6 _ (Lib.hid rfl) (Lib.hid (fnd_all S)) c (Lib.hid (wit_cells S q c hb)) (Lib.hid (by rw [← toList_len]; exact hcap)) st q (by omega) (by omega) (by omega) (by omega) (by omega) (Lib.hid (cc S hb)) (Lib.hid c1) (Lib.hid c11) hv
              _ (Lib.hid rfl) (Lib.hid (fnd_all X)) (Lib.hid (cc X r6)) hv2
      · have hv : findV N T a false = noneV := by rw [findV, dif_neg h]
        exact wit_n1 N v T a w hl hf h6 _ (Lib.hid rfl) (Lib.hid wit_zero) (Lib.hid rfl) hv
    · exact wit_long N v T a w hl hf (by omega)
  · exact wit_false N v T a w hl (by simpa using hf)

end Go.Proofs.Ytkidjbfapldmbaa
