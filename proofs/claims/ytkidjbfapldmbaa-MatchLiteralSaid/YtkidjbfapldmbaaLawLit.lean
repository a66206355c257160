/- MatchLiteral. -/
import Derived.Test.YtkidjbfapldmbaaLit
import Derived.Test.YtkidjbfapldmbaaFeq
import Derived.Test.YtkidjbfapldmbaaGra
import Derived.Deep.DeepCutAuto
namespace Go.Proofs.Ytkidjbfapldmbaa
set_option linter.unusedVariables false
set_option linter.unusedSimpArgs false
open Go.RowKit P8

theorem wrapl_small {x : Int} (h : -9223372036854775808 ≤ x ∧ x ≤ 9223372036854775807) : IntKind.i64.wrap x = x := by rw [IntKind.wrap_i64]; omega
theorem wrapl64_small {x : Int} (h : -9223372036854775808 ≤ x ∧ x ≤ 9223372036854775807) : wrap64 x = x := by unfold wrap64; omega
theorem upl_small {t : Nat} (h : t ≤ 3000) : wrap64 ((t : Int) + 1) = (t : Int) + 1 ∧ IntKind.i64.wrap ((t : Int) + 1) = (t : Int) + 1 := ⟨wrapl64_small (by omega), wrapl_small (by omega)⟩
theorem lit_w0 {n i m : Nat} (h : n = i + m) (hn : n ≤ 3000) : wrap64 ((n : Int) - (i : Int)) = (m : Int) := by unfold wrap64; omega
theorem lit_w1 {a b : Nat} (h : a + b ≤ 3000) : wrap64 ((a : Int) + (b : Int)) = (a : Int) + (b : Int) := by unfold wrap64; omega
theorem lit_w2 {n i : Nat} (h : i ≤ 3000) (hn : n ≤ 600) : wrap64 ((n : Int) - (i : Int)) = (n : Int) - (i : Int) := by unfold wrap64; omega
theorem owns_slice {w : World} {base : Nat} {e : TypeId} {size : Nat} {v : Value} {n : Nat} {xs : List Value} (h : w.ownsRow base e size v n xs) : ∃ A l c, v = .slice A l c := by
  rcases h.2 with ⟨rfl, _⟩ | ⟨g, cap, cur, rfl, _⟩
  · exact ⟨_, _, _, rfl⟩
  · exact ⟨_, _, _, rfl⟩
theorem lit_lies (Ok : Nat → Prop) (w : World) (x : UInt8) : LiesP Ok w (litN x) (.slice none 0 0) := by
  unfold litN
  rw [LiesP]
  exact ⟨none, 0, rfl, Nat.le_refl _, Nat.zero_le _, by rw [LiesPL]; trivial⟩
theorem lit_any {Ok Ok' : Nat → Prop} {w w' : World} {x : UInt8} {v : Value} (h : LiesP Ok w (litN x) v) : LiesP Ok' w' (litN x) v := by
  unfold litN at h ⊢
  rw [LiesP] at h ⊢
  obtain ⟨A, c, rfl, h1, h2, _⟩ := h
  exact ⟨A, c, rfl, h1, h2, by rw [LiesPL]; trivial⟩
theorem lits_any {Ok Ok' : Nat → Prop} {w w' : World} {ps : List (Nd × Value)} {bs : List UInt8} (h : ps.map (·.1) = bs.map litN) {p : Nd × Value} (hp : p ∈ ps) (hl : LiesP Ok w p.1 p.2) : LiesP Ok' w' p.1 p.2 := by
  have h1 : p.1 ∈ bs.map litN := by rw [← h]; exact List.mem_map.2 ⟨p, hp, rfl⟩
  obtain ⟨x, _, hx⟩ := List.mem_map.1 h1
  rw [← hx] at hl ⊢
  exact lit_any hl
theorem lits_one {Ok Ok' : Nat → Prop} {w w' : World} {qs : List (Nd × Value)} {x : UInt8} (h : qs.map (·.1) = [litN x]) {p : Nd × Value} (hp : p ∈ qs) (hl : LiesP Ok w p.1 p.2) : LiesP Ok' w' p.1 p.2 :=
  lits_any (bs := [x]) h hp hl
theorem take_more {α : Type} {l : List α} {j : Nat} {x : α} (h : l[j]? = some x) : l.take (j + 1) = l.take j ++ [x] := by
  obtain ⟨h1, h2⟩ := List.getElem?_eq_some_iff.1 h
  rw [List.take_succ_eq_append_getElem h1, h2]
theorem lit_meas {n j : Nat} (h : j < n) : n - (intOf (.int .i64 ((j : Int) + 1))).toNat < n - (intOf (.int .i64 (j : Int))).toNat := by
  simp only [intOf]; omega
theorem lit_meas2 {n j : Nat} (h : j ≤ n) : n + 2 - (intOf (.int .i64 ((j : Int) + 1))).toNat < n + 2 - (intOf (.int .i64 (j : Int))).toNat := by
  simp only [intOf]; omega

set_option maxRecDepth 100000 in
theorem litl_big (U T : ByteArray) (w : World) (h : 100 < U.size) :
    Calls Try.prog 10 #[.string U, .string T] w fun e w' => e = .returned (.bool true) ∧ Keep Nb w w' := by
  have m1 : decide (100 < (U.size : Int)) = true := by simp; omega
  have m2 : decide (100 < U.size) = true := by simp; omega
  go_enter Try.func10, Try.ntmps10
  go_wp2_with fail
  refine (awake12 _).mono ?_
  rintro e w2 ⟨rfl, hk2⟩
  go_wp2_with fail
  refine (awake12 _).mono ?_
  rintro e w9 ⟨rfl, hk9⟩
  go_wp2_with fail
  go_ret
  exact ⟨rfl, hk2.trans hk9 (fun _ _ h => h)⟩

set_option maxRecDepth 100000 in
theorem litl_small (U T : ByteArray) (w : World) (h1 : U.size ≤ 100) (h : U.size < 2) :
    Calls Try.prog 10 #[.string U, .string T] w fun e w' => e = .returned (.bool true) ∧ Keep Nb w w' := by
  have m1 : decide (100 < (U.size : Int)) = false := by simp; omega
  have m2 : decide (100 < U.size) = false := by simp; omega
  have m3 : decide ((U.size : Int) < 2) = true := by simp; omega
  have m4 : decide (U.size < 2) = true := by simp; omega
  go_enter Try.func10, Try.ntmps10
  go_wp2_with fail
  refine (awake12 _).mono ?_
  rintro e w2 ⟨rfl, hk2⟩
  go_wp2_with fail
  refine (awake12 _).mono ?_
  rintro e w9 ⟨rfl, hk9⟩
  go_wp2_with fail
  go_ret
  exact ⟨rfl, hk2.trans hk9 (fun _ _ h => h)⟩

set_option maxRecDepth 100000 in
theorem litl_long (U T : ByteArray) (w : World) (h1 : U.size ≤ 100) (h2 : 2 ≤ U.size) (h : 600 < T.size) :
    Calls Try.prog 10 #[.string U, .string T] w fun e w' => e = .returned (.bool true) ∧ Keep Nb w w' := by
  have m1 : decide (100 < (U.size : Int)) = false := by simp; omega
  have m2 : decide (100 < U.size) = false := by simp; omega
  have m3 : decide ((U.size : Int) < 2) = false := by simp; omega
  have m4 : decide (U.size < 2) = false := by simp; omega
  have m5 : decide (600 < (T.size : Int)) = true := by simp; omega
  have m6 : decide (600 < T.size) = true := by simp; omega
  go_enter Try.func10, Try.ntmps10
  go_wp2_with fail
  refine (awake12 _).mono ?_
  rintro e w2 ⟨rfl, hk2⟩
  go_wp2_with fail
  refine (awake12 _).mono ?_
  rintro e w9 ⟨rfl, hk9⟩
  go_wp2_with fail
  go_ret
  exact ⟨rfl, hk2.trans hk9 (fun _ _ h => h)⟩

set_option maxRecDepth 100000 in
set_option maxHeartbeats 4000000 in
theorem litl_12 (U T : ByteArray) (w : World) (h1 : U.size ≤ 100) (h2 : 2 ≤ U.size) (h3 : T.size ≤ 600) (cs : Array Value) (hsz : Hid (cs.size = 22)) (hone : Hid (cs.all (·.oneCell') = true)) (X Y : Nat) (e0 : Hid (cs[0]? = some (.complex .f64 X Y)))  (hv : findV (seqN U.toList) T 0 false = .tuple #[.agg cs, .bool false, .int .i64 12]) :
    Calls Try.prog 10 #[.string U, .string T] w fun e w' => e = .returned (.bool true) ∧ Keep Nb w w' := by
  have m1 : decide (100 < (U.size : Int)) = false := by simp; omega
  have m2 : decide (100 < U.size) = false := by simp; omega
  have m3 : decide ((U.size : Int) < 2) = false := by simp; omega
  have m4 : decide (U.size < 2) = false := by simp; omega
  have m5 : decide (600 < (T.size : Int)) = false := by simp; omega
  have m6 : decide (600 < T.size) = false := by simp; omega
  have hcn : count (seqN U.toList) ≤ 101 := by unfold seqN; rw [Go.Proofs.Ytkidjbfapldmbaa.P8.count, count_lits, toList_len]; omega
  have hF := fun A1 n1 wx hx => find_any (seqN U.toList) (by omega) A1 n1 T 0 false wx hx
  rw [hv] at hF
  have HF := Lib.hid hF
  have HTH := Lib.hid (fun v1 wx hx => theirs_any 400 (by omega) (seqN U.toList) (by omega) v1 wx hx)
  obtain ⟨i0, gi0, gz0, gz1, gz2⟩ := info_parts info27
  have hi0 := Lib.hid gi0
  have hz0 := Lib.hid gz0
  have hz1 := Lib.hid gz1
  have hz2 := Lib.hid gz2
  clear gi0 gz0 gz1 gz2
  have H1 := Lib.hid h1
  have H3T := Lib.hid h3
  clear hF hv hcn
  go_enter Try.func10, Try.ntmps10
  go_wp2_with fail
  refine (awake12 _).mono ?_
  rintro e w2 ⟨rfl, hk2⟩
  have bn : Blk (w2.alloc (.cells #[.int .i64 8, .int .u8 0, .int .u64 0, .int .u64 0, .int .u64 0, .int .u64 0, .int .i64 0, .int .i64 0, .int .i64 0, .slice none 0 0] 27)) w2.heap.size #[.int .i64 8, .int .u8 0, .int .u64 0, .int .u64 0, .int .u64 0, .int .u64 0, .int .i64 0, .int .i64 0, .int .i64 0, .slice none 0 0] 27 := Blk.new w2 _ _
  have kn : Keep Nb w2 (w2.alloc (.cells #[.int .i64 8, .int .u8 0, .int .u64 0, .int .u64 0, .int .u64 0, .int .u64 0, .int .i64 0, .int .i64 0, .int .i64 0, .slice none 0 0] 27)) := Keep.alloc (Keep.refl _ _) _
  have BN := Lib.hid bn
  have KN := Lib.hid kn
  clear bn kn
  go_wp2_with fail
  generalize w2.alloc (.cells #[.int .i64 8, .int .u8 0, .int .u64 0, .int .u64 0, .int .u64 0, .int .u64 0, .int .i64 0, .int .i64 0, .int .i64 0, .slice none 0 0] 27) = w3 at BN KN ⊢
  clear m1 m2 m3 m4 m5 m6
  go_loopw [32] (fun i wr => ∃ (j : Nat) (V : Value) (ps : List (Nd × Value)), i = .int .i64 (j : Int) ∧ Hid (j ≤ U.size) ∧ Hid (ps.map (·.1) = (U.toList.take j).map litN) ∧ Hid (∀ p ∈ ps, LiesP (fun _ => True) wr p.1 p.2) ∧ Hid (wr.ownsRow (w2.heap.size + 1) 27 10 V ps.length (rowsOf ps)) ∧ Hid (Blk wr w2.heap.size #[.int .i64 8, .int .u8 0, .int .u64 0, .int .u64 0, .int .u64 0, .int .u64 0, .int .i64 0, .int .i64 0, .int .i64 0, V] 27) ∧ Hid (Keep Nb w2 wr)) (fun i _ => U.size - (intOf i).toNat)
  case atStart => exact ⟨0, .slice none 0 0, [], rfl, Lib.hid (Nat.zero_le _), Lib.hid rfl, Lib.hid (by simp), Lib.hid (World.ownsRow_nil _ _ _ _), BN, KN⟩
  case round =>
    obtain ⟨j, V, ps, rfl, hj, hps, hpl, hown, hB, hKr⟩ := hrel
    have HNX := Lib.hid (show ¬ some w2.heap.size = V.ownBlock from fun h => by have := (hown.out.lt _ h.symm).1; omega)
    have HSZ := Lib.hid hB.out.lt
    by_cases hlt : j < U.size
    · have g1 : decide ((j : Int) < (U.size : Int)) = true := by simp; omega
      have g2 : decide (j < U.size) = true := by simp; omega
      have i1 : (j : Int) < (U.size : Int) := by omega
      have i0' : (0 : Int) ≤ (j : Int) := by omega
      obtain ⟨x, hx⟩ : ∃ x, U.toList[j]? = some x := ⟨_, List.getElem?_eq_getElem (by rw [toList_len]; omega)⟩
      obtain ⟨b0, e0'⟩ := byte_at hx
      have HX := Lib.hid hx
      have HJ := Lib.hid hlt
      have hpn : ps.length = j := by
        have := congrArg List.length hps.out
        rw [List.length_map, List.length_map, List.length_take, toList_len] at this
        omega
      have HPN := Lib.hid hpn
      have n9 := hB.out.cell 9 (u := V) rfl
      have ln := hB.out.lt
      have hjj : IntKind.i64.wrap ((j : Int) + 1) = (j : Int) + 1 := (upl_small (by omega)).2
      have hjj2 : wrap64 ((j : Int) + 1) = (j : Int) + 1 := (upl_small (by omega)).1
      have J1 := Lib.hid hjj
      have J2 := Lib.hid hjj2
      clear hx hlt hpn hjj hjj2
      go_wp2_with fail
      (refine wp_region_f [9] (InX (fun k => some k = V.ownBlock) _) (by kernel_rfl) (InX.mk (Keep.drew (Keep.refl _ _))) (fun hI => ?_))
      have xx : ¬ some w2.heap.size = V.ownBlock := HNX.out
      have hK0 : Keep Nb wr wr.drew := (Keep.refl _ _).drew
      generalize wr.drew = x0 at hK0 hI ⊢
      (refine wpF_take2 (v := ?_) 0 rfl (by kernel_rfl) (fun _ _ _ h => h) hI rfl ?_ ?_; rotate_left; (focus (rintro _ ⟨E, rfl⟩; go_simp; (try with_reducible rfl))); simp only [Act.put, tk])
      (refine wpF_take2 (v := ?_) 1 rfl (by kernel_rfl) (fun _ _ _ h => h) hI rfl ?_ ?_; rotate_left; (focus (rintro _ ⟨E, rfl⟩; go_simp; (try with_reducible rfl))); simp only [Act.put, tk])
      (refine wpF_take2 (v := ?_) 2 rfl (by kernel_rfl) (fun _ _ _ h => h) hI rfl ?_ ?_; rotate_left; (focus (rintro _ ⟨E, rfl⟩; go_simp; (try with_reducible rfl))); simp only [Act.put, tk])
      (refine wpF_take2 (v := ?_) 3 rfl (by kernel_rfl) (fun _ _ _ h => h) hI rfl ?_ ?_; rotate_left; (focus (rintro _ ⟨E, rfl⟩; go_simp; (try with_reducible rfl))); simp only [Act.put, tk])
      (refine wpF_take2 (v := ?_) 4 rfl (by kernel_rfl) (fun _ _ _ h => h) hI rfl ?_ ?_; rotate_left; (focus (rintro _ ⟨E, rfl⟩; go_simp; (try with_reducible rfl))); simp only [Act.put, tk])
      (refine wpF_take2 (v := ?_) 5 rfl (by kernel_rfl) (fun _ _ _ h => h) hI rfl ?_ ?_; rotate_left; (focus (rintro _ ⟨E, rfl⟩; go_simp; (try with_reducible rfl))); simp only [Act.put, tk])
      (refine wpF_one 6 rfl (by kernel_rfl) rfl (fun K hK => ?_))
      go_simp
      refine (fun (H : ∀ y, y = x0.alloc (.cells #[.int .i64 1, .int .u8 (x.toNat : Int), .int .u64 0, .int .u64 0, .int .u64 0, .int .u64 0, .int .i64 0, .int .i64 0, .int .i64 0, .slice none 0 0] 27) → K _ y) => H _ rfl) ?_
      intro x1 hx1
      have K1 := Lib.hid (show Keep Nb wr x1 from hx1 ▸ Keep.alloc hK0 _)
      have hbl : Blk x1 x0.heap.size (Nd.row (litN x) (.slice none 0 0)) 27 := hx1 ▸ Blk.new x0 _ _
      have hsx : x1.heap.size = x0.heap.size + 1 := by rw [hx1]; simp
      have HL1 := Lib.hid (one_lies (Ok := fun _ => True) hbl trivial (lit_lies _ _ x))
      have HO1 := Lib.hid (ownsRow_keep hown.out K1.out (fun _ _ h => h))
      have HBS := Lib.hid (show w2.heap.size + 1 ≤ x1.heap.size by have := HSZ.out; have := hK0.size; omega)
      have KX1 := Lib.hid (K1.out.mono (Y := fun k => some k = V.ownBlock) (fun _ _ h => h.elim))
      clear hbl hx1 hsx
      (refine hK _ _ (fun _ => InX.mk KX1.out) (fun hI => ?_); have hI := hI (by simp); clear hK K; try simp only [Act.put, tk])
      (refine wpF_one 7 rfl (by kernel_rfl) rfl (fun K hK => ?_))
      refine wp_append_nodes _ _ 25 rfl (w2.heap.size + 1) 27 i0 _ Try.underlying25 hi0.out hz0.out hz1.out hz2.out rfl V ps.length ps rfl HO1.out (some ⟨x0.heap.size, 0, none⟩) [litN x] 1 rfl HL1.out (by rw [HPN.out]; have := HJ.out; have := H1.out; simp; omega) HBS.out ?_
      intro V' x2 qs g1 g2 g3 g4 g5
      have KX2 := Lib.hid (KX1.out.trans (Keep.of_grown g4) (fun b hb h => h.symm ▸ rfl))
      have KN2 := Lib.hid (show Keep (fun k => some k = V.ownBlock) wr x2 from KX2.out)
      have G1 := Lib.hid g1
      have G2 := Lib.hid g2
      have G3 := Lib.hid g3
      have G5 := Lib.hid g5
      clear g1 g2 g3 g4 g5
      (refine hK _ _ (fun _ => InX.mk KX2.out) (fun hI => ?_); have hI := hI (by simp); clear hK K; try simp only [Act.put, tk])
      (refine wpF_take2 (v := ?_) 8 rfl (by kernel_rfl) (fun _ _ _ h => h) hI rfl ?_ ?_; rotate_left; (focus (rintro _ ⟨E, rfl⟩; go_simp; (try with_reducible rfl))); simp only [Act.put, tk])
      (refine wpF_one 9 rfl (by kernel_rfl) rfl (fun K hK => ?_))
      have hB2 := hB.out.keep KX2.out HNX.out
      have c9 := hB2.cell 9 (u := V) rfl
      have e9 := hB2.frozen 9
      have l9 := hB2.lt
      have B3 := Lib.hid (hB2.set 9 V')
      have KN3 := Lib.hid (Keep.setCell (X := fun k => some k = V.ownBlock ∨ k = w2.heap.size) (p := ⟨w2.heap.size, 9, none⟩) (KX2.out.mono (fun _ _ h => Or.inl h)) (Or.inr (Or.inr rfl)) V')
      have W3 := Lib.hid (ownsRow_keep (X := fun k => k = w2.heap.size) G3.out (Keep.setCell (X := fun k => k = w2.heap.size) (a := x2) (p := ⟨w2.heap.size, 9, none⟩) (Keep.refl _ _) (Or.inr rfl) V') (fun g hg h => by have := (G3.out.lt g hg).1; omega))
      obtain ⟨vA, vl, vc, hV'⟩ : ∃ vA vl vc, V' = .slice vA vl vc := owns_slice G3.out
      subst hV'
      go_simp
      generalize x2.setCell ⟨w2.heap.size, 9, none⟩ (.slice vA vl vc) = x3 at B3 KN3 W3 ⊢
      (refine hK _ _ (fun h => absurd (by simp) h) (fun _ => ?_); clear hK K; try simp only [Act.put, tk])
      (refine wpF_done (by kernel_rfl) ?_ _)
      have j1 := J1.out
      have j2 := J2.out
      clear n9 ln c9 e9 l9 b0 e0' g1 g2 i1 i0'
      go_wp2_with fail
      go_roundw
      case rel =>
        refine ⟨j + 1, .slice vA vl vc, ps ++ qs, by go_num, HJ, Lib.hid ?_, Lib.hid (fun p hp => ?_), Lib.hid ?_, Lib.hid (Blk.cong B3.out rfl), Lib.hid ?_⟩
        · rw [List.map_append, hps.out, G1.out, take_more HX.out, List.map_append]
          rfl
        · rcases List.mem_append.1 hp with hp | hp
          · exact lits_any hps.out hp (hpl.out p hp)
          · exact lits_one G1.out hp (G2.out p hp)
        · have hqn := congrArg List.length G1.out
          rw [List.length_map] at hqn
          rw [List.length_append, hqn]
          exact W3.out
        · exact hKr.out.trans KN3.out (fun b hb h => by
            rcases h with h | h
            · have := (hown.out.lt b h.symm).1; omega
            · omega)
      case measure => exact lit_meas HJ.out
    · have hj2 : j = U.size := by have := hj.out; omega
      subst hj2
      have hpn : ps.length = U.size := by
        have := congrArg List.length hps.out
        rw [List.length_map, List.length_map, List.length_take, toList_len] at this
        omega
      obtain ⟨A4, c4, hAe, hc1, hc2, hLL⟩ := LiesPL_owns (Ok := fun _ => True) hown.out hpl.out (fun g hg => trivial)
      rw [hps.out, show U.toList.take U.size = U.toList from by rw [← toList_len, List.take_length]] at hLL
      have hsl : (seqN U.toList).l.length = U.size := by rw [seqN, Nd.l, List.length_map, toList_len]
      have HLr := Lib.hid (show Lies wr (seqN U.toList) (.slice A4 (seqN U.toList).l.length c4) from by
        unfold seqN
        rw [Lies_mk]
        exact ⟨A4, c4, rfl, by rw [List.length_map, toList_len]; omega, hc2, hLL⟩)
      rw [hpn] at hAe
      have hVe : V = .slice A4 (seqN U.toList).l.length c4 := by rw [hsl]; exact hAe
      subst hVe
      have g1 : decide ((U.size : Int) < (U.size : Int)) = false := by simp
      have hbn := hB.out
      have o0 := hbn.cell 0 (u := .int .i64 8) rfl
      have o1 := hbn.cell 1 (u := .int .u8 0) rfl
      have o2 := hbn.cell 2 (u := .int .u64 0) rfl
      have o3 := hbn.cell 3 (u := .int .u64 0) rfl
      have o4 := hbn.cell 4 (u := .int .u64 0) rfl
      have o5 := hbn.cell 5 (u := .int .u64 0) rfl
      have o6 := hbn.cell 6 (u := .int .i64 0) rfl
      have o7 := hbn.cell 7 (u := .int .i64 0) rfl
      have o8 := hbn.cell 8 (u := .int .i64 0) rfl
      have o9 := hbn.cell 9 (u := .slice A4 (seqN U.toList).l.length c4) rfl
      have ln := hbn.lt
      have HTX := Lib.hid (HTH.out (.slice A4 (seqN U.toList).l.length c4) wr HLr.out)
      rw [show Nd.row (seqN U.toList) (.slice A4 (seqN U.toList).l.length c4) = #[.int .i64 8, .int .u8 0, .int .u64 0, .int .u64 0, .int .u64 0, .int .u64 0, .int .i64 0, .int .i64 0, .int .i64 0, .slice A4 (seqN U.toList).l.length c4] from rfl] at HTX
      clear hAe hLL hbn hlt hpn hsl
      go_wp2_with fail
      refine HTX.out.mono ?_
      rintro e w4 ⟨S1, rfl, hB1, hk4⟩
      obtain ⟨A1, n1, rfl, _⟩ := LiesP_def.1 hB1
      have hl4 := LiesP_all hB1
      have HK := Lib.hid (hk2.trans (hKr.out.trans hk4 (fun _ _ h => h)) (fun _ _ h => h))
      clear hB1 hk4 HTX o0 o1 o2 o3 o4 o5 o6 o7 o8 o9 ln hc1 hc2
      go_wp2_with fail
      refine (HF.out A1 n1 _ hl4).mono ?_
      rintro e w5 ⟨rfl, hk5⟩
      have HK := Lib.hid (HK.out.trans hk5 (fun _ _ h => h))
      clear hl4 hk5
      have z0 : Blk (w5.alloc (.cells #[.complex .f64 0 0, .complex .f64 0 0, .complex .f64 0 0, .complex .f64 0 0, .complex .f64 0 0, .complex .f64 0 0, .complex .f64 0 0, .complex .f64 0 0, .complex .f64 0 0, .complex .f64 0 0, .complex .f64 0 0, .bool false, .bool false, .bool false, .bool false, .bool false, .bool false, .bool false, .bool false, .bool false, .bool false, .int .i64 0] 49)) w5.heap.size #[.complex .f64 0 0, .complex .f64 0 0, .complex .f64 0 0, .complex .f64 0 0, .complex .f64 0 0, .complex .f64 0 0, .complex .f64 0 0, .complex .f64 0 0, .complex .f64 0 0, .complex .f64 0 0, .complex .f64 0 0, .bool false, .bool false, .bool false, .bool false, .bool false, .bool false, .bool false, .bool false, .bool false, .bool false, .int .i64 0] 49 := Blk.new w5 _ _
      have z1 : Blk ((w5.alloc (.cells #[.complex .f64 0 0, .complex .f64 0 0, .complex .f64 0 0, .complex .f64 0 0, .complex .f64 0 0, .complex .f64 0 0, .complex .f64 0 0, .complex .f64 0 0, .complex .f64 0 0, .complex .f64 0 0, .complex .f64 0 0, .bool false, .bool false, .bool false, .bool false, .bool false, .bool false, .bool false, .bool false, .bool false, .bool false, .int .i64 0] 49)).setRow w5.heap.size cs) w5.heap.size cs 49 := z0.setRow _
      have k1 : Keep Nb w5 ((w5.alloc (.cells #[.complex .f64 0 0, .complex .f64 0 0, .complex .f64 0 0, .complex .f64 0 0, .complex .f64 0 0, .complex .f64 0 0, .complex .f64 0 0, .complex .f64 0 0, .complex .f64 0 0, .complex .f64 0 0, .complex .f64 0 0, .bool false, .bool false, .bool false, .bool false, .bool false, .bool false, .bool false, .bool false, .bool false, .bool false, .int .i64 0] 49)).setRow w5.heap.size cs) := Keep.setRow (Keep.alloc (Keep.refl _ _) _) (Or.inl (Nat.le_refl _)) _
      have HZ0 := Lib.hid z0
      have HZ1 := Lib.hid z1
      have HK := Lib.hid (HK.out.trans k1 (fun _ _ h => h))
      clear z0 z1 k1
      go_upto_region 10 with (refine wpList_store_row rfl 49 (.tmp 7) (.tmp 50) rfl w5.heap.size cs rfl rfl 49 _ HZ0.out (by rw [hsz.out]; exact sizeFo) (by rw [hsz.out]; rfl) hone.out ?_)
      generalize (w5.alloc (.cells #[.complex .f64 0 0, .complex .f64 0 0, .complex .f64 0 0, .complex .f64 0 0, .complex .f64 0 0, .complex .f64 0 0, .complex .f64 0 0, .complex .f64 0 0, .complex .f64 0 0, .complex .f64 0 0, .complex .f64 0 0, .bool false, .bool false, .bool false, .bool false, .bool false, .bool false, .bool false, .bool false, .bool false, .bool false, .int .i64 0] 49)).setRow w5.heap.size cs = w6 at HZ1 HK ⊢
      generalize w5.heap.size = pf at HZ1 ⊢
      have b0 := HZ1.out.cell 0 e0.out
      have lb := HZ1.out.lt
      go_wp2_with fail
      go_ret
      exact ⟨rfl, HK.out⟩

set_option maxRecDepth 100000 in
set_option maxHeartbeats 4000000 in
theorem litl_none (U T : ByteArray) (w : World) (h1 : U.size ≤ 100) (h2 : 2 ≤ U.size) (h3 : T.size ≤ 600) (cs : Array Value) (hsz : Hid (cs.size = 22)) (hone : Hid (cs.all (·.oneCell') = true)) (X Y : Nat) (e0 : Hid (cs[0]? = some (.complex .f64 X Y))) (hno : ∀ j, j + U.size ≤ T.size → ¬ AtP T.toList j U.toList) (hv : findV (seqN U.toList) T 0 false = .tuple #[.agg cs, .bool false, .int .i64 0]) :
    Calls Try.prog 10 #[.string U, .string T] w fun e w' => e = .returned (.bool true) ∧ Keep Nb w w' := by
  have m1 : decide (100 < (U.size : Int)) = false := by simp; omega
  have m2 : decide (100 < U.size) = false := by simp; omega
  have m3 : decide ((U.size : Int) < 2) = false := by simp; omega
  have m4 : decide (U.size < 2) = false := by simp; omega
  have m5 : decide (600 < (T.size : Int)) = false := by simp; omega
  have m6 : decide (600 < T.size) = false := by simp; omega
  have hcn : count (seqN U.toList) ≤ 101 := by unfold seqN; rw [Go.Proofs.Ytkidjbfapldmbaa.P8.count, count_lits, toList_len]; omega
  have hF := fun A1 n1 wx hx => find_any (seqN U.toList) (by omega) A1 n1 T 0 false wx hx
  rw [hv] at hF
  have HF := Lib.hid hF
  have HTH := Lib.hid (fun v1 wx hx => theirs_any 400 (by omega) (seqN U.toList) (by omega) v1 wx hx)
  obtain ⟨i0, gi0, gz0, gz1, gz2⟩ := info_parts info27
  have hi0 := Lib.hid gi0
  have hz0 := Lib.hid gz0
  have hz1 := Lib.hid gz1
  have hz2 := Lib.hid gz2
  clear gi0 gz0 gz1 gz2
  have H1 := Lib.hid h1
  have H3T := Lib.hid h3
  clear hF hv hcn
  have HNO := Lib.hid hno
  clear hno
  go_enter Try.func10, Try.ntmps10
  go_wp2_with fail
  refine (awake12 _).mono ?_
  rintro e w2 ⟨rfl, hk2⟩
  have bn : Blk (w2.alloc (.cells #[.int .i64 8, .int .u8 0, .int .u64 0, .int .u64 0, .int .u64 0, .int .u64 0, .int .i64 0, .int .i64 0, .int .i64 0, .slice none 0 0] 27)) w2.heap.size #[.int .i64 8, .int .u8 0, .int .u64 0, .int .u64 0, .int .u64 0, .int .u64 0, .int .i64 0, .int .i64 0, .int .i64 0, .slice none 0 0] 27 := Blk.new w2 _ _
  have kn : Keep Nb w2 (w2.alloc (.cells #[.int .i64 8, .int .u8 0, .int .u64 0, .int .u64 0, .int .u64 0, .int .u64 0, .int .i64 0, .int .i64 0, .int .i64 0, .slice none 0 0] 27)) := Keep.alloc (Keep.refl _ _) _
  have BN := Lib.hid bn
  have KN := Lib.hid kn
  clear bn kn
  go_wp2_with fail
  generalize w2.alloc (.cells #[.int .i64 8, .int .u8 0, .int .u64 0, .int .u64 0, .int .u64 0, .int .u64 0, .int .i64 0, .int .i64 0, .int .i64 0, .slice none 0 0] 27) = w3 at BN KN ⊢
  clear m1 m2 m3 m4 m5 m6
  go_loopw [32] (fun i wr => ∃ (j : Nat) (V : Value) (ps : List (Nd × Value)), i = .int .i64 (j : Int) ∧ Hid (j ≤ U.size) ∧ Hid (ps.map (·.1) = (U.toList.take j).map litN) ∧ Hid (∀ p ∈ ps, LiesP (fun _ => True) wr p.1 p.2) ∧ Hid (wr.ownsRow (w2.heap.size + 1) 27 10 V ps.length (rowsOf ps)) ∧ Hid (Blk wr w2.heap.size #[.int .i64 8, .int .u8 0, .int .u64 0, .int .u64 0, .int .u64 0, .int .u64 0, .int .i64 0, .int .i64 0, .int .i64 0, V] 27) ∧ Hid (Keep Nb w2 wr)) (fun i _ => U.size - (intOf i).toNat)
  case atStart => exact ⟨0, .slice none 0 0, [], rfl, Lib.hid (Nat.zero_le _), Lib.hid rfl, Lib.hid (by simp), Lib.hid (World.ownsRow_nil _ _ _ _), BN, KN⟩
  case round =>
    obtain ⟨j, V, ps, rfl, hj, hps, hpl, hown, hB, hKr⟩ := hrel
    have HNX := Lib.hid (show ¬ some w2.heap.size = V.ownBlock from fun h => by have := (hown.out.lt _ h.symm).1; omega)
    have HSZ := Lib.hid hB.out.lt
    by_cases hlt : j < U.size
    · have g1 : decide ((j : Int) < (U.size : Int)) = true := by simp; omega
      have g2 : decide (j < U.size) = true := by simp; omega
      have i1 : (j : Int) < (U.size : Int) := by omega
      have i0' : (0 : Int) ≤ (j : Int) := by omega
      obtain ⟨x, hx⟩ : ∃ x, U.toList[j]? = some x := ⟨_, List.getElem?_eq_getElem (by rw [toList_len]; omega)⟩
      obtain ⟨b0, e0'⟩ := byte_at hx
      have HX := Lib.hid hx
      have HJ := Lib.hid hlt
      have hpn : ps.length = j := by
        have := congrArg List.length hps.out
        rw [List.length_map, List.length_map, List.length_take, toList_len] at this
        omega
      have HPN := Lib.hid hpn
      have n9 := hB.out.cell 9 (u := V) rfl
      have ln := hB.out.lt
      have hjj : IntKind.i64.wrap ((j : Int) + 1) = (j : Int) + 1 := (upl_small (by omega)).2
      have hjj2 : wrap64 ((j : Int) + 1) = (j : Int) + 1 := (upl_small (by omega)).1
      have J1 := Lib.hid hjj
      have J2 := Lib.hid hjj2
      clear hx hlt hpn hjj hjj2
      go_wp2_with fail
      (refine wp_region_f [9] (InX (fun k => some k = V.ownBlock) _) (by kernel_rfl) (InX.mk (Keep.drew (Keep.refl _ _))) (fun hI => ?_))
      have xx : ¬ some w2.heap.size = V.ownBlock := HNX.out
      have hK0 : Keep Nb wr wr.drew := (Keep.refl _ _).drew
      generalize wr.drew = x0 at hK0 hI ⊢
      (refine wpF_take2 (v := ?_) 0 rfl (by kernel_rfl) (fun _ _ _ h => h) hI rfl ?_ ?_; rotate_left; (focus (rintro _ ⟨E, rfl⟩; go_simp; (try with_reducible rfl))); simp only [Act.put, tk])
      (refine wpF_take2 (v := ?_) 1 rfl (by kernel_rfl) (fun _ _ _ h => h) hI rfl ?_ ?_; rotate_left; (focus (rintro _ ⟨E, rfl⟩; go_simp; (try with_reducible rfl))); simp only [Act.put, tk])
      (refine wpF_take2 (v := ?_) 2 rfl (by kernel_rfl) (fun _ _ _ h => h) hI rfl ?_ ?_; rotate_left; (focus (rintro _ ⟨E, rfl⟩; go_simp; (try with_reducible rfl))); simp only [Act.put, tk])
      (refine wpF_take2 (v := ?_) 3 rfl (by kernel_rfl) (fun _ _ _ h => h) hI rfl ?_ ?_; rotate_left; (focus (rintro _ ⟨E, rfl⟩; go_simp; (try with_reducible rfl))); simp only [Act.put, tk])
      (refine wpF_take2 (v := ?_) 4 rfl (by kernel_rfl) (fun _ _ _ h => h) hI rfl ?_ ?_; rotate_left; (focus (rintro _ ⟨E, rfl⟩; go_simp; (try with_reducible rfl))); simp only [Act.put, tk])
      (refine wpF_take2 (v := ?_) 5 rfl (by kernel_rfl) (fun _ _ _ h => h) hI rfl ?_ ?_; rotate_left; (focus (rintro _ ⟨E, rfl⟩; go_simp; (try with_reducible rfl))); simp only [Act.put, tk])
      (refine wpF_one 6 rfl (by kernel_rfl) rfl (fun K hK => ?_))
      go_simp
      refine (fun (H : ∀ y, y = x0.alloc (.cells #[.int .i64 1, .int .u8 (x.toNat : Int), .int .u64 0, .int .u64 0, .int .u64 0, .int .u64 0, .int .i64 0, .int .i64 0, .int .i64 0, .slice none 0 0] 27) → K _ y) => H _ rfl) ?_
      intro x1 hx1
      have K1 := Lib.hid (show Keep Nb wr x1 from hx1 ▸ Keep.alloc hK0 _)
      have hbl : Blk x1 x0.heap.size (Nd.row (litN x) (.slice none 0 0)) 27 := hx1 ▸ Blk.new x0 _ _
      have hsx : x1.heap.size = x0.heap.size + 1 := by rw [hx1]; simp
      have HL1 := Lib.hid (one_lies (Ok := fun _ => True) hbl trivial (lit_lies _ _ x))
      have HO1 := Lib.hid (ownsRow_keep hown.out K1.out (fun _ _ h => h))
      have HBS := Lib.hid (show w2.heap.size + 1 ≤ x1.heap.size by have := HSZ.out; have := hK0.size; omega)
      have KX1 := Lib.hid (K1.out.mono (Y := fun k => some k = V.ownBlock) (fun _ _ h => h.elim))
      clear hbl hx1 hsx
      (refine hK _ _ (fun _ => InX.mk KX1.out) (fun hI => ?_); have hI := hI (by simp); clear hK K; try simp only [Act.put, tk])
      (refine wpF_one 7 rfl (by kernel_rfl) rfl (fun K hK => ?_))
      refine wp_append_nodes _ _ 25 rfl (w2.heap.size + 1) 27 i0 _ Try.underlying25 hi0.out hz0.out hz1.out hz2.out rfl V ps.length ps rfl HO1.out (some ⟨x0.heap.size, 0, none⟩) [litN x] 1 rfl HL1.out (by rw [HPN.out]; have := HJ.out; have := H1.out; simp; omega) HBS.out ?_
      intro V' x2 qs g1 g2 g3 g4 g5
      have KX2 := Lib.hid (KX1.out.trans (Keep.of_grown g4) (fun b hb h => h.symm ▸ rfl))
      have KN2 := Lib.hid (show Keep (fun k => some k = V.ownBlock) wr x2 from KX2.out)
      have G1 := Lib.hid g1
      have G2 := Lib.hid g2
      have G3 := Lib.hid g3
      have G5 := Lib.hid g5
      clear g1 g2 g3 g4 g5
      (refine hK _ _ (fun _ => InX.mk KX2.out) (fun hI => ?_); have hI := hI (by simp); clear hK K; try simp only [Act.put, tk])
      (refine wpF_take2 (v := ?_) 8 rfl (by kernel_rfl) (fun _ _ _ h => h) hI rfl ?_ ?_; rotate_left; (focus (rintro _ ⟨E, rfl⟩; go_simp; (try with_reducible rfl))); simp only [Act.put, tk])
      (refine wpF_one 9 rfl (by kernel_rfl) rfl (fun K hK => ?_))
      have hB2 := hB.out.keep KX2.out HNX.out
      have c9 := hB2.cell 9 (u := V) rfl
      have e9 := hB2.frozen 9
      have l9 := hB2.lt
      have B3 := Lib.hid (hB2.set 9 V')
      have KN3 := Lib.hid (Keep.setCell (X := fun k => some k = V.ownBlock ∨ k = w2.heap.size) (p := ⟨w2.heap.size, 9, none⟩) (KX2.out.mono (fun _ _ h => Or.inl h)) (Or.inr (Or.inr rfl)) V')
      have W3 := Lib.hid (ownsRow_keep (X := fun k => k = w2.heap.size) G3.out (Keep.setCell (X := fun k => k = w2.heap.size) (a := x2) (p := ⟨w2.heap.size, 9, none⟩) (Keep.refl _ _) (Or.inr rfl) V') (fun g hg h => by have := (G3.out.lt g hg).1; omega))
      obtain ⟨vA, vl, vc, hV'⟩ : ∃ vA vl vc, V' = .slice vA vl vc := owns_slice G3.out
      subst hV'
      go_simp
      generalize x2.setCell ⟨w2.heap.size, 9, none⟩ (.slice vA vl vc) = x3 at B3 KN3 W3 ⊢
      (refine hK _ _ (fun h => absurd (by simp) h) (fun _ => ?_); clear hK K; try simp only [Act.put, tk])
      (refine wpF_done (by kernel_rfl) ?_ _)
      have j1 := J1.out
      have j2 := J2.out
      clear n9 ln c9 e9 l9 b0 e0' g1 g2 i1 i0'
      go_wp2_with fail
      go_roundw
      case rel =>
        refine ⟨j + 1, .slice vA vl vc, ps ++ qs, by go_num, HJ, Lib.hid ?_, Lib.hid (fun p hp => ?_), Lib.hid ?_, Lib.hid (Blk.cong B3.out rfl), Lib.hid ?_⟩
        · rw [List.map_append, hps.out, G1.out, take_more HX.out, List.map_append]
          rfl
        · rcases List.mem_append.1 hp with hp | hp
          · exact lits_any hps.out hp (hpl.out p hp)
          · exact lits_one G1.out hp (G2.out p hp)
        · have hqn := congrArg List.length G1.out
          rw [List.length_map] at hqn
          rw [List.length_append, hqn]
          exact W3.out
        · exact hKr.out.trans KN3.out (fun b hb h => by
            rcases h with h | h
            · have := (hown.out.lt b h.symm).1; omega
            · omega)
      case measure => exact lit_meas HJ.out
    · have hj2 : j = U.size := by have := hj.out; omega
      subst hj2
      have hpn : ps.length = U.size := by
        have := congrArg List.length hps.out
        rw [List.length_map, List.length_map, List.length_take, toList_len] at this
        omega
      obtain ⟨A4, c4, hAe, hc1, hc2, hLL⟩ := LiesPL_owns (Ok := fun _ => True) hown.out hpl.out (fun g hg => trivial)
      rw [hps.out, show U.toList.take U.size = U.toList from by rw [← toList_len, List.take_length]] at hLL
      have hsl : (seqN U.toList).l.length = U.size := by rw [seqN, Nd.l, List.length_map, toList_len]
      have HLr := Lib.hid (show Lies wr (seqN U.toList) (.slice A4 (seqN U.toList).l.length c4) from by
        unfold seqN
        rw [Lies_mk]
        exact ⟨A4, c4, rfl, by rw [List.length_map, toList_len]; omega, hc2, hLL⟩)
      rw [hpn] at hAe
      have hVe : V = .slice A4 (seqN U.toList).l.length c4 := by rw [hsl]; exact hAe
      subst hVe
      have g1 : decide ((U.size : Int) < (U.size : Int)) = false := by simp
      have hbn := hB.out
      have o0 := hbn.cell 0 (u := .int .i64 8) rfl
      have o1 := hbn.cell 1 (u := .int .u8 0) rfl
      have o2 := hbn.cell 2 (u := .int .u64 0) rfl
      have o3 := hbn.cell 3 (u := .int .u64 0) rfl
      have o4 := hbn.cell 4 (u := .int .u64 0) rfl
      have o5 := hbn.cell 5 (u := .int .u64 0) rfl
      have o6 := hbn.cell 6 (u := .int .i64 0) rfl
      have o7 := hbn.cell 7 (u := .int .i64 0) rfl
      have o8 := hbn.cell 8 (u := .int .i64 0) rfl
      have o9 := hbn.cell 9 (u := .slice A4 (seqN U.toList).l.length c4) rfl
      have ln := hbn.lt
      have HTX := Lib.hid (HTH.out (.slice A4 (seqN U.toList).l.length c4) wr HLr.out)
      rw [show Nd.row (seqN U.toList) (.slice A4 (seqN U.toList).l.length c4) = #[.int .i64 8, .int .u8 0, .int .u64 0, .int .u64 0, .int .u64 0, .int .u64 0, .int .i64 0, .int .i64 0, .int .i64 0, .slice A4 (seqN U.toList).l.length c4] from rfl] at HTX
      clear hAe hLL hbn hlt hpn hsl
      go_wp2_with fail
      refine HTX.out.mono ?_
      rintro e w4 ⟨S1, rfl, hB1, hk4⟩
      obtain ⟨A1, n1, rfl, _⟩ := LiesP_def.1 hB1
      have hl4 := LiesP_all hB1
      have HK := Lib.hid (hk2.trans (hKr.out.trans hk4 (fun _ _ h => h)) (fun _ _ h => h))
      clear hB1 hk4 HTX o0 o1 o2 o3 o4 o5 o6 o7 o8 o9 ln hc1 hc2
      go_wp2_with fail
      refine (HF.out A1 n1 _ hl4).mono ?_
      rintro e w5 ⟨rfl, hk5⟩
      have HK := Lib.hid (HK.out.trans hk5 (fun _ _ h => h))
      clear hl4 hk5
      have z0 : Blk (w5.alloc (.cells #[.complex .f64 0 0, .complex .f64 0 0, .complex .f64 0 0, .complex .f64 0 0, .complex .f64 0 0, .complex .f64 0 0, .complex .f64 0 0, .complex .f64 0 0, .complex .f64 0 0, .complex .f64 0 0, .complex .f64 0 0, .bool false, .bool false, .bool false, .bool false, .bool false, .bool false, .bool false, .bool false, .bool false, .bool false, .int .i64 0] 49)) w5.heap.size #[.complex .f64 0 0, .complex .f64 0 0, .complex .f64 0 0, .complex .f64 0 0, .complex .f64 0 0, .complex .f64 0 0, .complex .f64 0 0, .complex .f64 0 0, .complex .f64 0 0, .complex .f64 0 0, .complex .f64 0 0, .bool false, .bool false, .bool false, .bool false, .bool false, .bool false, .bool false, .bool false, .bool false, .bool false, .int .i64 0] 49 := Blk.new w5 _ _
      have z1 : Blk ((w5.alloc (.cells #[.complex .f64 0 0, .complex .f64 0 0, .complex .f64 0 0, .complex .f64 0 0, .complex .f64 0 0, .complex .f64 0 0, .complex .f64 0 0, .complex .f64 0 0, .complex .f64 0 0, .complex .f64 0 0, .complex .f64 0 0, .bool false, .bool false, .bool false, .bool false, .bool false, .bool false, .bool false, .bool false, .bool false, .bool false, .int .i64 0] 49)).setRow w5.heap.size cs) w5.heap.size cs 49 := z0.setRow _
      have k1 : Keep Nb w5 ((w5.alloc (.cells #[.complex .f64 0 0, .complex .f64 0 0, .complex .f64 0 0, .complex .f64 0 0, .complex .f64 0 0, .complex .f64 0 0, .complex .f64 0 0, .complex .f64 0 0, .complex .f64 0 0, .complex .f64 0 0, .complex .f64 0 0, .bool false, .bool false, .bool false, .bool false, .bool false, .bool false, .bool false, .bool false, .bool false, .bool false, .int .i64 0] 49)).setRow w5.heap.size cs) := Keep.setRow (Keep.alloc (Keep.refl _ _) _) (Or.inl (Nat.le_refl _)) _
      have HZ0 := Lib.hid z0
      have HZ1 := Lib.hid z1
      have HK := Lib.hid (HK.out.trans k1 (fun _ _ h => h))
      clear z0 z1 k1
      go_upto_region 10 with (refine wpList_store_row rfl 49 (.tmp 7) (.tmp 50) rfl w5.heap.size cs rfl rfl 49 _ HZ0.out (by rw [hsz.out]; exact sizeFo) (by rw [hsz.out]; rfl) hone.out ?_)
      generalize (w5.alloc (.cells #[.complex .f64 0 0, .complex .f64 0 0, .complex .f64 0 0, .complex .f64 0 0, .complex .f64 0 0, .complex .f64 0 0, .complex .f64 0 0, .complex .f64 0 0, .complex .f64 0 0, .complex .f64 0 0, .complex .f64 0 0, .bool false, .bool false, .bool false, .bool false, .bool false, .bool false, .bool false, .bool false, .bool false, .bool false, .int .i64 0] 49)).setRow w5.heap.size cs = w6 at HZ1 HK ⊢
      generalize w5.heap.size = pf at HZ1 ⊢
      have b0 := HZ1.out.cell 0 e0.out
      have lb := HZ1.out.lt
      go_wp2_with fail
      go_loopw [10] (fun o wr => ∃ i : Nat, o = .int .i64 (i : Int) ∧ Hid (i ≤ T.size + 1) ∧ wr = w6) (fun o _ => T.size + 2 - (intOf o).toNat)
      case atStart => exact ⟨0, rfl, Lib.hid (Nat.zero_le _), rfl⟩
      case round =>
        obtain ⟨i, rfl, hi, rfl⟩ := hrel
        by_cases hle : i + U.size ≤ T.size
        · obtain ⟨m2, hm2⟩ : ∃ m2, T.size = i + m2 := ⟨T.size - i, by omega⟩
          have g7 : decide ((U.size : Int) ≤ (m2 : Int)) = true := by simp; omega
          have g8 : decide (U.size ≤ m2) = true := by simp; omega
          have W0 := Lib.hid (show wrap64 ((T.size : Int) - (i : Int)) = (m2 : Int) from lit_w0 hm2 (by have := H3T.out; omega))
          have W1 := Lib.hid (show wrap64 ((i : Int) + (U.size : Int)) = (i : Int) + (U.size : Int) from lit_w1 (show i + U.size ≤ 3000 by have := H3T.out; have := H1.out; omega))
          clear hm2
          have j0 : (0 : Int) ≤ (i : Int) := by omega
          have j1 : (i : Int) ≤ (i : Int) + (U.size : Int) := by omega
          have j2 : (i : Int) + (U.size : Int) ≤ (T.size : Int) := by omega
          have j3 : (0 : Int) ≤ (i : Int) + (U.size : Int) := by omega
          have hx : (T.extract i (i + U.size)).toList = (T.toList.drop i).take U.toList.length := by rw [ext_toList, toList_len, show i + U.size - i = U.size by omega]
          have hs : ((T.extract i (i + U.size)).toList == U.toList) = false := by rw [hx]; exact beq_eq_false_iff_ne.2 (HNO.out i hle)
          have hi3 : i ≤ 3000 := by have := H3T.out; omega
          have HW1 := Lib.hid (upl_small hi3).1
          have HW9 := Lib.hid (upl_small hi3).2
          have HLT := Lib.hid (show i + 1 ≤ T.size + 1 by omega)
          have HLE := Lib.hid (show i ≤ T.size by omega)
          have HSS := Lib.hid hs
          clear hx hle hi3 hs
          have w0' := W0.out
          go_upto_region 15 with fail
          clear w0' g7 g8
          have hs := HSS.out
          have w1' := W1.out
          have hw1 := HW1.out
          have hw9 := HW9.out
          go_wp2_with fail
          go_roundw
          case rel => exact ⟨i + 1, by first | rfl | (rw [hw1]; rfl) | go_num, HLT, trivial⟩
          case measure => first | exact lit_meas2 HLE.out | (rw [hw1]; exact lit_meas2 HLE.out)
        · have g7 : decide ((U.size : Int) ≤ (T.size : Int) - (i : Int)) = false := by simp; omega
          have w0' : wrap64 ((T.size : Int) - (i : Int)) = (T.size : Int) - (i : Int) := lit_w2 (by have := hi.out; have := H3T.out; omega) H3T.out
          clear hle
          go_wp2_with fail
          go_ret
          exact ⟨rfl, HK.out⟩

set_option maxRecDepth 100000 in
set_option maxHeartbeats 4000000 in
theorem litl_found (U T : ByteArray) (w : World) (h1 : U.size ≤ 100) (h2 : 2 ≤ U.size) (h3 : T.size ≤ 600) (cs : Array Value) (hsz : Hid (cs.size = 22)) (hone : Hid (cs.all (·.oneCell') = true)) (X Y : Nat) (e0 : Hid (cs[0]? = some (.complex .f64 X Y))) (i9 : Nat) (hi9 : i9 + U.size ≤ T.size) (hx9 : X = F i9) (hy9 : Y = F (i9 + U.size)) (hat : AtP T.toList i9 U.toList) (hno : ∀ j, j < i9 → ¬ AtP T.toList j U.toList) (qx : Op.floatEq .f64 X X = true) (qy : Op.floatEq .f64 Y Y = true) (hv : findV (seqN U.toList) T 0 false = .tuple #[.agg cs, .bool true, .int .i64 0]) :
    Calls Try.prog 10 #[.string U, .string T] w fun e w' => e = .returned (.bool true) ∧ Keep Nb w w' := by
  have m1 : decide (100 < (U.size : Int)) = false := by simp; omega
  have m2 : decide (100 < U.size) = false := by simp; omega
  have m3 : decide ((U.size : Int) < 2) = false := by simp; omega
  have m4 : decide (U.size < 2) = false := by simp; omega
  have m5 : decide (600 < (T.size : Int)) = false := by simp; omega
  have m6 : decide (600 < T.size) = false := by simp; omega
  have hcn : count (seqN U.toList) ≤ 101 := by unfold seqN; rw [Go.Proofs.Ytkidjbfapldmbaa.P8.count, count_lits, toList_len]; omega
  have hF := fun A1 n1 wx hx => find_any (seqN U.toList) (by omega) A1 n1 T 0 false wx hx
  rw [hv] at hF
  have HF := Lib.hid hF
  have HTH := Lib.hid (fun v1 wx hx => theirs_any 400 (by omega) (seqN U.toList) (by omega) v1 wx hx)
  obtain ⟨i0, gi0, gz0, gz1, gz2⟩ := info_parts info27
  have hi0 := Lib.hid gi0
  have hz0 := Lib.hid gz0
  have hz1 := Lib.hid gz1
  have hz2 := Lib.hid gz2
  clear gi0 gz0 gz1 gz2
  have H1 := Lib.hid h1
  have H3T := Lib.hid h3
  clear hF hv hcn
  have q1 : (FloatKind.f64.format.order X X == some .eq) = true := qx
  have q2 : (FloatKind.f64.format.order Y Y == some .eq) = true := qy
  have HNO := Lib.hid hno
  have HAT := Lib.hid hat
  have HI9 := Lib.hid hi9
  subst hx9
  subst hy9
  clear hno hat hi9 qx qy
  go_enter Try.func10, Try.ntmps10
  go_wp2_with fail
  refine (awake12 _).mono ?_
  rintro e w2 ⟨rfl, hk2⟩
  have bn : Blk (w2.alloc (.cells #[.int .i64 8, .int .u8 0, .int .u64 0, .int .u64 0, .int .u64 0, .int .u64 0, .int .i64 0, .int .i64 0, .int .i64 0, .slice none 0 0] 27)) w2.heap.size #[.int .i64 8, .int .u8 0, .int .u64 0, .int .u64 0, .int .u64 0, .int .u64 0, .int .i64 0, .int .i64 0, .int .i64 0, .slice none 0 0] 27 := Blk.new w2 _ _
  have kn : Keep Nb w2 (w2.alloc (.cells #[.int .i64 8, .int .u8 0, .int .u64 0, .int .u64 0, .int .u64 0, .int .u64 0, .int .i64 0, .int .i64 0, .int .i64 0, .slice none 0 0] 27)) := Keep.alloc (Keep.refl _ _) _
  have BN := Lib.hid bn
  have KN := Lib.hid kn
  clear bn kn
  go_wp2_with fail
  generalize w2.alloc (.cells #[.int .i64 8, .int .u8 0, .int .u64 0, .int .u64 0, .int .u64 0, .int .u64 0, .int .i64 0, .int .i64 0, .int .i64 0, .slice none 0 0] 27) = w3 at BN KN ⊢
  clear m1 m2 m3 m4 m5 m6
  go_loopw [32] (fun i wr => ∃ (j : Nat) (V : Value) (ps : List (Nd × Value)), i = .int .i64 (j : Int) ∧ Hid (j ≤ U.size) ∧ Hid (ps.map (·.1) = (U.toList.take j).map litN) ∧ Hid (∀ p ∈ ps, LiesP (fun _ => True) wr p.1 p.2) ∧ Hid (wr.ownsRow (w2.heap.size + 1) 27 10 V ps.length (rowsOf ps)) ∧ Hid (Blk wr w2.heap.size #[.int .i64 8, .int .u8 0, .int .u64 0, .int .u64 0, .int .u64 0, .int .u64 0, .int .i64 0, .int .i64 0, .int .i64 0, V] 27) ∧ Hid (Keep Nb w2 wr)) (fun i _ => U.size - (intOf i).toNat)
  case atStart => exact ⟨0, .slice none 0 0, [], rfl, Lib.hid (Nat.zero_le _), Lib.hid rfl, Lib.hid (by simp), Lib.hid (World.ownsRow_nil _ _ _ _), BN, KN⟩
  case round =>
    obtain ⟨j, V, ps, rfl, hj, hps, hpl, hown, hB, hKr⟩ := hrel
    have HNX := Lib.hid (show ¬ some w2.heap.size = V.ownBlock from fun h => by have := (hown.out.lt _ h.symm).1; omega)
    have HSZ := Lib.hid hB.out.lt
    by_cases hlt : j < U.size
    · have g1 : decide ((j : Int) < (U.size : Int)) = true := by simp; omega
      have g2 : decide (j < U.size) = true := by simp; omega
      have i1 : (j : Int) < (U.size : Int) := by omega
      have i0' : (0 : Int) ≤ (j : Int) := by omega
      obtain ⟨x, hx⟩ : ∃ x, U.toList[j]? = some x := ⟨_, List.getElem?_eq_getElem (by rw [toList_len]; omega)⟩
      obtain ⟨b0, e0'⟩ := byte_at hx
      have HX := Lib.hid hx
      have HJ := Lib.hid hlt
      have hpn : ps.length = j := by
        have := congrArg List.length hps.out
        rw [List.length_map, List.length_map, List.length_take, toList_len] at this
        omega
      have HPN := Lib.hid hpn
      have n9 := hB.out.cell 9 (u := V) rfl
      have ln := hB.out.lt
      have hjj : IntKind.i64.wrap ((j : Int) + 1) = (j : Int) + 1 := (upl_small (by omega)).2
      have hjj2 : wrap64 ((j : Int) + 1) = (j : Int) + 1 := (upl_small (by omega)).1
      have J1 := Lib.hid hjj
      have J2 := Lib.hid hjj2
      clear hx hlt hpn hjj hjj2
      go_wp2_with fail
      (refine wp_region_f [9] (InX (fun k => some k = V.ownBlock) _) (by kernel_rfl) (InX.mk (Keep.drew (Keep.refl _ _))) (fun hI => ?_))
      have xx : ¬ some w2.heap.size = V.ownBlock := HNX.out
      have hK0 : Keep Nb wr wr.drew := (Keep.refl _ _).drew
      generalize wr.drew = x0 at hK0 hI ⊢
      (refine wpF_take2 (v := ?_) 0 rfl (by kernel_rfl) (fun _ _ _ h => h) hI rfl ?_ ?_; rotate_left; (focus (rintro _ ⟨E, rfl⟩; go_simp; (try with_reducible rfl))); simp only [Act.put, tk])
      (refine wpF_take2 (v := ?_) 1 rfl (by kernel_rfl) (fun _ _ _ h => h) hI rfl ?_ ?_; rotate_left; (focus (rintro _ ⟨E, rfl⟩; go_simp; (try with_reducible rfl))); simp only [Act.put, tk])
      (refine wpF_take2 (v := ?_) 2 rfl (by kernel_rfl) (fun _ _ _ h => h) hI rfl ?_ ?_; rotate_left; (focus (rintro _ ⟨E, rfl⟩; go_simp; (try with_reducible rfl))); simp only [Act.put, tk])
      (refine wpF_take2 (v := ?_) 3 rfl (by kernel_rfl) (fun _ _ _ h => h) hI rfl ?_ ?_; rotate_left; (focus (rintro _ ⟨E, rfl⟩; go_simp; (try with_reducible rfl))); simp only [Act.put, tk])
      (refine wpF_take2 (v := ?_) 4 rfl (by kernel_rfl) (fun _ _ _ h => h) hI rfl ?_ ?_; rotate_left; (focus (rintro _ ⟨E, rfl⟩; go_simp; (try with_reducible rfl))); simp only [Act.put, tk])
      (refine wpF_take2 (v := ?_) 5 rfl (by kernel_rfl) (fun _ _ _ h => h) hI rfl ?_ ?_; rotate_left; (focus (rintro _ ⟨E, rfl⟩; go_simp; (try with_reducible rfl))); simp only [Act.put, tk])
      (refine wpF_one 6 rfl (by kernel_rfl) rfl (fun K hK => ?_))
      go_simp
      refine (fun (H : ∀ y, y = x0.alloc (.cells #[.int .i64 1, .int .u8 (x.toNat : Int), .int .u64 0, .int .u64 0, .int .u64 0, .int .u64 0, .int .i64 0, .int .i64 0, .int .i64 0, .slice none 0 0] 27) → K _ y) => H _ rfl) ?_
      intro x1 hx1
      have K1 := Lib.hid (show Keep Nb wr x1 from hx1 ▸ Keep.alloc hK0 _)
      have hbl : Blk x1 x0.heap.size (Nd.row (litN x) (.slice none 0 0)) 27 := hx1 ▸ Blk.new x0 _ _
      have hsx : x1.heap.size = x0.heap.size + 1 := by rw [hx1]; simp
      have HL1 := Lib.hid (one_lies (Ok := fun _ => True) hbl trivial (lit_lies _ _ x))
      have HO1 := Lib.hid (ownsRow_keep hown.out K1.out (fun _ _ h => h))
      have HBS := Lib.hid (show w2.heap.size + 1 ≤ x1.heap.size by have := HSZ.out; have := hK0.size; omega)
      have KX1 := Lib.hid (K1.out.mono (Y := fun k => some k = V.ownBlock) (fun _ _ h => h.elim))
      clear hbl hx1 hsx
      (refine hK _ _ (fun _ => InX.mk KX1.out) (fun hI => ?_); have hI := hI (by simp); clear hK K; try simp only [Act.put, tk])
      (refine wpF_one 7 rfl (by kernel_rfl) rfl (fun K hK => ?_))
      refine wp_append_nodes _ _ 25 rfl (w2.heap.size + 1) 27 i0 _ Try.underlying25 hi0.out hz0.out hz1.out hz2.out rfl V ps.length ps rfl HO1.out (some ⟨x0.heap.size, 0, none⟩) [litN x] 1 rfl HL1.out (by rw [HPN.out]; have := HJ.out; have := H1.out; simp; omega) HBS.out ?_
      intro V' x2 qs g1 g2 g3 g4 g5
      have KX2 := Lib.hid (KX1.out.trans (Keep.of_grown g4) (fun b hb h => h.symm ▸ rfl))
      have KN2 := Lib.hid (show Keep (fun k => some k = V.ownBlock) wr x2 from KX2.out)
      have G1 := Lib.hid g1
      have G2 := Lib.hid g2
      have G3 := Lib.hid g3
      have G5 := Lib.hid g5
      clear g1 g2 g3 g4 g5
      (refine hK _ _ (fun _ => InX.mk KX2.out) (fun hI => ?_); have hI := hI (by simp); clear hK K; try simp only [Act.put, tk])
      (refine wpF_take2 (v := ?_) 8 rfl (by kernel_rfl) (fun _ _ _ h => h) hI rfl ?_ ?_; rotate_left; (focus (rintro _ ⟨E, rfl⟩; go_simp; (try with_reducible rfl))); simp only [Act.put, tk])
      (refine wpF_one 9 rfl (by kernel_rfl) rfl (fun K hK => ?_))
      have hB2 := hB.out.keep KX2.out HNX.out
      have c9 := hB2.cell 9 (u := V) rfl
      have e9 := hB2.frozen 9
      have l9 := hB2.lt
      have B3 := Lib.hid (hB2.set 9 V')
      have KN3 := Lib.hid (Keep.setCell (X := fun k => some k = V.ownBlock ∨ k = w2.heap.size) (p := ⟨w2.heap.size, 9, none⟩) (KX2.out.mono (fun _ _ h => Or.inl h)) (Or.inr (Or.inr rfl)) V')
      have W3 := Lib.hid (ownsRow_keep (X := fun k => k = w2.heap.size) G3.out (Keep.setCell (X := fun k => k = w2.heap.size) (a := x2) (p := ⟨w2.heap.size, 9, none⟩) (Keep.refl _ _) (Or.inr rfl) V') (fun g hg h => by have := (G3.out.lt g hg).1; omega))
      obtain ⟨vA, vl, vc, hV'⟩ : ∃ vA vl vc, V' = .slice vA vl vc := owns_slice G3.out
      subst hV'
      go_simp
      generalize x2.setCell ⟨w2.heap.size, 9, none⟩ (.slice vA vl vc) = x3 at B3 KN3 W3 ⊢
      (refine hK _ _ (fun h => absurd (by simp) h) (fun _ => ?_); clear hK K; try simp only [Act.put, tk])
      (refine wpF_done (by kernel_rfl) ?_ _)
      have j1 := J1.out
      have j2 := J2.out
      clear n9 ln c9 e9 l9 b0 e0' g1 g2 i1 i0'
      go_wp2_with fail
      go_roundw
      case rel =>
        refine ⟨j + 1, .slice vA vl vc, ps ++ qs, by go_num, HJ, Lib.hid ?_, Lib.hid (fun p hp => ?_), Lib.hid ?_, Lib.hid (Blk.cong B3.out rfl), Lib.hid ?_⟩
        · rw [List.map_append, hps.out, G1.out, take_more HX.out, List.map_append]
          rfl
        · rcases List.mem_append.1 hp with hp | hp
          · exact lits_any hps.out hp (hpl.out p hp)
          · exact lits_one G1.out hp (G2.out p hp)
        · have hqn := congrArg List.length G1.out
          rw [List.length_map] at hqn
          rw [List.length_append, hqn]
          exact W3.out
        · exact hKr.out.trans KN3.out (fun b hb h => by
            rcases h with h | h
            · have := (hown.out.lt b h.symm).1; omega
            · omega)
      case measure => exact lit_meas HJ.out
    · have hj2 : j = U.size := by have := hj.out; omega
      subst hj2
      have hpn : ps.length = U.size := by
        have := congrArg List.length hps.out
        rw [List.length_map, List.length_map, List.length_take, toList_len] at this
        omega
      obtain ⟨A4, c4, hAe, hc1, hc2, hLL⟩ := LiesPL_owns (Ok := fun _ => True) hown.out hpl.out (fun g hg => trivial)
      rw [hps.out, show U.toList.take U.size = U.toList from by rw [← toList_len, List.take_length]] at hLL
      have hsl : (seqN U.toList).l.length = U.size := by rw [seqN, Nd.l, List.length_map, toList_len]
      have HLr := Lib.hid (show Lies wr (seqN U.toList) (.slice A4 (seqN U.toList).l.length c4) from by
        unfold seqN
        rw [Lies_mk]
        exact ⟨A4, c4, rfl, by rw [List.length_map, toList_len]; omega, hc2, hLL⟩)
      rw [hpn] at hAe
      have hVe : V = .slice A4 (seqN U.toList).l.length c4 := by rw [hsl]; exact hAe
      subst hVe
      have g1 : decide ((U.size : Int) < (U.size : Int)) = false := by simp
      have hbn := hB.out
      have o0 := hbn.cell 0 (u := .int .i64 8) rfl
      have o1 := hbn.cell 1 (u := .int .u8 0) rfl
      have o2 := hbn.cell 2 (u := .int .u64 0) rfl
      have o3 := hbn.cell 3 (u := .int .u64 0) rfl
      have o4 := hbn.cell 4 (u := .int .u64 0) rfl
      have o5 := hbn.cell 5 (u := .int .u64 0) rfl
      have o6 := hbn.cell 6 (u := .int .i64 0) rfl
      have o7 := hbn.cell 7 (u := .int .i64 0) rfl
      have o8 := hbn.cell 8 (u := .int .i64 0) rfl
      have o9 := hbn.cell 9 (u := .slice A4 (seqN U.toList).l.length c4) rfl
      have ln := hbn.lt
      have HTX := Lib.hid (HTH.out (.slice A4 (seqN U.toList).l.length c4) wr HLr.out)
      rw [show Nd.row (seqN U.toList) (.slice A4 (seqN U.toList).l.length c4) = #[.int .i64 8, .int .u8 0, .int .u64 0, .int .u64 0, .int .u64 0, .int .u64 0, .int .i64 0, .int .i64 0, .int .i64 0, .slice A4 (seqN U.toList).l.length c4] from rfl] at HTX
      clear hAe hLL hbn hlt hpn hsl
      go_wp2_with fail
      refine HTX.out.mono ?_
      rintro e w4 ⟨S1, rfl, hB1, hk4⟩
      obtain ⟨A1, n1, rfl, _⟩ := LiesP_def.1 hB1
      have hl4 := LiesP_all hB1
      have HK := Lib.hid (hk2.trans (hKr.out.trans hk4 (fun _ _ h => h)) (fun _ _ h => h))
      clear hB1 hk4 HTX o0 o1 o2 o3 o4 o5 o6 o7 o8 o9 ln hc1 hc2
      go_wp2_with fail
      refine (HF.out A1 n1 _ hl4).mono ?_
      rintro e w5 ⟨rfl, hk5⟩
      have HK := Lib.hid (HK.out.trans hk5 (fun _ _ h => h))
      clear hl4 hk5
      have z0 : Blk (w5.alloc (.cells #[.complex .f64 0 0, .complex .f64 0 0, .complex .f64 0 0, .complex .f64 0 0, .complex .f64 0 0, .complex .f64 0 0, .complex .f64 0 0, .complex .f64 0 0, .complex .f64 0 0, .complex .f64 0 0, .complex .f64 0 0, .bool false, .bool false, .bool false, .bool false, .bool false, .bool false, .bool false, .bool false, .bool false, .bool false, .int .i64 0] 49)) w5.heap.size #[.complex .f64 0 0, .complex .f64 0 0, .complex .f64 0 0, .complex .f64 0 0, .complex .f64 0 0, .complex .f64 0 0, .complex .f64 0 0, .complex .f64 0 0, .complex .f64 0 0, .complex .f64 0 0, .complex .f64 0 0, .bool false, .bool false, .bool false, .bool false, .bool false, .bool false, .bool false, .bool false, .bool false, .bool false, .int .i64 0] 49 := Blk.new w5 _ _
      have z1 : Blk ((w5.alloc (.cells #[.complex .f64 0 0, .complex .f64 0 0, .complex .f64 0 0, .complex .f64 0 0, .complex .f64 0 0, .complex .f64 0 0, .complex .f64 0 0, .complex .f64 0 0, .complex .f64 0 0, .complex .f64 0 0, .complex .f64 0 0, .bool false, .bool false, .bool false, .bool false, .bool false, .bool false, .bool false, .bool false, .bool false, .bool false, .int .i64 0] 49)).setRow w5.heap.size cs) w5.heap.size cs 49 := z0.setRow _
      have k1 : Keep Nb w5 ((w5.alloc (.cells #[.complex .f64 0 0, .complex .f64 0 0, .complex .f64 0 0, .complex .f64 0 0, .complex .f64 0 0, .complex .f64 0 0, .complex .f64 0 0, .complex .f64 0 0, .complex .f64 0 0, .complex .f64 0 0, .complex .f64 0 0, .bool false, .bool false, .bool false, .bool false, .bool false, .bool false, .bool false, .bool false, .bool false, .bool false, .int .i64 0] 49)).setRow w5.heap.size cs) := Keep.setRow (Keep.alloc (Keep.refl _ _) _) (Or.inl (Nat.le_refl _)) _
      have HZ0 := Lib.hid z0
      have HZ1 := Lib.hid z1
      have HK := Lib.hid (HK.out.trans k1 (fun _ _ h => h))
      clear z0 z1 k1
      go_upto_region 10 with (refine wpList_store_row rfl 49 (.tmp 7) (.tmp 50) rfl w5.heap.size cs rfl rfl 49 _ HZ0.out (by rw [hsz.out]; exact sizeFo) (by rw [hsz.out]; rfl) hone.out ?_)
      generalize (w5.alloc (.cells #[.complex .f64 0 0, .complex .f64 0 0, .complex .f64 0 0, .complex .f64 0 0, .complex .f64 0 0, .complex .f64 0 0, .complex .f64 0 0, .complex .f64 0 0, .complex .f64 0 0, .complex .f64 0 0, .complex .f64 0 0, .bool false, .bool false, .bool false, .bool false, .bool false, .bool false, .bool false, .bool false, .bool false, .bool false, .int .i64 0] 49)).setRow w5.heap.size cs = w6 at HZ1 HK ⊢
      generalize w5.heap.size = pf at HZ1 ⊢
      have b0 := HZ1.out.cell 0 e0.out
      have lb := HZ1.out.lt
      go_wp2_with fail
      go_loopw [10] (fun o wr => ∃ i : Nat, o = .int .i64 (i : Int) ∧ Hid (i ≤ i9) ∧ wr = w6) (fun o _ => T.size + 2 - (intOf o).toNat)
      case atStart => exact ⟨0, rfl, Lib.hid (Nat.zero_le _), rfl⟩
      case round =>
        obtain ⟨i, rfl, hi, rfl⟩ := hrel
        have hle : i + U.size ≤ T.size := by have := hi.out; have := HI9.out; omega
        obtain ⟨m2, hm2⟩ : ∃ m2, T.size = i + m2 := ⟨T.size - i, by omega⟩
        have g7 : decide ((U.size : Int) ≤ (m2 : Int)) = true := by simp; omega
        have g8 : decide (U.size ≤ m2) = true := by simp; omega
        have W0 := Lib.hid (show wrap64 ((T.size : Int) - (i : Int)) = (m2 : Int) from lit_w0 hm2 (by have := H3T.out; omega))
        have W1 := Lib.hid (show wrap64 ((i : Int) + (U.size : Int)) = (i : Int) + (U.size : Int) from lit_w1 (show i + U.size ≤ 3000 by have := H3T.out; have := H1.out; omega))
        clear hm2
        by_cases hlt : i = i9
        · subst hlt
          have j0 : (0 : Int) ≤ (i : Int) := by omega
          have j1 : (i : Int) ≤ (i : Int) + (U.size : Int) := by omega
          have j2 : (i : Int) + (U.size : Int) ≤ (T.size : Int) := by omega
          have j3 : (0 : Int) ≤ (i : Int) + (U.size : Int) := by omega
          have hx : (T.extract i (i + U.size)).toList = (T.toList.drop i).take U.toList.length := by rw [ext_toList, toList_len, show i + U.size - i = U.size by omega]
          have hs : ((T.extract i (i + U.size)).toList == U.toList) = true := by rw [hx]; exact beq_iff_eq.2 HAT.out
          have HSS := Lib.hid hs
          have Q1 := Lib.hid q1
          have Q2 := Lib.hid q2
          clear q1 q2
          clear hx hle hs
          have w0' := W0.out
          go_upto_region 15 with fail
          clear w0' g7 g8
          have hs := HSS.out
          have w1' := W1.out
          go_upto_region 16 with fail
          clear hs j0 j1 j2 j3
          have f1 := F_of i
          have f2 := F_of (i + U.size)
          rw [show ((i + U.size : Nat) : Int) = (i : Int) + (U.size : Int) from rfl] at f2
          have q1 := Q1.out
          have q2 := Q2.out
          go_wp2_with fail
          go_ret
          exact ⟨by first | rfl | (rw [q1, q2]; rfl) | (simp only [q1, q2]; rfl) | simp [q1, q2], HK.out⟩
        · have hlt2 : i < i9 := by have := hi.out; omega
          have j0 : (0 : Int) ≤ (i : Int) := by omega
          have j1 : (i : Int) ≤ (i : Int) + (U.size : Int) := by omega
          have j2 : (i : Int) + (U.size : Int) ≤ (T.size : Int) := by omega
          have j3 : (0 : Int) ≤ (i : Int) + (U.size : Int) := by omega
          have hx : (T.extract i (i + U.size)).toList = (T.toList.drop i).take U.toList.length := by rw [ext_toList, toList_len, show i + U.size - i = U.size by omega]
          have hs : ((T.extract i (i + U.size)).toList == U.toList) = false := by rw [hx]; exact beq_eq_false_iff_ne.2 (HNO.out i hlt2)
          have hi3 : i ≤ 3000 := by have := H3T.out; omega
          have HW1 := Lib.hid (upl_small hi3).1
          have HW9 := Lib.hid (upl_small hi3).2
          have HLT := Lib.hid hlt2
          have HLE := Lib.hid (show i ≤ T.size by omega)
          have HSS := Lib.hid hs
          clear hx hle hlt hlt2 hi3 hs
          have w0' := W0.out
          go_upto_region 15 with fail
          clear w0' g7 g8
          have hs := HSS.out
          have w1' := W1.out
          have hw1 := HW1.out
          have hw9 := HW9.out
          go_wp2_with fail
          go_roundw
          case rel => exact ⟨i + 1, by first | rfl | (rw [hw1]; rfl) | go_num, HLT, trivial⟩
          case measure => first | exact lit_meas2 HLE.out | (rw [hw1]; exact lit_meas2 HLE.out)

theorem litl_any (U T : ByteArray) (w : World) :
    Calls Try.prog 10 #[.string U, .string T] w fun e w' => e = .returned (.bool true) ∧ Keep Nb w w' := by
  by_cases h1 : U.size ≤ 100
  · by_cases h2 : 2 ≤ U.size
    · by_cases h3 : T.size ≤ 600
      · have hfm : formedT (seqN U.toList) = true := seq_formed (by rw [toList_len]; exact h2) (by rw [toList_len]; exact h1)
        have h : formedT (seqN U.toList) = true ∧ T.size ≤ 600 ∧ (0 : Int) ≤ 0 ∧ (0 : Int) ≤ T.size := ⟨hfm, h3, Int.le_refl _, by omega⟩
        have hv : findV (seqN U.toList) T 0 false = findW (found T.toList false (seqN U.toList) (formed_ok h.1) (0 : Int).toNat) := by rw [findV, dif_pos h]
        obtain ⟨k, hk⟩ := found_spec T.toList false (seqN U.toList) (formed_ok h.1) (0 : Int).toNat
        have lo := lit_find T.toList false U.toList k _ _ _ _ hk rfl rfl (by rw [toList_len]; simp)
        generalize found T.toList false (seqN U.toList) (formed_ok h.1) (0 : Int).toNat = S at hv lo
        rw [toList_len, toList_len] at lo
        rcases lo with ho | ⟨ho, lo⟩
        · rw [findW, if_pos ho, zero_lit] at hv
          exact litl_12 U T w h1 h2 h3 _ (Lib.hid rfl) (Lib.hid (fLit_one _)) _ _ (Lib.hid rfl) hv
        · rw [findW, if_neg (by rw [ho]; simp), fLit_eq] at hv
          rcases lo with ⟨i, _, hb, hat, hno⟩ | ⟨hb, hno⟩
          · rw [hb] at hv
            have hle : i + U.size ≤ T.size := by
              have := congrArg List.length hat
              rw [List.length_take, List.length_drop, toList_len, toList_len] at this
              omega
            have c0 : bestC S 0 = some (i, i + U.size) := by rw [bestC, hb]; rfl
            exact litl_found U T w h1 h2 h3 _ (Lib.hid rfl) (Lib.hid (fLit_one S)) _ _ (Lib.hid (show (fLit S)[0]? = some (.complex .f64 (reV (bestC S 0)) (imV (bestC S 0))) from rfl)) i hle (by rw [c0]; rfl) (by rw [c0]; rfl) hat (fun j hj => hno j (Nat.zero_le _) hj)
              (by rw [c0]; exact (F_eq (by omega) (by omega)).trans (by simp)) (by rw [c0]; exact (F_eq (by omega) (by omega)).trans (by simp)) hv
          · rw [hb] at hv
            exact litl_none U T w h1 h2 h3 _ (Lib.hid rfl) (Lib.hid (fLit_one S)) _ _ (Lib.hid rfl) (fun j hj => hno j (Nat.zero_le _) (by omega)) hv
      · exact litl_long U T w h1 h2 (by omega)
    · exact litl_small U T w h1 (by omega)
  · exact litl_big U T w (by omega)

end Go.Proofs.Ytkidjbfapldmbaa
