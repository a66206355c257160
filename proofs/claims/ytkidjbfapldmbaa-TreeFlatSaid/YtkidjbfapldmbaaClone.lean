/- A tree is made anew: Clone. -/
import Derived.Test.YtkidjbfapldmbaaGrow
namespace Go.Proofs.Ytkidjbfapldmbaa
set_option linter.unusedVariables false
set_option linter.unusedSimpArgs false
open Go.RowKit P8
attribute [local go_sem ↓] Go.wp_at_zero Go.wp_at_succ

def CloneSaid (c : Nat) : Prop := ∀ (T : Nd) (_ : count T ≤ c) (v : Value) (w : World) (_ : Lies w T v),
    Calls Try.prog 81 #[.agg (Nd.row T v)] w fun e w' => ∃ S, e = .returned (.agg (Nd.row T S)) ∧ LiesP (fun b => w.heap.size ≤ b ∧ b < w'.heap.size) w' T S ∧ Keep Nb w w'

set_option maxRecDepth 100000 in
set_option maxHeartbeats 2000000 in
theorem clone_step (c : Nat) (hc : c ≤ 900000) (HI : Hid (CloneSaid c)) : CloneSaid (c + 1) := by
  intro T hd v w hl
  rw [Lies_def] at hl
  obtain ⟨A, cap, rfl, h1, h2, hL⟩ := hl
  have hlen : T.l.length ≤ 1000000 := by cases T; rw [count] at hd; have := countL_len ‹_›; simp only [Nd.l]; omega
  have hcl : countL T.l ≤ c := by cases T; rw [count] at hd; simp only [Nd.l]; omega
  have hL1 : LiesPL (fun b => b < w.heap.size) w A 0 T.l := LiesPL_mono (fun b _ _ _ hc => cell_lt hc) _ _ _ hL
  have HS := Lib.hid (fun wx (hx : LiesPL (fun b => b < w.heap.size) wx A 0 T.l) => sclone_any T.l hlen A cap wx hx)
  simp only [Nd.row]
  go_enter Try.func81, Try.ntmps81
  go_wp2_with fail
  refine (HS.out _ (LiesL_keep (by repeat (first | assumption | exact Keep.refl _ _ | refine Keep.alloc ?_ _ | refine Keep.drew ?_ | refine Keep.setCell ?_ (Or.inl (by simp)) _ | refine Keep.setRow ?_ (Or.inl (by simp)) _)) hL1)).mono ?_
  rintro e w2 ⟨V, qs, rfl, hqs, hql, hown, hk2⟩
  have hbx : Blk w2 w.heap.size (Nd.row T (.slice A T.l.length cap)) 33 := ((Blk.new w _ _).alloc _).keep hk2 id
  have hrs : Blk w2 (w.heap.size + 1) zeroNode 33 := (Blk.new' (by simp) _ _).keep hk2 id
  have hk2' : Keep Nb w w2 := Keep.trans (by repeat (first | assumption | exact Keep.refl _ _ | refine Keep.alloc ?_ _ | refine Keep.drew ?_ | refine Keep.setCell ?_ (Or.inl (by simp)) _ | refine Keep.setRow ?_ (Or.inl (by simp)) _)) hk2 (fun _ _ h => h)
  have hql2 : ∀ q ∈ qs, LiesP (fun b => b < w.heap.size) w2 q.1 q.2 := fun q hq => Lies_keep hk2 (hql q hq)
  rw [show ((w.alloc (.cells #[.int .i64 T.h.k, .int .u8 T.h.c, .int .u64 T.h.s0, .int .u64 T.h.s1, .int .u64 T.h.s2, .int .u64 T.h.s3, .int .i64 T.h.n, .int .i64 T.h.mn, .int .i64 T.h.mx, .slice A T.l.length cap] 33)).alloc (.cells #[.int .i64 0, .int .u8 0, .int .u64 0, .int .u64 0, .int .u64 0, .int .u64 0, .int .i64 0, .int .i64 0, .int .i64 0, .slice none 0 0] 33)).heap.size = w.heap.size + 2 by simp] at hown
  have hsz := hrs.lt
  clear hk2 hql HS
  (have o0 := Blk.cell hbx 0 (u := .int .i64 T.h.k) rfl; have o1 := Blk.cell hbx 1 (u := .int .u8 T.h.c) rfl; have o2 := Blk.cell hbx 2 (u := .int .u64 T.h.s0) rfl; have o3 := Blk.cell hbx 3 (u := .int .u64 T.h.s1) rfl; have o4 := Blk.cell hbx 4 (u := .int .u64 T.h.s2) rfl; have o5 := Blk.cell hbx 5 (u := .int .u64 T.h.s3) rfl; have o6 := Blk.cell hbx 6 (u := .int .i64 T.h.n) rfl; have o7 := Blk.cell hbx 7 (u := .int .i64 T.h.mn) rfl; have o8 := Blk.cell hbx 8 (u := .int .i64 T.h.mx) rfl; have o9 := Blk.cell hbx 9 (u := (.slice A T.l.length cap)) rfl)
  have o9f := hbx.frozen 9
  have hV : ∃ A2 c2, V = .slice A2 T.l.length c2 := by
    rcases hown.2 with ⟨rfl, h0⟩ | ⟨g, c, _, rfl, _⟩
    · exact ⟨none, 0, by rw [h0]⟩
    · exact ⟨_, _, rfl⟩
  obtain ⟨A2, c2, rfl⟩ := hV
  go_wp2_with fail
  generalize hVe : Value.slice A2 T.l.length c2 = V at hown ⊢
  have HVe := Lib.hid hVe; clear hVe
  have hb3 : Blk (w2.setCell ⟨w.heap.size, 9, none⟩ V) w.heap.size (Nd.row T V) 33 := hbx.set 9 V
  have hr3 : Blk (w2.setCell ⟨w.heap.size, 9, none⟩ V) (w.heap.size + 1) zeroNode 33 := hrs.setOther (by simp) _
  have hk3 : Keep Nb w (w2.setCell ⟨w.heap.size, 9, none⟩ V) := Keep.setCell hk2' (Or.inl (Nat.le_refl _)) _
  have hst : Keep (Ob w.heap.size) w2 (w2.setCell ⟨w.heap.size, 9, none⟩ V) := Keep.setOb _ _ _ _
  have ho3 := ownsRow_keep hown hst (fun k hk' => by have := (hown.lt k hk').1; simp only [Ob]; omega)
  have hq3 : ∀ q ∈ qs, LiesP (fun b => b < w.heap.size) (w2.setCell ⟨w.heap.size, 9, none⟩ V) q.1 q.2 := fun q hq => LiesP_keep hst (fun b hb h => by simp only [Ob] at h; omega) (hql2 q hq)
  clear o0 o1 o2 o3 o4 o5 o6 o7 o8 o9 o9f hbx hrs hk2' hown hql2 hst hsz
  generalize w2.setCell ⟨w.heap.size, 9, none⟩ V = w3 at hb3 hr3 hk3 ho3 hq3 ⊢
  go_loopw [11] (fun i wr => ∃ (j : Nat) (ps : List (Nd × Value)), j ≤ T.l.length ∧ i = .int .i64 j ∧ Hid (ps.map (·.1) = T.l) ∧
      Hid (∀ m q, ps[m]? = some q → m < j → LiesP (fun b => w.heap.size + 2 ≤ b ∧ b < wr.heap.size ∧ some b ≠ V.ownBlock) wr q.1 q.2) ∧
      Hid (∀ m q, ps[m]? = some q → j ≤ m → LiesP (fun b => b < w.heap.size) wr q.1 q.2) ∧
      wr.ownsRow (w.heap.size + 2) 33 10 V T.l.length (rowsOf ps) ∧ Blk wr w.heap.size (Nd.row T V) 33 ∧ Blk wr (w.heap.size + 1) zeroNode 33 ∧ Keep Nb w wr) (fun i _ => T.l.length - (intOf i).toNat)
  case atStart => exact ⟨0, qs, by omega, rfl, Lib.hid hqs, Lib.hid (fun m q _ h => by omega), Lib.hid (fun m q hq _ => hq3 q (List.mem_of_getElem? hq)), ho3, hb3, hr3, hk3⟩
  case round =>
    obtain ⟨j, ps, hj, rfl, hps, hnew, hold, hown, hbx, hrs, hk⟩ := hrel
    clear hb3 hr3 hk3 ho3 hq3
    have hpl : ps.length = T.l.length := by rw [← hps.out, List.length_map]
    by_cases hlt : j < T.l.length
    · obtain ⟨g, cap2, rfl, hg1, hg2⟩ := hown.form (by omega)
      have hjp : j < ps.length := by omega
      have hten := owns_ten hown j hjp
      have hth := owns_there hown j hjp
      have hxo := hold.out j ps[j] (List.getElem?_eq_getElem hjp) (Nat.le_refl _)
      have hx1 : T.l[j] = ps[j].1 := by simp only [← hps.out, List.getElem_map]
      have hcj := countL_get_le T.l j hlt
      rw [hx1] at hcj
      have hsm : ∀ S', (ps.set j (ps[j].1, S')).map (·.1) = T.l := fun S' => by
        rw [List.map_set, hps.out, ← hx1]; simp
      generalize ps[j] = q at hten hxo hcj hsm
      obtain ⟨x, S⟩ := q
      simp only [] at hten hxo hcj hsm
      have HSM := Lib.hid hsm; clear hsm
      obtain ⟨A3, n3, rfl, _⟩ := LiesP_def.1 hxo
      have HI2 := Lib.hid (HI.out x (by omega))
      have HX := Lib.hid hxo
      have HOW := Lib.hid hown
      have HTH := Lib.hid hth
      clear hxo hx1 hown hth
      obtain ⟨c0, c1, c2', c3, c4, c5, c6, c7, c8, c9, lt⟩ := hten
      (have o0 := Blk.cell hbx 0 (u := .int .i64 T.h.k) rfl; have o1 := Blk.cell hbx 1 (u := .int .u8 T.h.c) rfl; have o2 := Blk.cell hbx 2 (u := .int .u64 T.h.s0) rfl; have o3 := Blk.cell hbx 3 (u := .int .u64 T.h.s1) rfl; have o4 := Blk.cell hbx 4 (u := .int .u64 T.h.s2) rfl; have o5 := Blk.cell hbx 5 (u := .int .u64 T.h.s3) rfl; have o6 := Blk.cell hbx 6 (u := .int .i64 T.h.n) rfl; have o7 := Blk.cell hbx 7 (u := .int .i64 T.h.mn) rfl; have o8 := Blk.cell hbx 8 (u := .int .i64 T.h.mx) rfl; have o9 := Blk.cell hbx 9 (u := (.slice (some ⟨g, 0, none⟩) T.l.length cap2)) rfl)
      have sB := hbx.lt
      have hj0 : (0 : Int) ≤ (j : Int) := by omega
      have hj1 : (j : Int) < (T.l.length : Int) := by omega
      go_wp2_with fail
      (refine wp_region_f [10] (InX Nb _) (by kernel_rfl) (InX.mk (Keep.drew (Keep.refl _ _))) (fun hI => ?_))
      have xx : ∀ k, ¬ Nb k := fun _ h => h
      (refine wpF_take (v := ?_) 0 rfl (by kernel_rfl) (by kernel_rfl) (by kernel_rfl) (by kernel_rfl) (fun _ _ _ h => h) (by assumption) rfl ?_ ?_; rotate_left; (focus (rintro _ ⟨E, rfl⟩; go_simp; (try with_reducible rfl))); simp only [Act.put, List.getElem_toArray, List.getElem_cons_succ, List.getElem_cons_zero, List.setIfInBounds_toArray, List.set_cons_zero, List.set_cons_succ])
      (refine wpF_take (v := ?_) 1 rfl (by kernel_rfl) (by kernel_rfl) (by kernel_rfl) (by kernel_rfl) (fun _ _ _ h => h) (by assumption) rfl ?_ ?_; rotate_left; (focus (rintro _ ⟨E, rfl⟩; go_simp; (try with_reducible rfl))); simp only [Act.put, List.getElem_toArray, List.getElem_cons_succ, List.getElem_cons_zero, List.setIfInBounds_toArray, List.set_cons_zero, List.set_cons_succ])
      (refine wpF_take (v := ?_) 2 rfl (by kernel_rfl) (by kernel_rfl) (by kernel_rfl) (by kernel_rfl) (fun _ _ _ h => h) (by assumption) rfl ?_ ?_; rotate_left; (focus (rintro _ ⟨E, rfl⟩; go_simp; (try with_reducible rfl))); simp only [Act.put, List.getElem_toArray, List.getElem_cons_succ, List.getElem_cons_zero, List.setIfInBounds_toArray, List.set_cons_zero, List.set_cons_succ])
      (refine wpF_take (v := ?_) 3 rfl (by kernel_rfl) (by kernel_rfl) (by kernel_rfl) (by kernel_rfl) (fun _ _ _ h => h) (by assumption) rfl ?_ ?_; rotate_left; (focus (rintro _ ⟨E, rfl⟩; go_simp; (try with_reducible rfl))); simp only [Act.put, List.getElem_toArray, List.getElem_cons_succ, List.getElem_cons_zero, List.setIfInBounds_toArray, List.set_cons_zero, List.set_cons_succ])
      (refine wpF_take (v := ?_) 4 rfl (by kernel_rfl) (by kernel_rfl) (by kernel_rfl) (by kernel_rfl) (fun _ _ _ h => h) (by assumption) rfl ?_ ?_; rotate_left; (focus (rintro _ ⟨E, rfl⟩; go_simp; (try with_reducible rfl))); simp only [Act.put, List.getElem_toArray, List.getElem_cons_succ, List.getElem_cons_zero, List.setIfInBounds_toArray, List.set_cons_zero, List.set_cons_succ])
      (refine wpF_take (v := ?_) 5 rfl (by kernel_rfl) (by kernel_rfl) (by kernel_rfl) (by kernel_rfl) (fun _ _ _ h => h) (by assumption) rfl ?_ ?_; rotate_left; (focus (rintro _ ⟨E, rfl⟩; go_simp; (try with_reducible rfl))); simp only [Act.put, List.getElem_toArray, List.getElem_cons_succ, List.getElem_cons_zero, List.setIfInBounds_toArray, List.set_cons_zero, List.set_cons_succ])
      (refine wpF_take (v := ?_) 6 rfl (by kernel_rfl) (by kernel_rfl) (by kernel_rfl) (by kernel_rfl) (fun _ _ _ h => h) (by assumption) rfl ?_ ?_; rotate_left; (focus (rintro _ ⟨E, rfl⟩; go_simp; (try with_reducible rfl))); simp only [Act.put, List.getElem_toArray, List.getElem_cons_succ, List.getElem_cons_zero, List.setIfInBounds_toArray, List.set_cons_zero, List.set_cons_succ])
      (refine wpF_take (v := ?_) 7 rfl (by kernel_rfl) (by kernel_rfl) (by kernel_rfl) (by kernel_rfl) (fun _ _ _ h => h) (by assumption) rfl ?_ ?_; rotate_left; (focus (rintro _ ⟨E, rfl⟩; go_simp; (try with_reducible rfl))); simp only [Act.put, List.getElem_toArray, List.getElem_cons_succ, List.getElem_cons_zero, List.setIfInBounds_toArray, List.set_cons_zero, List.set_cons_succ])
      (refine wpF_one 8 rfl (by kernel_rfl) rfl (fun K hK => ?_))
      go_simp
      refine (HI2.out _ wr.drew (Lies_keep (Keep.drew (Keep.refl _ _)) (LiesP_all HX.out))).mono ?_
      rintro e w4 ⟨S', rfl, hS', hk4⟩
      obtain ⟨A4, n4, rfl, _⟩ := LiesP_def.1 hS'
      have hk4' : Keep Nb wr w4 := Keep.trans (by repeat (first | assumption | exact Keep.refl _ _ | refine Keep.alloc ?_ _ | refine Keep.drew ?_ | refine Keep.setCell ?_ (Or.inl (by simp)) _ | refine Keep.setRow ?_ (Or.inl (by simp)) _)) hk4 (fun _ _ h => h)
      have s4 := hk4'.size
      clear hk4
      simp only [Nd.row]
      (refine hK _ _ (fun _ => InX.mk hk4') (fun hI => ?_); have hI := hI (by simp); clear hK K; try simp only [Act.put, List.getElem_toArray, List.getElem_cons_succ, List.getElem_cons_zero, List.setIfInBounds_toArray, List.set_cons_zero, List.set_cons_succ])
      (refine wpF_take (v := ?_) 9 rfl (by kernel_rfl) (by kernel_rfl) (by kernel_rfl) (by kernel_rfl) (fun _ _ _ h => h) (by assumption) rfl ?_ ?_; rotate_left; (focus (rintro _ ⟨E, rfl⟩; go_simp; (try with_reducible rfl))); simp only [Act.put, List.getElem_toArray, List.getElem_cons_succ, List.getElem_cons_zero, List.setIfInBounds_toArray, List.set_cons_zero, List.set_cons_succ])
      (refine wpF_one 10 rfl (by kernel_rfl) rfl (fun K hK => ?_))
      have ht4 : w4.there g (j * 10) 10 := fun m hm => by
        have h0 := HTH.out m hm
        rw [World.cell?_of_block (w := wr) (hk4'.block g hg2 id), World.frozen?_of_block (w := wr) (hk4'.block g hg2 id)]
        exact h0
      refine wp_store_mid 33 (.tmp 23) (.tmp 22) rfl g (j * 10) _ rfl rfl ht4 size33 (by simp [Value.oneCell']) ?_
      (refine hK _ _ (fun h => absurd (by simp) h) (fun _ => ?_); clear hK K; try simp only [Act.put, List.getElem_toArray, List.getElem_cons_succ, List.getElem_cons_zero, List.setIfInBounds_toArray, List.set_cons_zero, List.set_cons_succ])
      (refine wpF_done (by kernel_rfl) ?_ _)
      have hgx : Keep (Ob g) w4 (w4.setCells g (j * 10) (Nd.row x (.slice A4 x.l.length n4)).toList) := Keep.setCells (X := Ob g) (Or.inr rfl) _ _ _ (Keep.refl _ _)
      have hkx : Keep Nb w (w4.setCells g (j * 10) (Nd.row x (.slice A4 x.l.length n4)).toList) := Keep.setCells (Or.inl (by omega)) _ _ _ (hk.trans hk4' (fun _ _ h => h))
      have hown5 := ownsRow_setCells (Nd.row x (.slice A4 x.l.length n4)).toList (j * 10) w4 _ (ownsRow_keep HOW.out hk4' (fun _ _ h => h))
      rw [rowsOf_set ps j hjp] at hown5
      have hbx5 : Blk (w4.setCells g (j * 10) (Nd.row x (.slice A4 x.l.length n4)).toList) w.heap.size _ 33 := (hbx.keep hk4' id).keep hgx (by simp only [Ob]; omega)
      have hrs5 : Blk (w4.setCells g (j * 10) (Nd.row x (.slice A4 x.l.length n4)).toList) (w.heap.size + 1) zeroNode 33 := (hrs.keep hk4' id).keep hgx (by simp only [Ob]; omega)
      have hS5 : LiesP (fun b => wr.heap.size ≤ b ∧ b < w4.heap.size) (w4.setCells g (j * 10) (Nd.row x (.slice A4 x.l.length n4)).toList) x (.slice A4 x.l.length n4) := LiesP_keep hgx (fun b hb h => by simp only [Ob] at h; omega) hS'
      have hnew5 : ∀ m q, ps[m]? = some q → m < j → LiesP (fun b => w.heap.size + 2 ≤ b ∧ b < wr.heap.size ∧ some b ≠ (Value.slice (some ⟨g, 0, none⟩) T.l.length cap2).ownBlock) (w4.setCells g (j * 10) (Nd.row x (.slice A4 x.l.length n4)).toList) q.1 q.2 :=
        fun m q h1 h2 => LiesP_keep hgx (fun b hb h => by simp only [Ob] at h; subst h; exact hb.2.2 rfl) (Lies_keep hk4' (hnew.out m q h1 h2))
      have hold5 : ∀ m q, ps[m]? = some q → j ≤ m → LiesP (fun b => b < w.heap.size) (w4.setCells g (j * 10) (Nd.row x (.slice A4 x.l.length n4)).toList) q.1 q.2 :=
        fun m q h1 h2 => LiesP_keep hgx (fun b hb h => by simp only [Ob] at h; omega) (Lies_keep hk4' (hold.out m q h1 h2))
      have s5 : w4.heap.size ≤ (w4.setCells g (j * 10) (Nd.row x (.slice A4 x.l.length n4)).toList).heap.size := hgx.size
      have hxp : (ps.set j (x, Value.slice A4 x.l.length n4)).map (·.1) = T.l := by
        exact HSM.out _
      have HN5 := Lib.hid hnew5
      have HO5 := Lib.hid hold5
      have HW5 := Lib.hid hown5
      clear hnew5 hold5 hown5 hgx hnew hold
      simp only [Nd.row] at hkx hbx5 hrs5 hS5 HN5 HO5 HW5 s5
      generalize w4.setCells g (j * 10) _ = w5 at hkx hbx5 hrs5 hS5 HN5 HO5 HW5 s5 ⊢
      go_wp2_with fail
      go_roundw
      case rel =>
        refine ⟨j + 1, ps.set j (x, .slice A4 x.l.length n4), by omega, by go_num, Lib.hid hxp, Lib.hid (fun m q h1 h2 => ?_), Lib.hid (fun m q h1 h2 => ?_), HW5.out, hbx5, hrs5, hkx⟩
        · rw [List.getElem?_set] at h1
          split at h1
          · rename_i e
            cases h1
            exact LiesP_mono (fun b _ _ hb _ => ⟨by omega, by omega, fun e => by simp [Value.ownBlock] at e; omega⟩) _ _ hS5
          · exact LiesP_mono (fun b _ _ hb _ => ⟨hb.1, by omega, hb.2.2⟩) _ _ (HN5.out m q h1 (by omega))
        · rw [List.getElem?_set_ne (by omega)] at h1
          exact HO5.out m q h1 (by omega)
      case measure => simp [intOf]; omega
    · obtain rfl : j = T.l.length := by omega
      have hV1 : (Nd.row T V).all (·.oneCell') = true := by rw [← HVe.out]; simp [Nd.row, Value.oneCell']
      go_wp2_with (first
        | (refine wpList_load_row rfl 33 (.tmp 1) rfl w.heap.size rfl 33 _ (0, 0) _ hbx Try.underlying33 rfl size33 ?_)
        | (refine wpList_store_row rfl 33 (.tmp 2) (.tmp 25) rfl (w.heap.size + 1) _ rfl rfl 33 _ hrs size33 rfl hV1 ?_))
      have hl := LiesPL_owns (Ok := fun b => (w.heap.size ≤ b ∧ b < wr.heap.size) ∧ w.heap.size + 2 ≤ b) (by rw [hpl]; exact hown)
        (fun p hp => by
          obtain ⟨m, hm, rfl⟩ := List.mem_iff_getElem.1 hp
          exact LiesP_mono (fun b _ _ hb _ => ⟨⟨by omega, hb.2.1⟩, hb.1⟩) _ _ (hnew.out m _ (List.getElem?_eq_getElem hm) (by omega)))
        (fun g hg => ⟨⟨by have := (hown.lt g hg).1; omega, (hown.lt g hg).2⟩, (hown.lt g hg).1⟩)
      obtain ⟨A5, c5, hAe, hc1, hc2, hLL⟩ := hl
      rw [hpl] at hAe hc1
      subst hAe
      rw [hps.out] at hLL
      have hres5 := hrs.setRow (Nd.row T (.slice A5 T.l.length c5))
      have hst : Keep (Ob (w.heap.size + 1)) wr (wr.setRow (w.heap.size + 1) (Nd.row T (.slice A5 T.l.length c5))) := Keep.setRow (X := Ob (w.heap.size + 1)) (Keep.refl _ _) (Or.inr rfl) _
      refine bodyPost_ret (v := .agg (Nd.row T (.slice A5 T.l.length c5))) (results_cell_row Try.results81 _ _ (w.heap.size + 1) 33 _ (0, 0) _ rfl hres5 Try.underlying33 rfl size33) rfl ⟨_, rfl, ?_, ?_⟩
      · rw [LiesP_def]
        refine ⟨A5, c5, rfl, hc1, hc2, ?_⟩
        refine LiesPL_mono (fun b _ _ hb _ => ⟨hb.1.1, by have := hst.size; omega⟩) _ _ _ (LiesPL_cells (fun b off u ho hc => hst.cell (p := ⟨b, off, none⟩) hc (by simp only [Ob]; omega)) _ _ _ hLL)
      · exact hk.setRow (Or.inl (by omega)) _

theorem clone_any : ∀ (c : Nat) (_ : c ≤ 900000), CloneSaid c
  | 0, _ => fun T h => by have := count_pos T; omega
  | c + 1, h => clone_step c (by omega) (Lib.hid (clone_any c (by omega)))

end Go.Proofs.Ytkidjbfapldmbaa
