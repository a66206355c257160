/- Nodes made one: Join, Either, of the program and of the reference. -/
import Derived.Test.YtkidjbfapldmbaaFlat
namespace Go.Proofs.Ytkidjbfapldmbaa
set_option linter.unusedVariables false
set_option linter.unusedSimpArgs false
open Go.RowKit P8

def hd0 (k : Int) : Hd := ⟨k, 0, 0, 0, 0, 0, 0, 0, 0⟩
def joinT (l : List Nd) : Nd := if h : (flatT 8 l).length = 1 then (flatT 8 l)[0] else .mk (hd0 8) (flatT 8 l)
def eitherT (l : List Nd) : Nd := if (flatT 9 l).length = 0 then .mk (hd0 8) [] else if h : (flatT 9 l).length = 1 then (flatT 9 l)[0] else .mk (hd0 9) (flatT 9 l)

set_option maxRecDepth 100000 in
set_option maxHeartbeats 1000000 in
theorem tjoin_any (l : List Nd) (hcl : countL l ≤ 900000) (A : Option Addr) (cap : Nat) (w : World) (hL0 : LiesL w A 0 l) :
    Calls Try.prog 26 #[.slice A l.length cap] w fun e w' => ∃ S, e = .returned (.agg (Nd.row (joinT l) S)) ∧ Lies w' (joinT l) S ∧ Keep Nb w w' := by
  have hL : LiesPL (fun b => b < w.heap.size) w A 0 l := LiesPL_mono (fun b _ _ _ hc => cell_lt hc) _ _ _ hL0
  have hf := flatT_len 8 l
  have hcall := fun wx (hx : LiesPL (fun b => b < w.heap.size) wx A 0 l) => tflat_any 8 l hcl A cap wx hx
  generalize hfe : flatT 8 l = f at hf hcall
  by_cases e1 : f.length = 1
  · have m1 : ((f.length : Int) == 1) = true := by simp [e1]
    have hlt : 0 < f.length := by omega
    have hJ : joinT l = f[0] := by subst hfe; rw [joinT, dif_pos e1]
    have HJ := Lib.hid hJ; clear hJ
    have HC := Lib.hid hcall; clear hcall
    go_enter Try.func26, Try.ntmps26
    go_wp2_with fail
    refine (HC.out _ (LiesL_keep (by repeat (first | assumption | exact Keep.refl _ _ | refine Keep.alloc ?_ _ | refine Keep.drew ?_ | refine Keep.setCell ?_ (Or.inl (by simp)) _ | refine Keep.setRow ?_ (Or.inl (by simp)) _)) hL)).mono ?_
    rintro e w2 ⟨A', c', rfl, hc1, hc2, hL3, hk2⟩
    have hL2 := LiesPL_mono (Ok' := fun b => b ≠ w.heap.size) (fun b _ _ hb _ => by (rcases hb with hb | hb) <;> (try simp at hb) <;> omega) _ _ _ hL3
    clear hL3
    have hrs : Blk w2 w.heap.size zeroNode 33 := (Blk.new w _ _).keep hk2 id
    have hk2' : Keep Nb w w2 := Keep.trans (by repeat (first | assumption | exact Keep.refl _ _ | refine Keep.alloc ?_ _ | refine Keep.drew ?_ | refine Keep.setCell ?_ (Or.inl (by simp)) _ | refine Keep.setRow ?_ (Or.inl (by simp)) _)) hk2 (fun _ _ h => h)
    clear hk2
    obtain ⟨b, off, A2, n2, rfl, hb, hten, hS⟩ := hL2.atP 0 hlt
    rw [Nat.zero_mul, Nat.add_zero] at hten
    obtain ⟨c0, c1, c2, c3, c4, c5, c6, c7, c8, c9, lt⟩ := hten
    have hi0 : (0 : Int) < (f.length : Int) := by omega
    clear hL2
    go_wp2_with (refine wpList_store_row rfl 33 (.tmp 2) (.tmp 11) rfl w.heap.size _ rfl rfl 33 _ hrs size33 rfl (by simp [Value.oneCell']) ?_)
    have hst : Keep (Ob w.heap.size) w2 (w2.setRow w.heap.size (Nd.row (f[0]) (.slice A2 f[0].l.length n2))) := Keep.setRow (X := Ob w.heap.size) (Keep.refl _ _) (Or.inr rfl) _
    have hr2 : Blk (w2.setRow w.heap.size (Nd.row (f[0]) (.slice A2 f[0].l.length n2))) w.heap.size (Nd.row (f[0]) (.slice A2 f[0].l.length n2)) 33 := hrs.setRow _
    refine bodyPost_ret (v := .agg (Nd.row (f[0]) (.slice A2 f[0].l.length n2))) (results_cell_row Try.results26 _ _ w.heap.size 33 _ (0, 0) _ rfl hr2 Try.underlying33 rfl size33) rfl ⟨.slice A2 f[0].l.length n2, by rw [HJ.out], ?_, Keep.setRow hk2' (Or.inl (Nat.le_refl _)) _⟩
    rw [HJ.out]
    exact LiesP_all (LiesP_keep hst (fun b hb h => hb h) hS)
  · have m1 : ((f.length : Int) == 1) = false := by simp; omega
    have hJ : joinT l = .mk (hd0 8) f := by subst hfe; rw [joinT, dif_neg e1]
    have HJ := Lib.hid hJ; clear hJ
    have HC := Lib.hid hcall; clear hcall
    go_enter Try.func26, Try.ntmps26
    go_wp2_with fail
    refine (HC.out _ (LiesL_keep (by repeat (first | assumption | exact Keep.refl _ _ | refine Keep.alloc ?_ _ | refine Keep.drew ?_ | refine Keep.setCell ?_ (Or.inl (by simp)) _ | refine Keep.setRow ?_ (Or.inl (by simp)) _)) hL)).mono ?_
    rintro e w2 ⟨A', c', rfl, hc1, hc2, hL3, hk2⟩
    have hL2 := LiesPL_mono (Ok' := fun b => b ≠ w.heap.size) (fun b _ _ hb _ => by (rcases hb with hb | hb) <;> (try simp at hb) <;> omega) _ _ _ hL3
    clear hL3
    have hrs : Blk w2 w.heap.size zeroNode 33 := (Blk.new w _ _).keep hk2 id
    have hk2' : Keep Nb w w2 := Keep.trans (by repeat (first | assumption | exact Keep.refl _ _ | refine Keep.alloc ?_ _ | refine Keep.drew ?_ | refine Keep.setCell ?_ (Or.inl (by simp)) _ | refine Keep.setRow ?_ (Or.inl (by simp)) _)) hk2 (fun _ _ h => h)
    clear hk2
    go_wp2_with (refine wpList_store_row rfl 33 (.tmp 2) (.tmp 13) rfl w.heap.size _ rfl rfl 33 _ hrs size33 rfl (by simp [Value.oneCell']) ?_)
    have hst : Keep (Ob w.heap.size) w2 (w2.setRow w.heap.size (Nd.row (.mk (hd0 8) f) (Value.slice A' f.length c'))) := Keep.setRow (X := Ob w.heap.size) (Keep.refl _ _) (Or.inr rfl) _
    have hr2 : Blk (w2.setRow w.heap.size (Nd.row (.mk (hd0 8) f) (Value.slice A' f.length c'))) w.heap.size (Nd.row (.mk (hd0 8) f) (Value.slice A' f.length c')) 33 := hrs.setRow _
    refine bodyPost_ret (v := .agg (Nd.row (.mk (hd0 8) f) (Value.slice A' f.length c'))) (results_cell_row Try.results26 _ _ w.heap.size 33 _ (0, 0) _ rfl hr2 Try.underlying33 rfl size33) rfl ⟨Value.slice A' f.length c', by rw [HJ.out], ?_, Keep.setRow hk2' (Or.inl (Nat.le_refl _)) _⟩
    rw [HJ.out]
    exact LiesP_all (LiesP_def.2 ⟨_, _, rfl, hc1, hc2, LiesPL_cells (fun b off u ho hc => hst.cell (p := ⟨b, off, none⟩) hc ho) _ _ _ hL2⟩)

set_option maxRecDepth 100000 in
set_option maxHeartbeats 1000000 in
theorem rjoin_any (l : List Nd) (hcl : countL l ≤ 900000) (A : Option Addr) (cap : Nat) (w : World) (hL0 : LiesL w A 0 l) :
    Calls Try.prog 27 #[.slice A l.length cap] w fun e w' => ∃ S, e = .returned (.agg (Nd.row (joinT l) S)) ∧ Lies w' (joinT l) S ∧ Keep Nb w w' := by
  have hL : LiesPL (fun b => b < w.heap.size) w A 0 l := LiesPL_mono (fun b _ _ _ hc => cell_lt hc) _ _ _ hL0
  have hf := flatT_len 8 l
  have hcall := fun wx (hx : LiesPL (fun b => b < w.heap.size) wx A 0 l) => rflat_any 8 l hcl A cap wx hx
  generalize hfe : flatT 8 l = f at hf hcall
  by_cases e1 : f.length = 1
  · have m1 : ((f.length : Int) == 1) = true := by simp [e1]
    have hlt : 0 < f.length := by omega
    have hJ : joinT l = f[0] := by subst hfe; rw [joinT, dif_pos e1]
    have HJ := Lib.hid hJ; clear hJ
    have HC := Lib.hid hcall; clear hcall
    go_enter Try.func27, Try.ntmps27
    go_wp2_with fail
    refine (HC.out _ (LiesL_keep (by repeat (first | assumption | exact Keep.refl _ _ | refine Keep.alloc ?_ _ | refine Keep.drew ?_ | refine Keep.setCell ?_ (Or.inl (by simp)) _ | refine Keep.setRow ?_ (Or.inl (by simp)) _)) hL)).mono ?_
    rintro e w2 ⟨A', c', rfl, hc1, hc2, hL3, hk2⟩
    have hL2 := LiesPL_mono (Ok' := fun b => b ≠ w.heap.size) (fun b _ _ hb _ => by (rcases hb with hb | hb) <;> (try simp at hb) <;> omega) _ _ _ hL3
    clear hL3
    have hrs : Blk w2 w.heap.size zeroNode 27 := (Blk.new w _ _).keep hk2 id
    have hk2' : Keep Nb w w2 := Keep.trans (by repeat (first | assumption | exact Keep.refl _ _ | refine Keep.alloc ?_ _ | refine Keep.drew ?_ | refine Keep.setCell ?_ (Or.inl (by simp)) _ | refine Keep.setRow ?_ (Or.inl (by simp)) _)) hk2 (fun _ _ h => h)
    clear hk2
    obtain ⟨b, off, A2, n2, rfl, hb, hten, hS⟩ := hL2.atP 0 hlt
    rw [Nat.zero_mul, Nat.add_zero] at hten
    obtain ⟨c0, c1, c2, c3, c4, c5, c6, c7, c8, c9, lt⟩ := hten
    have hi0 : (0 : Int) < (f.length : Int) := by omega
    clear hL2
    go_wp2_with (refine wpList_store_row rfl 27 (.tmp 2) (.tmp 11) rfl w.heap.size _ rfl rfl 27 _ hrs size27 rfl (by simp [Value.oneCell']) ?_)
    have hst : Keep (Ob w.heap.size) w2 (w2.setRow w.heap.size (Nd.row (f[0]) (.slice A2 f[0].l.length n2))) := Keep.setRow (X := Ob w.heap.size) (Keep.refl _ _) (Or.inr rfl) _
    have hr2 : Blk (w2.setRow w.heap.size (Nd.row (f[0]) (.slice A2 f[0].l.length n2))) w.heap.size (Nd.row (f[0]) (.slice A2 f[0].l.length n2)) 27 := hrs.setRow _
    refine bodyPost_ret (v := .agg (Nd.row (f[0]) (.slice A2 f[0].l.length n2))) (results_cell_row Try.results27 _ _ w.heap.size 27 _ (0, 0) _ rfl hr2 Try.underlying27 rfl size27) rfl ⟨.slice A2 f[0].l.length n2, by rw [HJ.out], ?_, Keep.setRow hk2' (Or.inl (Nat.le_refl _)) _⟩
    rw [HJ.out]
    exact LiesP_all (LiesP_keep hst (fun b hb h => hb h) hS)
  · have m1 : ((f.length : Int) == 1) = false := by simp; omega
    have hJ : joinT l = .mk (hd0 8) f := by subst hfe; rw [joinT, dif_neg e1]
    have HJ := Lib.hid hJ; clear hJ
    have HC := Lib.hid hcall; clear hcall
    go_enter Try.func27, Try.ntmps27
    go_wp2_with fail
    refine (HC.out _ (LiesL_keep (by repeat (first | assumption | exact Keep.refl _ _ | refine Keep.alloc ?_ _ | refine Keep.drew ?_ | refine Keep.setCell ?_ (Or.inl (by simp)) _ | refine Keep.setRow ?_ (Or.inl (by simp)) _)) hL)).mono ?_
    rintro e w2 ⟨A', c', rfl, hc1, hc2, hL3, hk2⟩
    have hL2 := LiesPL_mono (Ok' := fun b => b ≠ w.heap.size) (fun b _ _ hb _ => by (rcases hb with hb | hb) <;> (try simp at hb) <;> omega) _ _ _ hL3
    clear hL3
    have hrs : Blk w2 w.heap.size zeroNode 27 := (Blk.new w _ _).keep hk2 id
    have hk2' : Keep Nb w w2 := Keep.trans (by repeat (first | assumption | exact Keep.refl _ _ | refine Keep.alloc ?_ _ | refine Keep.drew ?_ | refine Keep.setCell ?_ (Or.inl (by simp)) _ | refine Keep.setRow ?_ (Or.inl (by simp)) _)) hk2 (fun _ _ h => h)
    clear hk2
    go_wp2_with (refine wpList_store_row rfl 27 (.tmp 2) (.tmp 13) rfl w.heap.size _ rfl rfl 27 _ hrs size27 rfl (by simp [Value.oneCell']) ?_)
    have hst : Keep (Ob w.heap.size) w2 (w2.setRow w.heap.size (Nd.row (.mk (hd0 8) f) (Value.slice A' f.length c'))) := Keep.setRow (X := Ob w.heap.size) (Keep.refl _ _) (Or.inr rfl) _
    have hr2 : Blk (w2.setRow w.heap.size (Nd.row (.mk (hd0 8) f) (Value.slice A' f.length c'))) w.heap.size (Nd.row (.mk (hd0 8) f) (Value.slice A' f.length c')) 27 := hrs.setRow _
    refine bodyPost_ret (v := .agg (Nd.row (.mk (hd0 8) f) (Value.slice A' f.length c'))) (results_cell_row Try.results27 _ _ w.heap.size 27 _ (0, 0) _ rfl hr2 Try.underlying27 rfl size27) rfl ⟨Value.slice A' f.length c', by rw [HJ.out], ?_, Keep.setRow hk2' (Or.inl (Nat.le_refl _)) _⟩
    rw [HJ.out]
    exact LiesP_all (LiesP_def.2 ⟨_, _, rfl, hc1, hc2, LiesPL_cells (fun b off u ho hc => hst.cell (p := ⟨b, off, none⟩) hc ho) _ _ _ hL2⟩)

set_option maxRecDepth 100000 in
set_option maxHeartbeats 1000000 in
theorem teither_any (l : List Nd) (hcl : countL l ≤ 900000) (A : Option Addr) (cap : Nat) (w : World) (hL0 : LiesL w A 0 l) :
    Calls Try.prog 28 #[.slice A l.length cap] w fun e w' => ∃ S, e = .returned (.agg (Nd.row (eitherT l) S)) ∧ Lies w' (eitherT l) S ∧ Keep Nb w w' := by
  have hL : LiesPL (fun b => b < w.heap.size) w A 0 l := LiesPL_mono (fun b _ _ _ hc => cell_lt hc) _ _ _ hL0
  have hf := flatT_len 9 l
  have hcall := fun wx (hx : LiesPL (fun b => b < w.heap.size) wx A 0 l) => tflat_any 9 l hcl A cap wx hx
  generalize hfe : flatT 9 l = f at hf hcall
  by_cases e0 : f.length = 0
  · have m0 : ((f.length : Int) == 0) = true := by simp [e0]
    have hJ : eitherT l = .mk (hd0 8) [] := by subst hfe; rw [eitherT, if_pos e0]
    have HJ := Lib.hid hJ; clear hJ
    have HC := Lib.hid hcall; clear hcall
    go_enter Try.func28, Try.ntmps28
    go_wp2_with fail
    refine (HC.out _ (LiesL_keep (by repeat (first | assumption | exact Keep.refl _ _ | refine Keep.alloc ?_ _ | refine Keep.drew ?_ | refine Keep.setCell ?_ (Or.inl (by simp)) _ | refine Keep.setRow ?_ (Or.inl (by simp)) _)) hL)).mono ?_
    rintro e w2 ⟨A', c', rfl, hc1, hc2, hL3, hk2⟩
    have hL2 := LiesPL_mono (Ok' := fun b => b ≠ w.heap.size) (fun b _ _ hb _ => by (rcases hb with hb | hb) <;> (try simp at hb) <;> omega) _ _ _ hL3
    clear hL3
    have hrs : Blk w2 w.heap.size zeroNode 33 := (Blk.new w _ _).keep hk2 id
    have hk2' : Keep Nb w w2 := Keep.trans (by repeat (first | assumption | exact Keep.refl _ _ | refine Keep.alloc ?_ _ | refine Keep.drew ?_ | refine Keep.setCell ?_ (Or.inl (by simp)) _ | refine Keep.setRow ?_ (Or.inl (by simp)) _)) hk2 (fun _ _ h => h)
    clear hk2
    go_wp2_with (refine wpList_store_row rfl 33 (.tmp 2) (.tmp 10) rfl w.heap.size _ rfl rfl 33 _ hrs size33 rfl (by simp [Value.oneCell']) ?_)
    have hst : Keep (Ob w.heap.size) w2 (w2.setRow w.heap.size (Nd.row (.mk (hd0 8) []) (Value.slice none 0 0))) := Keep.setRow (X := Ob w.heap.size) (Keep.refl _ _) (Or.inr rfl) _
    have hr2 : Blk (w2.setRow w.heap.size (Nd.row (.mk (hd0 8) []) (Value.slice none 0 0))) w.heap.size (Nd.row (.mk (hd0 8) []) (Value.slice none 0 0)) 33 := hrs.setRow _
    refine bodyPost_ret (v := .agg (Nd.row (.mk (hd0 8) []) (Value.slice none 0 0))) (results_cell_row Try.results28 _ _ w.heap.size 33 _ (0, 0) _ rfl hr2 Try.underlying33 rfl size33) rfl ⟨Value.slice none 0 0, by rw [HJ.out], ?_, Keep.setRow hk2' (Or.inl (Nat.le_refl _)) _⟩
    rw [HJ.out]
    exact LiesP_all (LiesP_def.2 ⟨none, 0, rfl, Nat.le_refl _, Nat.zero_le _, (by simp [Nd.l, LiesPL] : LiesPL (fun _ => True) _ none 0 (Nd.mk (hd0 8) []).l)⟩)
  have m0 : ((f.length : Int) == 0) = false := beq_eq_false_iff_ne.2 (by omega)
  by_cases e1 : f.length = 1
  · have m1 : ((f.length : Int) == 1) = true := by simp [e1]
    have hlt : 0 < f.length := by omega
    have hJ : eitherT l = f[0] := by subst hfe; rw [eitherT, if_neg e0, dif_pos e1]
    have HJ := Lib.hid hJ; clear hJ
    have HC := Lib.hid hcall; clear hcall
    go_enter Try.func28, Try.ntmps28
    go_wp2_with fail
    refine (HC.out _ (LiesL_keep (by repeat (first | assumption | exact Keep.refl _ _ | refine Keep.alloc ?_ _ | refine Keep.drew ?_ | refine Keep.setCell ?_ (Or.inl (by simp)) _ | refine Keep.setRow ?_ (Or.inl (by simp)) _)) hL)).mono ?_
    rintro e w2 ⟨A', c', rfl, hc1, hc2, hL3, hk2⟩
    have hL2 := LiesPL_mono (Ok' := fun b => b ≠ w.heap.size) (fun b _ _ hb _ => by (rcases hb with hb | hb) <;> (try simp at hb) <;> omega) _ _ _ hL3
    clear hL3
    have hrs : Blk w2 w.heap.size zeroNode 33 := (Blk.new w _ _).keep hk2 id
    have hk2' : Keep Nb w w2 := Keep.trans (by repeat (first | assumption | exact Keep.refl _ _ | refine Keep.alloc ?_ _ | refine Keep.drew ?_ | refine Keep.setCell ?_ (Or.inl (by simp)) _ | refine Keep.setRow ?_ (Or.inl (by simp)) _)) hk2 (fun _ _ h => h)
    clear hk2
    obtain ⟨b, off, A2, n2, rfl, hb, hten, hS⟩ := hL2.atP 0 hlt
    rw [Nat.zero_mul, Nat.add_zero] at hten
    obtain ⟨c0, c1, c2, c3, c4, c5, c6, c7, c8, c9, lt⟩ := hten
    have hi0 : (0 : Int) < (f.length : Int) := by omega
    clear hL2
    go_wp2_with (refine wpList_store_row rfl 33 (.tmp 2) (.tmp 15) rfl w.heap.size _ rfl rfl 33 _ hrs size33 rfl (by simp [Value.oneCell']) ?_)
    have hst : Keep (Ob w.heap.size) w2 (w2.setRow w.heap.size (Nd.row (f[0]) (.slice A2 f[0].l.length n2))) := Keep.setRow (X := Ob w.heap.size) (Keep.refl _ _) (Or.inr rfl) _
    have hr2 : Blk (w2.setRow w.heap.size (Nd.row (f[0]) (.slice A2 f[0].l.length n2))) w.heap.size (Nd.row (f[0]) (.slice A2 f[0].l.length n2)) 33 := hrs.setRow _
    refine bodyPost_ret (v := .agg (Nd.row (f[0]) (.slice A2 f[0].l.length n2))) (results_cell_row Try.results28 _ _ w.heap.size 33 _ (0, 0) _ rfl hr2 Try.underlying33 rfl size33) rfl ⟨.slice A2 f[0].l.length n2, by rw [HJ.out], ?_, Keep.setRow hk2' (Or.inl (Nat.le_refl _)) _⟩
    rw [HJ.out]
    exact LiesP_all (LiesP_keep hst (fun b hb h => hb h) hS)
  · have m1 : ((f.length : Int) == 1) = false := by simp; omega
    have hJ : eitherT l = .mk (hd0 9) f := by subst hfe; rw [eitherT, if_neg e0, dif_neg e1]
    have HJ := Lib.hid hJ; clear hJ
    have HC := Lib.hid hcall; clear hcall
    go_enter Try.func28, Try.ntmps28
    go_wp2_with fail
    refine (HC.out _ (LiesL_keep (by repeat (first | assumption | exact Keep.refl _ _ | refine Keep.alloc ?_ _ | refine Keep.drew ?_ | refine Keep.setCell ?_ (Or.inl (by simp)) _ | refine Keep.setRow ?_ (Or.inl (by simp)) _)) hL)).mono ?_
    rintro e w2 ⟨A', c', rfl, hc1, hc2, hL3, hk2⟩
    have hL2 := LiesPL_mono (Ok' := fun b => b ≠ w.heap.size) (fun b _ _ hb _ => by (rcases hb with hb | hb) <;> (try simp at hb) <;> omega) _ _ _ hL3
    clear hL3
    have hrs : Blk w2 w.heap.size zeroNode 33 := (Blk.new w _ _).keep hk2 id
    have hk2' : Keep Nb w w2 := Keep.trans (by repeat (first | assumption | exact Keep.refl _ _ | refine Keep.alloc ?_ _ | refine Keep.drew ?_ | refine Keep.setCell ?_ (Or.inl (by simp)) _ | refine Keep.setRow ?_ (Or.inl (by simp)) _)) hk2 (fun _ _ h => h)
    clear hk2
    go_wp2_with (refine wpList_store_row rfl 33 (.tmp 2) (.tmp 17) rfl w.heap.size _ rfl rfl 33 _ hrs size33 rfl (by simp [Value.oneCell']) ?_)
    have hst : Keep (Ob w.heap.size) w2 (w2.setRow w.heap.size (Nd.row (.mk (hd0 9) f) (Value.slice A' f.length c'))) := Keep.setRow (X := Ob w.heap.size) (Keep.refl _ _) (Or.inr rfl) _
    have hr2 : Blk (w2.setRow w.heap.size (Nd.row (.mk (hd0 9) f) (Value.slice A' f.length c'))) w.heap.size (Nd.row (.mk (hd0 9) f) (Value.slice A' f.length c')) 33 := hrs.setRow _
    refine bodyPost_ret (v := .agg (Nd.row (.mk (hd0 9) f) (Value.slice A' f.length c'))) (results_cell_row Try.results28 _ _ w.heap.size 33 _ (0, 0) _ rfl hr2 Try.underlying33 rfl size33) rfl ⟨Value.slice A' f.length c', by rw [HJ.out], ?_, Keep.setRow hk2' (Or.inl (Nat.le_refl _)) _⟩
    rw [HJ.out]
    exact LiesP_all (LiesP_def.2 ⟨_, _, rfl, hc1, hc2, LiesPL_cells (fun b off u ho hc => hst.cell (p := ⟨b, off, none⟩) hc ho) _ _ _ hL2⟩)

set_option maxRecDepth 100000 in
set_option maxHeartbeats 1000000 in
theorem reither_any (l : List Nd) (hcl : countL l ≤ 900000) (A : Option Addr) (cap : Nat) (w : World) (hL0 : LiesL w A 0 l) :
    Calls Try.prog 29 #[.slice A l.length cap] w fun e w' => ∃ S, e = .returned (.agg (Nd.row (eitherT l) S)) ∧ Lies w' (eitherT l) S ∧ Keep Nb w w' := by
  have hL : LiesPL (fun b => b < w.heap.size) w A 0 l := LiesPL_mono (fun b _ _ _ hc => cell_lt hc) _ _ _ hL0
  have hf := flatT_len 9 l
  have hcall := fun wx (hx : LiesPL (fun b => b < w.heap.size) wx A 0 l) => rflat_any 9 l hcl A cap wx hx
  generalize hfe : flatT 9 l = f at hf hcall
  by_cases e0 : f.length = 0
  · have m0 : ((f.length : Int) == 0) = true := by simp [e0]
    have hJ : eitherT l = .mk (hd0 8) [] := by subst hfe; rw [eitherT, if_pos e0]
    have HJ := Lib.hid hJ; clear hJ
    have HC := Lib.hid hcall; clear hcall
    go_enter Try.func29, Try.ntmps29
    go_wp2_with fail
    refine (HC.out _ (LiesL_keep (by repeat (first | assumption | exact Keep.refl _ _ | refine Keep.alloc ?_ _ | refine Keep.drew ?_ | refine Keep.setCell ?_ (Or.inl (by simp)) _ | refine Keep.setRow ?_ (Or.inl (by simp)) _)) hL)).mono ?_
    rintro e w2 ⟨A', c', rfl, hc1, hc2, hL3, hk2⟩
    have hL2 := LiesPL_mono (Ok' := fun b => b ≠ w.heap.size) (fun b _ _ hb _ => by (rcases hb with hb | hb) <;> (try simp at hb) <;> omega) _ _ _ hL3
    clear hL3
    have hrs : Blk w2 w.heap.size zeroNode 27 := (Blk.new w _ _).keep hk2 id
    have hk2' : Keep Nb w w2 := Keep.trans (by repeat (first | assumption | exact Keep.refl _ _ | refine Keep.alloc ?_ _ | refine Keep.drew ?_ | refine Keep.setCell ?_ (Or.inl (by simp)) _ | refine Keep.setRow ?_ (Or.inl (by simp)) _)) hk2 (fun _ _ h => h)
    clear hk2
    go_wp2_with (refine wpList_store_row rfl 27 (.tmp 2) (.tmp 10) rfl w.heap.size _ rfl rfl 27 _ hrs size27 rfl (by simp [Value.oneCell']) ?_)
    have hst : Keep (Ob w.heap.size) w2 (w2.setRow w.heap.size (Nd.row (.mk (hd0 8) []) (Value.slice none 0 0))) := Keep.setRow (X := Ob w.heap.size) (Keep.refl _ _) (Or.inr rfl) _
    have hr2 : Blk (w2.setRow w.heap.size (Nd.row (.mk (hd0 8) []) (Value.slice none 0 0))) w.heap.size (Nd.row (.mk (hd0 8) []) (Value.slice none 0 0)) 27 := hrs.setRow _
    refine bodyPost_ret (v := .agg (Nd.row (.mk (hd0 8) []) (Value.slice none 0 0))) (results_cell_row Try.results29 _ _ w.heap.size 27 _ (0, 0) _ rfl hr2 Try.underlying27 rfl size27) rfl ⟨Value.slice none 0 0, by rw [HJ.out], ?_, Keep.setRow hk2' (Or.inl (Nat.le_refl _)) _⟩
    rw [HJ.out]
    exact LiesP_all (LiesP_def.2 ⟨none, 0, rfl, Nat.le_refl _, Nat.zero_le _, (by simp [Nd.l, LiesPL] : LiesPL (fun _ => True) _ none 0 (Nd.mk (hd0 8) []).l)⟩)
  have m0 : ((f.length : Int) == 0) = false := beq_eq_false_iff_ne.2 (by omega)
  by_cases e1 : f.length = 1
  · have m1 : ((f.length : Int) == 1) = true := by simp [e1]
    have hlt : 0 < f.length := by omega
    have hJ : eitherT l = f[0] := by subst hfe; rw [eitherT, if_neg e0, dif_pos e1]
    have HJ := Lib.hid hJ; clear hJ
    have HC := Lib.hid hcall; clear hcall
    go_enter Try.func29, Try.ntmps29
    go_wp2_with fail
    refine (HC.out _ (LiesL_keep (by repeat (first | assumption | exact Keep.refl _ _ | refine Keep.alloc ?_ _ | refine Keep.drew ?_ | refine Keep.setCell ?_ (Or.inl (by simp)) _ | refine Keep.setRow ?_ (Or.inl (by simp)) _)) hL)).mono ?_
    rintro e w2 ⟨A', c', rfl, hc1, hc2, hL3, hk2⟩
    have hL2 := LiesPL_mono (Ok' := fun b => b ≠ w.heap.size) (fun b _ _ hb _ => by (rcases hb with hb | hb) <;> (try simp at hb) <;> omega) _ _ _ hL3
    clear hL3
    have hrs : Blk w2 w.heap.size zeroNode 27 := (Blk.new w _ _).keep hk2 id
    have hk2' : Keep Nb w w2 := Keep.trans (by repeat (first | assumption | exact Keep.refl _ _ | refine Keep.alloc ?_ _ | refine Keep.drew ?_ | refine Keep.setCell ?_ (Or.inl (by simp)) _ | refine Keep.setRow ?_ (Or.inl (by simp)) _)) hk2 (fun _ _ h => h)
    clear hk2
    obtain ⟨b, off, A2, n2, rfl, hb, hten, hS⟩ := hL2.atP 0 hlt
    rw [Nat.zero_mul, Nat.add_zero] at hten
    obtain ⟨c0, c1, c2, c3, c4, c5, c6, c7, c8, c9, lt⟩ := hten
    have hi0 : (0 : Int) < (f.length : Int) := by omega
    clear hL2
    go_wp2_with (refine wpList_store_row rfl 27 (.tmp 2) (.tmp 15) rfl w.heap.size _ rfl rfl 27 _ hrs size27 rfl (by simp [Value.oneCell']) ?_)
    have hst : Keep (Ob w.heap.size) w2 (w2.setRow w.heap.size (Nd.row (f[0]) (.slice A2 f[0].l.length n2))) := Keep.setRow (X := Ob w.heap.size) (Keep.refl _ _) (Or.inr rfl) _
    have hr2 : Blk (w2.setRow w.heap.size (Nd.row (f[0]) (.slice A2 f[0].l.length n2))) w.heap.size (Nd.row (f[0]) (.slice A2 f[0].l.length n2)) 27 := hrs.setRow _
    refine bodyPost_ret (v := .agg (Nd.row (f[0]) (.slice A2 f[0].l.length n2))) (results_cell_row Try.results29 _ _ w.heap.size 27 _ (0, 0) _ rfl hr2 Try.underlying27 rfl size27) rfl ⟨.slice A2 f[0].l.length n2, by rw [HJ.out], ?_, Keep.setRow hk2' (Or.inl (Nat.le_refl _)) _⟩
    rw [HJ.out]
    exact LiesP_all (LiesP_keep hst (fun b hb h => hb h) hS)
  · have m1 : ((f.length : Int) == 1) = false := by simp; omega
    have hJ : eitherT l = .mk (hd0 9) f := by subst hfe; rw [eitherT, if_neg e0, dif_neg e1]
    have HJ := Lib.hid hJ; clear hJ
    have HC := Lib.hid hcall; clear hcall
    go_enter Try.func29, Try.ntmps29
    go_wp2_with fail
    refine (HC.out _ (LiesL_keep (by repeat (first | assumption | exact Keep.refl _ _ | refine Keep.alloc ?_ _ | refine Keep.drew ?_ | refine Keep.setCell ?_ (Or.inl (by simp)) _ | refine Keep.setRow ?_ (Or.inl (by simp)) _)) hL)).mono ?_
    rintro e w2 ⟨A', c', rfl, hc1, hc2, hL3, hk2⟩
    have hL2 := LiesPL_mono (Ok' := fun b => b ≠ w.heap.size) (fun b _ _ hb _ => by (rcases hb with hb | hb) <;> (try simp at hb) <;> omega) _ _ _ hL3
    clear hL3
    have hrs : Blk w2 w.heap.size zeroNode 27 := (Blk.new w _ _).keep hk2 id
    have hk2' : Keep Nb w w2 := Keep.trans (by repeat (first | assumption | exact Keep.refl _ _ | refine Keep.alloc ?_ _ | refine Keep.drew ?_ | refine Keep.setCell ?_ (Or.inl (by simp)) _ | refine Keep.setRow ?_ (Or.inl (by simp)) _)) hk2 (fun _ _ h => h)
    clear hk2
    go_wp2_with (refine wpList_store_row rfl 27 (.tmp 2) (.tmp 17) rfl w.heap.size _ rfl rfl 27 _ hrs size27 rfl (by simp [Value.oneCell']) ?_)
    have hst : Keep (Ob w.heap.size) w2 (w2.setRow w.heap.size (Nd.row (.mk (hd0 9) f) (Value.slice A' f.length c'))) := Keep.setRow (X := Ob w.heap.size) (Keep.refl _ _) (Or.inr rfl) _
    have hr2 : Blk (w2.setRow w.heap.size (Nd.row (.mk (hd0 9) f) (Value.slice A' f.length c'))) w.heap.size (Nd.row (.mk (hd0 9) f) (Value.slice A' f.length c')) 27 := hrs.setRow _
    refine bodyPost_ret (v := .agg (Nd.row (.mk (hd0 9) f) (Value.slice A' f.length c'))) (results_cell_row Try.results29 _ _ w.heap.size 27 _ (0, 0) _ rfl hr2 Try.underlying27 rfl size27) rfl ⟨Value.slice A' f.length c', by rw [HJ.out], ?_, Keep.setRow hk2' (Or.inl (Nat.le_refl _)) _⟩
    rw [HJ.out]
    exact LiesP_all (LiesP_def.2 ⟨_, _, rfl, hc1, hc2, LiesPL_cells (fun b off u ho hc => hst.cell (p := ⟨b, off, none⟩) hc ho) _ _ _ hL2⟩)

end Go.Proofs.Ytkidjbfapldmbaa
