import Derived.Test.YtkidjbfapldmbaaZRd
import Derived.Deep.CutBlock
import Derived.Deep.DeepCutAuto
set_option linter.unusedVariables false
set_option linter.unusedSimpArgs false
namespace Go.Proofs.Ytkidjbfapldmbaa
open Go.RowKit P8
def setW (f : Nat → Int) : Array Value := #[.int .u64 (f 0), .int .u64 (f 1), .int .u64 (f 2), .int .u64 (f 3)]
theorem sizeW : (Try.prog.info? 24).map (·.size) = some 4 := by kernel_rfl
theorem setW_set (f : Nat → Int) (q : Nat) (h4 : q < 4) (v : Int) : (setW f).setIfInBounds q (.int .u64 v) = setW (fun i => if i = q then v else f i) := by
 have : q = 0 ∨ q = 1 ∨ q = 2 ∨ q = 3 := by omega
 rcases this with rfl | rfl | rfl | rfl <;> simp [setW]
theorem four {q : Nat} (h : q < 4) : q = 0 ∨ q = 1 ∨ q = 2 ∨ q = 3 := by omega
theorem quarter {c : Nat} (h : c < 256) : c / 64 < 4 := by omega
theorem results_sw {fn : Func} {p u : Tmp} (h : fn.results = #[.cell p 24, .tmp u]) (tmps : Array Value) (w : World) (b : Nat) (g : Nat → Int)
  (hp : tmps.getD p undef = .pointer (some ⟨b, 0, none⟩)) (hg : Blk w b (setW g) 24) :
  (results fn tmps).run Try.prog w = .ok (.tuple #[.agg (setW g), tmps.getD u undef]) w :=
 results_row_tmp h tmps w b 24 _ (0, 0) _ hp hg Try.underlying24 rfl sizeW
set_option maxRecDepth 100000 in
set_option maxHeartbeats 2000000 in
theorem with_e (f : Nat → Int) (a b : Nat) (ha : a < 256) (hb256 : b < 256) (w : World) :
  Calls Try.prog 129 #[.agg (setW f), .int .u8 a, .int .u8 b] w fun e w' => ∃ g, e = .returned (.agg (setW g)) ∧ Keep Nb w w' := by
 simp only [setW]
 go_enter Try.func129, Try.ntmps129
 go_wp2_with fail
 go_loopw [7] (fun i wr => ∃ (c : Nat) (g : Nat → Int), (c ≤ b + 1 ∨ c = a) ∧ i = .int .i64 c ∧ Blk wr w.heap.size (setW g) 24 ∧ Blk wr (w.heap.size + 1) (setW fun _ => 0) 24 ∧ Keep Nb w wr) (fun i _ => 256 - (intOf i).toNat)
 case atStart => exact ⟨a, f, .inr rfl, rfl, (Blk.new w _ _).alloc _, Blk.new' (by simp) _ _, kp⟩
 case round =>
  obtain ⟨c, g, hcb, rfl, hb, hr, hk⟩ := hrel
  by_cases hle : c ≤ b
  ·have m1 : decide ((c : Int) ≤ (b : Int)) = true := by simp; omega
   have m2 : decide (c ≤ b) = true := by simpa using hle
   have hc0 : (0 : Int) ≤ (c : Int) := by omega
   have hc1 : (c : Int) < 256 := by omega
   have c0 := hb.cell 0 (u := .int .u64 (g 0)) rfl
   have f0 := hb.frozen 0
   have c1 := hb.cell 1 (u := .int .u64 (g 1)) rfl
   have f1 := hb.frozen 1
   have c2 := hb.cell 2 (u := .int .u64 (g 2)) rfl
   have f2 := hb.frozen 2
   have c3 := hb.cell 3 (u := .int .u64 (g 3)) rfl
   have f3 := hb.frozen 3
   obtain ⟨q, hq, hq4⟩ : ∃ q, c / 64 = q ∧ q < 4 := ⟨_, rfl, quarter (by omega)⟩
   have hb2 := hb.set q (.int .u64 (bits .or .u64 (g q) (IntKind.u64.wrap (2 ^ (c % 64)))))
   rw [setW_set g q hq4] at hb2
   have hr2 := hr.setOther (p := ⟨w.heap.size, q, none⟩) (by simp; try omega) (.int .u64 (bits .or .u64 (g q) (IntKind.u64.wrap (2 ^ (c % 64)))))
   have hk2 : Keep Nb w (wr.setCell ⟨w.heap.size, q, none⟩ (.int .u64 (bits .or .u64 (g q) (IntKind.u64.wrap (2 ^ (c % 64)))))) := Keep.setCell hk (Or.inl (Nat.le_refl _)) _
   have HB := Lib.hid hb2
   have HR := Lib.hid hr2
   have H4 := four hq4
   clear hb2 hr2 hq4 hb hr
   rcases H4 with rfl | rfl | rfl | rfl
   all_goals
    go_wp2_with fail
    go_roundw
    case rel => exact ⟨c + 1, _, by omega, by go_num, HB.out, HR.out, hk2⟩
    case measure => simp [intOf]; omega
  ·have m1 : decide ((c : Int) ≤ (b : Int)) = false := by simp; omega
   have m2 : decide (c ≤ b) = false := by simpa using hle
   go_wp2_with (first
    | (refine wpList_load_row rfl 24 (.tmp 3) rfl w.heap.size rfl 24 _ (0, 0) _ hb Try.underlying24 rfl sizeW ?_)
    | (refine wpList_store_row rfl 24 (.tmp 6) (.tmp 28) rfl (w.heap.size + 1) _ rfl rfl 24 _ hr sizeW rfl (by simp [setW, Value.oneCell']) ?_))
   have hr2 : Blk (wr.setRow (w.heap.size + 1) (setW g)) (w.heap.size + 1) (setW g) 24 := hr.setRow _
   exact bodyPost_ret (v := .agg (setW g)) (results_cell_row Try.results129 _ _ (w.heap.size + 1) 24 _ (0, 0) _ rfl hr2 Try.underlying24 rfl sizeW) rfl ⟨g, rfl, Keep.setRow hk (Or.inl (by omega)) _⟩
set_option maxRecDepth 100000 in
set_option maxHeartbeats 2000000 in
theorem not_e (f : Nat → Int) (w : World) :
  Calls Try.prog 127 #[.agg (setW f)] w fun e w' => ∃ g, e = .returned (.agg (setW g)) ∧ Keep Nb w w' := by
 simp only [setW]
 go_enter Try.func127, Try.ntmps127
 go_wp2_with fail
 go_loopw [4] (fun i wr => ∃ (j : Nat) (g : Nat → Int), j ≤ 4 ∧ i = .int .i64 j ∧ Blk wr w.heap.size (setW g) 24 ∧ Blk wr (w.heap.size + 1) (setW fun _ => 0) 24 ∧ Keep Nb w wr) (fun i _ => 4 - (intOf i).toNat)
 case atStart => exact ⟨0, f, by omega, rfl, (Blk.new w _ _).alloc _, Blk.new' (by simp) _ _, kp⟩
 case round =>
  obtain ⟨j, g, hj, rfl, hb, hr, hk⟩ := hrel
  have lb := hb.lt
  have lr := hr.lt
  by_cases hlt : j < 4
  ·have c0 := hb.cell 0 (u := .int .u64 (g 0)) rfl
   have f0 := hb.frozen 0
   have c1 := hb.cell 1 (u := .int .u64 (g 1)) rfl
   have f1 := hb.frozen 1
   have c2 := hb.cell 2 (u := .int .u64 (g 2)) rfl
   have f2 := hb.frozen 2
   have c3 := hb.cell 3 (u := .int .u64 (g 3)) rfl
   have f3 := hb.frozen 3
   have hb2 := hb.set j (.int .u64 (bits .xor .u64 IntKind.u64.max (g j)))
   rw [setW_set g j hlt] at hb2
   have hr2 := hr.setOther (p := ⟨w.heap.size, j, none⟩) (by simp; try omega) (.int .u64 (bits .xor .u64 IntKind.u64.max (g j)))
   have hk2 : Keep Nb w (wr.setCell ⟨w.heap.size, j, none⟩ (.int .u64 (bits .xor .u64 IntKind.u64.max (g j)))) := Keep.setCell hk (Or.inl (Nat.le_refl _)) _
   have HB := Lib.hid hb2
   have HR := Lib.hid hr2
   have H4 := four hlt
   clear hb2 hr2 hb hr hj hlt
   rcases H4 with rfl | rfl | rfl | rfl
   all_goals
    go_wp2_with fail
    go_roundw
    case rel => exact ⟨_ + 1, _, by omega, rfl, HB.out, HR.out, hk2⟩
    case measure => simp [intOf]
  ·obtain rfl : j = 4 := by omega
   go_wp2_with (first
    | (refine wpList_load_row rfl 24 (.tmp 1) rfl w.heap.size rfl 24 _ (0, 0) _ hb Try.underlying24 rfl sizeW ?_)
    | (refine wpList_store_row rfl 24 (.tmp 2) (.tmp 14) rfl (w.heap.size + 1) _ rfl rfl 24 _ hr sizeW rfl (by simp [setW, Value.oneCell']) ?_))
   have hr2 : Blk (wr.setRow (w.heap.size + 1) (setW g)) (w.heap.size + 1) (setW g) 24 := hr.setRow _
   exact bodyPost_ret (v := .agg (setW g)) (results_cell_row Try.results127 _ _ (w.heap.size + 1) 24 _ (0, 0) _ rfl hr2 Try.underlying24 rfl sizeW) rfl ⟨g, rfl, Keep.setRow hk (Or.inl (by omega)) _⟩
set_option maxRecDepth 100000 in
set_option maxHeartbeats 2000000 in
theorem or_e (f h : Nat → Int) (w : World) :
  Calls Try.prog 126 #[.agg (setW f), .agg (setW h)] w fun e w' => ∃ g, e = .returned (.agg (setW g)) ∧ Keep Nb w w' := by
 simp only [setW]
 go_enter Try.func126, Try.ntmps126
 go_wp2_with fail
 go_loopw [6] (fun i wr => ∃ (j : Nat) (g : Nat → Int), j ≤ 4 ∧ i = .int .i64 j ∧ Blk wr w.heap.size (setW g) 24 ∧ Blk wr (w.heap.size + 1) (setW h) 24 ∧ Blk wr (w.heap.size + 1 + 1) (setW fun _ => 0) 24 ∧ Keep Nb w wr) (fun i _ => 4 - (intOf i).toNat)
 case atStart => exact ⟨0, f, by omega, rfl, ((Blk.new w _ _).alloc _).alloc _, (Blk.new' (by simp) _ _).alloc _, Blk.new' (by simp) _ _, kp⟩
 case round =>
  obtain ⟨j, g, hj, rfl, hb, hh, hr, hk⟩ := hrel
  have lb := hb.lt
  have lr := hr.lt
  have lh := hh.lt
  by_cases hlt : j < 4
  ·have c0 := hb.cell 0 (u := .int .u64 (g 0)) rfl
   have c1 := hb.cell 1 (u := .int .u64 (g 1)) rfl
   have c2 := hb.cell 2 (u := .int .u64 (g 2)) rfl
   have c3 := hb.cell 3 (u := .int .u64 (g 3)) rfl
   have d0 := hh.cell 0 (u := .int .u64 (h 0)) rfl
   have d1 := hh.cell 1 (u := .int .u64 (h 1)) rfl
   have d2 := hh.cell 2 (u := .int .u64 (h 2)) rfl
   have d3 := hh.cell 3 (u := .int .u64 (h 3)) rfl
   have hbD := hb.drew
   have hrD := hr.drew
   have hhD := hh.drew
   have hkD := hk.drew
   have f0 := hbD.frozen 0
   have f1 := hbD.frozen 1
   have f2 := hbD.frozen 2
   have f3 := hbD.frozen 3
   have g0 := hbD.cell 0 (u := .int .u64 (g 0)) rfl
   have g1 := hbD.cell 1 (u := .int .u64 (g 1)) rfl
   have g2 := hbD.cell 2 (u := .int .u64 (g 2)) rfl
   have g3 := hbD.cell 3 (u := .int .u64 (g 3)) rfl
   have hb2 := hbD.set j (.int .u64 (bits .or .u64 (g j) (h j)))
   rw [setW_set g j hlt] at hb2
   have hr2 := hrD.setOther (p := ⟨w.heap.size, j, none⟩) (by simp; try omega) (.int .u64 (bits .or .u64 (g j) (h j)))
   have hh2 := hhD.setOther (p := ⟨w.heap.size, j, none⟩) (by simp; try omega) (.int .u64 (bits .or .u64 (g j) (h j)))
   have hk2 : Keep Nb w (wr.drew.setCell ⟨w.heap.size, j, none⟩ (.int .u64 (bits .or .u64 (g j) (h j)))) := Keep.setCell hkD (Or.inl (Nat.le_refl _)) _
   have HB := Lib.hid hb2
   have HR := Lib.hid hr2
   have HH := Lib.hid hh2
   have HK := Lib.hid hk2
   have H4 := four hlt
   clear hb2 hr2 hh2 hk2 hb hr hh hbD hrD hhD hkD hj hlt
   rcases H4 with rfl | rfl | rfl | rfl
   all_goals
    go_wp2_with fail
    (refine wp_region_f [9] (InX Nb _) (by kernel_rfl) (InX.mk (Keep.drew (Keep.refl _ _))) (fun hI => ?_))
    have xx : ∀ k, ¬ Nb k := fun _ h => h
    generalize wr.drew = x0 at HB HR HH HK f0 f1 f2 f3 g0 g1 g2 g3 hI ⊢
    (refine wpI_from 0 ?_; (iterate 9 ((first | (refine wpI_take (v := ?_) rfl (by kernel_rfl) (fun _ _ _ h => h) hI rfl ?_ ?_; rotate_left; (focus (rintro _ ⟨E, rfl⟩; go_simp; (try with_reducible rfl)))) | refine wpI_skip rfl (by kernel_rfl) (fun _ _ _ h => h) hI rfl ?_); simp only [Act.put, tk, Nat.reduceAdd])); refine wpI_till ?_)
    (refine wpF_one 9 rfl (by kernel_rfl) rfl (fun K hK => ?_))
    go_simp
    (refine hK _ _ (fun h => absurd (by simp) h) (fun _ => ?_); clear hK K; try simp only [Act.put, tk])
    (refine wpF_done (by kernel_rfl) ?_ _)
    go_wp2_with fail
    go_roundw
    case rel => exact ⟨_ + 1, _, by omega, rfl, HB.out, HH.out, HR.out, HK.out⟩
    case measure => simp [intOf]
  ·obtain rfl : j = 4 := by omega
   go_wp2_with (first
    | (refine wpList_load_row rfl 24 (.tmp 2) rfl w.heap.size rfl 24 _ (0, 0) _ hb Try.underlying24 rfl sizeW ?_)
    | (refine wpList_store_row rfl 24 (.tmp 4) (.tmp 19) rfl (w.heap.size + 1 + 1) _ rfl rfl 24 _ hr sizeW rfl (by simp [setW, Value.oneCell']) ?_))
   have hr2 : Blk (wr.setRow (w.heap.size + 1 + 1) (setW g)) (w.heap.size + 1 + 1) (setW g) 24 := hr.setRow _
   exact bodyPost_ret (v := .agg (setW g)) (results_cell_row Try.results126 _ _ (w.heap.size + 1 + 1) 24 _ (0, 0) _ rfl hr2 Try.underlying24 rfl sizeW) rfl ⟨g, rfl, Keep.setRow hk (Or.inl (by omega)) _⟩
section
variable {ops : Array Oper} {Q : Exit → Act → World → Prop} {md : Region.Mode} {S : World → Prop} {fin : List Nat}
theorem wpF_takeW (i : Nat) {o : Oper} {n : Nat} {L : Array Bool} {a : Act} {w : World} (hi : ops[i]? = some o) (hc : takeOk md ops fin L i = true)
  (hQ : ∀ c a v w, Q (.panic c) (a.put o.dst v) w → Q (.panic c) a w) (hS : S w) (hw : Region.wanted o (yielded ops a.tmps) = true)
  (x : Operand) (ho : o.op = .load 24 x) (b : Nat) (hx : a.eval x = .pointer (some ⟨b, 0, none⟩)) (f : Nat → Int)
  (hg : ∀ w, S w → Blk w b (setW f) 24)
  (h : wpF Try.prog md ops Q S fin n (L.setIfInBounds i true) (a.put o.dst (.agg (setW f))) w) : wpF Try.prog md ops Q S fin (n + 1) L a w :=
 wpF_take2 i hi hc (fun c a w h => hQ c a _ w h) hS hw (fun w hw' => by
  unfold execOp
  simp only [ho, hx, Instr.loadAt, Instr.sureAddr, Sem.run_bind, Sem.run_pure, Result.andThen_ok, run_loadVar_row w b 24 24 (setW f) (0, 0) _ (hg w hw') Try.underlying24 rfl sizeW]) h
end
theorem InX.blk' {X : Nat → Prop} {W w : World} {b : Nat} {cs : Array Value} {t : TypeId} (h : InX X W w) (hb : Blk W b cs t) (hx : ¬ X b) : Blk w b cs t := hb.keep h.keep hx
theorem with_z (f : Nat → Int) (a b : Int) (ha : 0 ≤ a ∧ a < 256) (hb : 0 ≤ b ∧ b < 256) (w : World) :
  Calls Try.prog 129 #[.agg (setW f), .int .u8 a, .int .u8 b] w fun e w' => ∃ g, e = .returned (.agg (setW g)) ∧ Keep Nb w w' := by
 obtain ⟨x, rfl⟩ := Int.eq_ofNat_of_zero_le ha.1
 obtain ⟨y, rfl⟩ := Int.eq_ofNat_of_zero_le hb.1
 exact with_e f x y (by omega) (by omega) w
set_option maxRecDepth 100000 in
set_option maxHeartbeats 4000000 in
theorem class_e (s : ByteArray) (w : World) :
  Calls Try.prog 130 #[.string s] w fun e w' => ∃ g r, e = .returned (.tuple #[.agg (setW g), .bool r]) ∧ Keep Nb w w' := by
 go_enter Try.func130, Try.ntmps130
 go_upto_region 2 with fail
 have hr0 : Blk ((w.alloc (.cells (setW fun _ => 0) 24)).alloc (.cells (setW fun _ => 0) 24)) w.heap.size (setW fun _ => 0) 24 := (Blk.new w _ _).alloc _
 have hz0 : Blk ((w.alloc (.cells (setW fun _ => 0) 24)).alloc (.cells (setW fun _ => 0) 24)) (w.heap.size + 1) (setW fun _ => 0) 24 := Blk.new' (by simp) _ _
 have hk0 : Keep Nb w ((w.alloc (.cells (setW fun _ => 0) 24)).alloc (.cells (setW fun _ => 0) 24)) := Keep.alloc (Keep.alloc (Keep.refl _ _) _) _
 have hx : (w.alloc (.cells #[.int .u64 0, .int .u64 0, .int .u64 0, .int .u64 0] 24)).alloc (.cells #[.int .u64 0, .int .u64 0, .int .u64 0, .int .u64 0] 24) = (w.alloc (.cells (setW fun _ => 0) 24)).alloc (.cells (setW fun _ => 0) 24) := rfl
 rw [hx]; clear hx
 generalize (w.alloc (.cells (setW fun _ => 0) 24)).alloc (.cells (setW fun _ => 0) 24) = w1 at hr0 hz0 hk0 ⊢
 go_wp2_with (first
  | (go_at_call 129; refine (with_z _ _ _ (by decide) (by decide) _).mono ?_; rintro e w2 ⟨g, rfl, hkn⟩; replace hr0 := hr0.keep hkn id; replace hz0 := hz0.keep hkn id; replace hk0 := hk0.trans hkn (fun _ _ h => h); clear hkn)
  | (refine wpList_load_row rfl 24 (.tmp 4) rfl (w.heap.size + 1) rfl 24 _ (0, 0) _ hz0 Try.underlying24 rfl sizeW ?_)
  | (refine wpList_store_row rfl 24 (.tmp 2) (.tmp _) rfl w.heap.size _ rfl rfl 24 _ hr0 sizeW rfl (by simp [setW, Value.oneCell']) ?_))
 all_goals first
  | exact bodyPost_ret (results_sw Try.results130 _ _ w.heap.size (fun _ => 0) rfl (by exact hr0.setRow _)) rfl ⟨_, _, rfl, Keep.setRow hk0 (Or.inl (Nat.le_refl _)) _⟩
  | exact bodyPost_ret (results_sw Try.results130 _ _ w.heap.size _ rfl (by exact hr0.setRow _)) rfl ⟨_, _, rfl, Keep.setRow hk0 (Or.inl (Nat.le_refl _)) _⟩
theorem res_tmp3 {fn : Func} {t u v : Tmp} (h : fn.results = #[.tmp t, .tmp u, .tmp v]) (tmps : Array Value) (P : Program) (w : World) :
  (results fn tmps).run P w = .ok (.tuple #[tmps.getD t undef, tmps.getD u undef, tmps.getD v undef]) w := by
 simp [results, h]
def SingleR (s : ByteArray) (a : Nat) (e : Ending) : Prop := ∃ (c : Int) (q : Int) (ok : Bool), e = .returned (.tuple #[.int .u8 c, .int .i64 q, .bool ok]) ∧ (0 ≤ c ∧ c < 256) ∧ (ok = true → ∃ k : Nat, q = (k : Int) ∧ a < k ∧ k ≤ s.size)
theorem SingleR.no {s : ByteArray} {a : Nat} : SingleR s a (.returned (.tuple #[.int .u8 0, .int .i64 0, .bool false])) := ⟨0, 0, false, rfl, by omega, by simp⟩
theorem SingleR.yes {s : ByteArray} {a : Nat} (c : Int) (n : Nat) (hc : 0 ≤ c ∧ c < 256) (h : a + n ≤ s.size) (hn : 1 ≤ n) : SingleR s a (.returned (.tuple #[.int .u8 c, .int .i64 ((a : Int) + (n : Int)), .bool true])) := ⟨c, _, true, rfl, hc, fun _ => ⟨a + n, by omega, by omega, h⟩⟩
theorem byte_of {s : ByteArray} {a : Nat} (h : a < s.size) : ∃ d : UInt8, ∃ h : a < s.size, s[a] = d := ⟨_, h, rfl⟩
set_option maxRecDepth 100000 in
set_option maxHeartbeats 4000000 in
theorem single_e (s : ByteArray) (a : Nat) (w : World) (ha : a < s.size) (hs : s.size ≤ 600) :
  Calls Try.prog 131 #[.string s, .int .i64 (a : Int)] w fun e w' => SingleR s a e ∧ Keep Nb w w' := by
 obtain ⟨d0, b0, e0⟩ := byte_of ha
 have v0 : d0.toNat < 256 := d0.toNat_lt
 have i0 : (0 : Int) ≤ (a : Int) := by omega
 have i1 : (a : Int) < (s.size : Int) := by omega
 have i2 : decide ((s.size : Int) ≤ (a : Int)) = false := by simp; omega
 have W0 : IntKind.i64.wrap ((s.size : Int) - (a : Int)) = (s.size : Int) - (a : Int) := wr_small (by omega) (by omega)
 have W1 : IntKind.i64.wrap ((a : Int) + 1) = (a : Int) + 1 := wr_small (by omega) (by omega)
 have W2 : IntKind.i64.wrap ((a : Int) + 2) = (a : Int) + 2 := wr_small (by omega) (by omega)
 have W3 : IntKind.i64.wrap ((a : Int) + 3) = (a : Int) + 3 := wr_small (by omega) (by omega)
 have W5 : IntKind.i64.wrap ((a : Int) + 5) = (a : Int) + 5 := wr_small (by omega) (by omega)
 by_cases h2 : a + 2 ≤ s.size
 ·obtain ⟨d1, b1, e1⟩ := byte_of (show a + 1 < s.size by omega)
  have j0 : (0 : Int) ≤ (a : Int) + 1 := by omega
  have j1 : (a : Int) + 1 < (s.size : Int) := by omega
  have j2 : decide (2 ≤ (s.size : Int) - (a : Int)) = true := by simp; omega
  have j3 : ((a : Int) + 1).toNat = a + 1 := by omega
  by_cases h5 : a + 5 ≤ s.size
  ·obtain ⟨d2, b2, e2⟩ := byte_of (show a + 2 < s.size by omega)
   have v2 : d2.toNat < 256 := d2.toNat_lt
   have k0 : (0 : Int) ≤ (a : Int) + 2 := by omega
   have k1 : (a : Int) + 2 < (s.size : Int) := by omega
   have k2 : decide ((s.size : Int) - (a : Int) < 5) = false := by simp; omega
   have k3 : ((a : Int) + 2).toNat = a + 2 := by omega
   have k4 : (0 : Int) ≤ (a : Int) + 3 := by omega
   have k5 : (a : Int) + 3 ≤ (a : Int) + 5 := by omega
   have k6 : (a : Int) + 5 ≤ (s.size : Int) := by omega
   have HF := Lib.hid h5
   clear hs h2 h5 ha
   go_enter Try.func131, Try.ntmps131
   go_wp2_with fail
   all_goals
    (try simp only [Exit.inBlock, Exit.then]); refine bodyPost_ret (res_tmp3 rfl _ _ _) rfl ⟨?_, Keep.refl _ _⟩
    first
     | exact SingleR.no
     | exact SingleR.yes _ 1 (by omega) (by omega) (by omega)
     | exact SingleR.yes _ 2 (by omega) (by omega) (by omega)
     | exact SingleR.yes _ 5 (by omega) HF.out (by omega)
  ·have k2 : decide ((s.size : Int) - (a : Int) < 5) = true := by simp; omega
   clear hs h2 h5 ha
   go_enter Try.func131, Try.ntmps131
   go_wp2_with fail
   all_goals
    (try simp only [Exit.inBlock, Exit.then]); refine bodyPost_ret (res_tmp3 rfl _ _ _) rfl ⟨?_, Keep.refl _ _⟩
    first
     | exact SingleR.no
     | exact SingleR.yes _ 1 (by omega) (by omega) (by omega)
     | exact SingleR.yes _ 2 (by omega) (by omega) (by omega)
 ·have j2 : decide (2 ≤ (s.size : Int) - (a : Int)) = false := by simp; omega
  clear hs h2 ha
  go_enter Try.func131, Try.ntmps131
  go_wp2_with fail
  all_goals
   (try simp only [Exit.inBlock, Exit.then]); refine bodyPost_ret (res_tmp3 rfl _ _ _) rfl ⟨?_, Keep.refl _ _⟩
   first
    | exact SingleR.no
    | exact SingleR.yes _ 1 (by omega) (by omega) (by omega)
theorem results_sww {fn : Func} {p u v : Tmp} (h : fn.results = #[.cell p 24, .tmp u, .tmp v]) (tmps : Array Value) (w : World) (b : Nat) (g : Nat → Int)
  (hp : tmps.getD p undef = .pointer (some ⟨b, 0, none⟩)) (hg : Blk w b (setW g) 24) :
  (results fn tmps).run Try.prog w = .ok (.tuple #[.agg (setW g), tmps.getD u undef, tmps.getD v undef]) w := by
 have e1 : Sem.run Try.prog (asAddr (tmps[p]?.getD undef)) w = .ok ⟨b, 0, none⟩ w := by rw [← Array.getD_eq_getD_getElem?, hp]; rfl
 have e2 := run_loadVar_row (P := Try.prog) w b 24 24 (setW g) (0, 0) _ hg Try.underlying24 rfl sizeW
 simp only [results, h]
 simp [Sem.run_bind, Result.andThen, e1, e2]
def MemberR (s : ByteArray) (a : Nat) (e : Ending) : Prop := ∃ (g : Nat → Int) (q : Int) (ok : Bool), e = .returned (.tuple #[.agg (setW g), .int .i64 q, .bool ok]) ∧ (ok = true → ∃ k : Nat, q = (k : Int) ∧ a < k ∧ k ≤ s.size)
theorem MemberR.no {s : ByteArray} {a : Nat} (g : Nat → Int) (q : Int) : MemberR s a (.returned (.tuple #[.agg (setW g), .int .i64 q, .bool false])) := ⟨g, q, false, rfl, by simp⟩
theorem MemberR.yes {s : ByteArray} {a : Nat} (g : Nat → Int) (k : Nat) {q : Int} (r : Bool) (hq : q = (k : Int)) (h : a < k ∧ k ≤ s.size) : MemberR s a (.returned (.tuple #[.agg (setW g), .int .i64 q, .bool r])) := ⟨g, q, r, rfl, fun _ => ⟨k, hq, h⟩⟩
def MemberSays (s : ByteArray) : Prop := ∀ (a : Nat) (w : World), a < s.size → Calls Try.prog 125 #[.string s, .int .i64 (a : Int)] w fun e w' => MemberR s a e ∧ Keep Nb w w'
def BracketR (s : ByteArray) (a : Nat) (e : Ending) : Prop := ∃ (g : Nat → Int) (q x : Int), e = .returned (.tuple #[.agg (setW g), .int .i64 q, .int .i64 x]) ∧ (x = 0 → ∃ k : Nat, q = (k : Int) ∧ a < k ∧ k ≤ s.size)
theorem BracketR.no {s : ByteArray} {a : Nat} (g : Nat → Int) (q x : Int) (hx : x ≠ 0) : BracketR s a (.returned (.tuple #[.agg (setW g), .int .i64 q, .int .i64 x])) := ⟨g, q, x, rfl, fun h => absurd h hx⟩
theorem BracketR.yes {s : ByteArray} {a : Nat} (g : Nat → Int) (k : Nat) {q : Int} (hq : q = (k : Int)) (h : a < k ∧ k ≤ s.size) : BracketR s a (.returned (.tuple #[.agg (setW g), .int .i64 q, .int .i64 0])) := ⟨g, q, 0, rfl, fun _ => ⟨k, hq, h⟩⟩
set_option maxRecDepth 100000 in
set_option maxHeartbeats 8000000 in
theorem bracket_h (s : ByteArray) (HM : MemberSays s) (a : Nat) (w : World) (ha : a < s.size) (hs : s.size ≤ 600) :
  Calls Try.prog 118 #[.string s, .int .i64 (a : Int)] w fun e w' => BracketR s a e ∧ Keep Nb w w' := by
 have HMH := Lib.hid HM
 have HS := Lib.hid hs
 have HA := Lib.hid ha
 obtain ⟨d0, b0, e0⟩ := byte_of ha
 have i0 : (0 : Int) ≤ (a : Int) := by omega
 have i1 : (a : Int) < (s.size : Int) := by omega
 have i2 : decide ((a : Int) < 0) = false := by simp
 have i3 : decide ((s.size : Int) ≤ (a : Int)) = false := by simp; omega
 have W1 : IntKind.i64.wrap ((a : Int) + 1) = ((a + 1 : Nat) : Int) := by rw [wr_small (by omega) (by omega)]; omega
 clear HM hs ha
 go_enter Try.func118, Try.ntmps118
 go_upto_region 1 with fail
 have hr0 : Blk (w.alloc (.cells (setW fun _ => 0) 24)) w.heap.size (setW fun _ => 0) 24 := Blk.new w _ _
 have hk0 : Keep Nb w (w.alloc (.cells (setW fun _ => 0) 24)) := Keep.alloc (Keep.refl _ _) _
 have hsz : (w.alloc (.cells (setW fun _ => 0) 24)).heap.size = w.heap.size + 1 := by simp
 have hx : w.alloc (.cells #[.int .u64 0, .int .u64 0, .int .u64 0, .int .u64 0] 24) = w.alloc (.cells (setW fun _ => 0) 24) := rfl
 rw [hx]; clear hx
 generalize w.alloc (.cells (setW fun _ => 0) 24) = w1 at hr0 hk0 hsz ⊢
 by_cases hd : d0.toNat = 91
 case neg =>
  have m0 : ((d0.toNat : Int) != 91) = true := by simp; omega
  clear hd
  go_wp2_with (first
   | (refine wpList_store_row rfl 24 (.tmp 4) (.tmp _) rfl w.heap.size _ rfl rfl 24 _ hr0 sizeW rfl (by simp [setW, Value.oneCell']) ?_))
  exact bodyPost_ret (results_sww Try.results118 _ _ w.heap.size (fun _ => 0) rfl (by exact hr0.setRow _)) rfl ⟨BracketR.no _ _ _ (by decide), Keep.setRow hk0 (Or.inl (Nat.le_refl _)) _⟩
 have m0 : ((d0.toNat : Int) != 91) = false := by simp; omega
 clear hd
 go_upto_region 4 with fail
 go_cut [7] (fun y wx => ∃ β : Bool, y = .bool β ∧ Hid (β = true → a + 2 ≤ s.size) ∧ wx = w1)
 case first =>
  by_cases h2 : a + 1 < s.size
  ·obtain ⟨d1, b1, e1⟩ := byte_of h2
   have j0 : (0 : Int) ≤ ((a + 1 : Nat) : Int) := by omega
   have j1 : ((a + 1 : Nat) : Int) < (s.size : Int) := by omega
   have j3 : ((a : Int) + 1).toNat = a + 1 := by omega
   have j4 : (0 : Int) ≤ (a : Int) + 1 := by omega
   have j5 : (a : Int) + 1 < (s.size : Int) := by omega
   have H2 := Lib.hid h2
   clear h2
   go_wp2_with fail
   all_goals
    go_meet
    exact ⟨_, rfl, Lib.hid (fun _ => by have := H2.out; omega), rfl⟩
  ·have j2 : decide (((a + 1 : Nat) : Int) < (s.size : Int)) = false := by simp; omega
   have j3 : decide ((a : Int) + 1 < (s.size : Int)) = false := by simp; omega
   have j4 : decide (a + 1 < s.size) = false := by simp; omega
   clear h2
   go_wp2_with fail
   go_meet
   exact ⟨false, rfl, Lib.hid (by simp), rfl⟩
 case rest =>
 obtain ⟨β, rfl, HB, rfl⟩ := hcut
 go_upto_if 40 with fail
 go_cut [1] (fun y wx => ∃ j : Nat, y = .int .i64 (j : Int) ∧ Hid (a + 1 ≤ j ∧ j ≤ s.size) ∧ wx = wc)
 case first =>
  cases β with
  | false =>
   go_wp2_with fail
   go_meet
   exact ⟨a + 1, (by first | rfl | (simp)), Lib.hid (by have := HA.out; omega), rfl⟩
  | true =>
   have H2 := Lib.hid (HB.out rfl)
   clear HB
   have W2 : IntKind.i64.wrap (((a + 1 : Nat) : Int) + 1) = ((a + 2 : Nat) : Int) := by have := HS.out; have := H2.out; rw [wr_small (by omega) (by omega)]; omega
   have W2' : IntKind.i64.wrap ((a : Int) + 1 + 1) = ((a + 2 : Nat) : Int) := by have := HS.out; have := H2.out; rw [wr_small (by omega) (by omega)]; omega
   go_wp2_with fail
   go_meet
   exact ⟨a + 2, (by first | rfl | (simp)), Lib.hid (by have := H2.out; omega), rfl⟩
 case rest =>
 obtain ⟨j, rfl, HJ, rfl⟩ := hcut
 clear HB W1 m0 i0 i1 i2 i3 e0 b0
 go_upto_block 0 with fail
 have hb0 : Blk (wc.alloc (.cells (setW fun _ => 0) 24)) (w.heap.size + 1) (setW fun _ => 0) 24 := Blk.new' hsz.symm _ _
 have hrA := hr0.alloc (.cells (setW fun _ => 0) 24)
 have hkA := Keep.alloc hk0 (.cells (setW fun _ => 0) 24)
 have hx : wc.alloc (.cells #[.int .u64 0, .int .u64 0, .int .u64 0, .int .u64 0] 24) = wc.alloc (.cells (setW fun _ => 0) 24) := rfl
 rw [hx]; clear hx
 generalize wc.alloc (.cells (setW fun _ => 0) 24) = w2 at hb0 hrA hkA ⊢
 go_wp2_with fail
 go_loopw [1, 9] (fun i v wr => ∃ (j : Nat) (φ : Bool) (g : Nat → Int), i = .int .i64 (j : Int) ∧ v = .bool φ ∧ Hid (a + 1 ≤ j ∧ j ≤ s.size) ∧ Blk wr w.heap.size (setW fun _ => 0) 24 ∧ Blk wr (w.heap.size + 1) (setW g) 24 ∧ Keep Nb w wr) (fun i _ _ => s.size - (intOf i).toNat)
 case atStart => exact ⟨j, true, _, rfl, rfl, HJ, hrA, hb0, hkA⟩
 case round =>
  clear HJ hkA hrA hb0 hk0 hr0 hsz
  obtain ⟨j, φ, g, rfl, rfl, HJ, hr, hb, hk⟩ := hrel
  have n0 : (0 : Int) ≤ (j : Int) := by omega
  by_cases hj : j < s.size
  ·obtain ⟨d, b1, e1⟩ := byte_of hj
   have n1 : (j : Int) < (s.size : Int) := by omega
   have n2 : decide ((s.size : Int) ≤ (j : Int)) = false := by simp; omega
   have n3 : decide (s.size ≤ j) = false := by simp; omega
   have HJ2 := Lib.hid hj
   clear hj
   by_cases hx : d.toNat = 93 ∧ φ = false
   ·obtain ⟨hx1, rfl⟩ := hx
    have m1 : ((d.toNat : Int) == 93) = true := by simp [hx1]
    have WW : IntKind.i64.wrap ((j : Int) + 1) = (j : Int) + 1 := wr_small (by omega) (by have := HJ.out; have := HS.out; omega)
    clear hx1
    cases β with
    | false =>
     go_wp2_with (first
      | (refine wpList_load_row rfl 24 (.tmp 8) rfl (w.heap.size + 1) rfl 24 _ (0, 0) _ hb Try.underlying24 rfl sizeW ?_)
      | (refine wpList_store_row rfl 24 (.tmp 4) (.tmp _) rfl w.heap.size _ rfl rfl 24 _ hr sizeW rfl (by simp [setW, Value.oneCell']) ?_))
     exact bodyPost_ret (results_sww Try.results118 _ _ w.heap.size g rfl (by exact hr.setRow _)) rfl ⟨BracketR.yes _ (j + 1) (by omega) (by have := HJ2.out; have := HJ.out; omega), Keep.setRow hk (Or.inl (Nat.le_refl _)) _⟩
    | true =>
     go_upto_region 19 with fail
     have hrN := hr
     go_wp2_with (first
      | (refine wpList_load_row rfl 24 (.tmp 8) rfl (w.heap.size + 1) rfl 24 _ (0, 0) _ hb Try.underlying24 rfl sizeW ?_)
      | (refine wpList_load_row rfl 24 (.tmp 8) rfl (w.heap.size + 1) rfl 24 _ (0, 0) _ (hb.setRow _) Try.underlying24 rfl sizeW ?_)
      | (go_at_call 127; refine (not_e g _).mono ?_; rintro e w3 ⟨g2, rfl, kd⟩; replace hr := hr.keep kd (fun h => h); replace hb := hb.keep kd (fun h => h); replace hk := Keep.trans hk kd (fun _ _ h => h); clear kd)
      | (refine wpList_store_row rfl 24 (.tmp 8) (.tmp _) rfl (w.heap.size + 1) _ rfl rfl 24 _ hb sizeW rfl (by simp [setW, Value.oneCell']) ?_)
      | (refine wpList_store_row rfl 24 (.tmp 4) (.tmp _) rfl w.heap.size _ rfl rfl 24 _ (hr.setRowOther (by omega) _) sizeW rfl (by simp [setW, Value.oneCell']) ?_))
     exact bodyPost_ret (results_sww Try.results118 _ _ w.heap.size _ rfl (by exact (hr.setRowOther (by omega) _).setRow (setW g2))) rfl ⟨BracketR.yes _ (j + 1) (by omega) (by have := HJ2.out; have := HJ.out; omega), Keep.setRow (Keep.setRow hk (Or.inl (by omega)) _) (Or.inl (Nat.le_refl _)) _⟩
   ·go_upto_region 12 with fail
    go_cut [55] (fun y wx => y = .bool false ∧ wx = wr)
    case first =>
     by_cases h93 : d.toNat = 93
     ·have m1 : ((d.toNat : Int) == 93) = true := by simp [h93]
      obtain rfl : φ = true := by cases φ <;> simp_all
      clear hx h93
      go_wp2_with fail
      go_meet
      exact ⟨rfl, rfl⟩
     ·have m1 : ((d.toNat : Int) == 93) = false := by simp; omega
      clear hx h93
      go_wp2_with fail
      go_meet
      exact ⟨rfl, rfl⟩
    case rest =>
    obtain ⟨rfl, rfl⟩ := hcut
    clear hx n1 n2 n3 e1 b1
    go_wp2_with fail
    refine (HMH.out j wc HJ2.out).mono ?_
    rintro e w3 ⟨⟨g3, q, ok, he, hq⟩, kd⟩
    subst he
    have hr3 := hr.keep kd (fun h => h)
    have hb3 := hb.keep kd (fun h => h)
    have hk3 := Keep.trans hk kd (fun _ _ h => h)
    have lb := hb3.lt
    clear kd hr hb hk
    have hn1 : w.heap.size ≠ w3.heap.size := by omega
    have hn2 : w.heap.size + 1 ≠ w3.heap.size := by omega
    have HN1 := Lib.hid hn1
    have HN2 := Lib.hid hn2
    have HQ := Lib.hid hq
    clear hn1 hn2 hq
    have HB3 : Blk ((w3.alloc (.cells (setW fun _ => 0) 24)).setRow w3.heap.size (setW g3)) w3.heap.size (setW g3) 24 := (Blk.new w3 _ _).setRow _
    have hr4 : Blk ((w3.alloc (.cells (setW fun _ => 0) 24)).setRow w3.heap.size (setW g3)) w.heap.size (setW fun _ => 0) 24 := (hr3.alloc _).setRowOther HN1.out _
    have hb4 : Blk ((w3.alloc (.cells (setW fun _ => 0) 24)).setRow w3.heap.size (setW g3)) (w.heap.size + 1) (setW g) 24 := (hb3.alloc _).setRowOther HN2.out _
    have hk4 : Keep Nb w ((w3.alloc (.cells (setW fun _ => 0) 24)).setRow w3.heap.size (setW g3)) := Keep.setRow (Keep.alloc hk3 _) (Or.inl (by have := hk3.size; omega)) _
    go_upto_region 14 with (refine wpList_store_row rfl 24 (.tmp 10) (.tmp _) rfl w3.heap.size _ rfl rfl 24 _ (Blk.new w3 (setW fun _ => 0) 24) sizeW rfl (by simp [setW, Value.oneCell']) ?_)
    have hx : (w3.alloc (.cells #[.int .u64 0, .int .u64 0, .int .u64 0, .int .u64 0] 24)) = (w3.alloc (.cells (setW fun _ => 0) 24)) := rfl
    try rw [hx]
    clear hx
    generalize (w3.alloc (.cells (setW fun _ => 0) 24)).setRow w3.heap.size (setW g3) = w4 at HB3 hr4 hb4 hk4 ⊢
    cases ok with
    | false =>
     clear HQ
     go_wp2_with (first
      | (refine wpList_store_row rfl 24 (.tmp 4) (.tmp _) rfl w.heap.size _ rfl rfl 24 _ hr4 sizeW rfl (by simp [setW, Value.oneCell']) ?_))
     exact bodyPost_ret (results_sww Try.results118 _ _ w.heap.size (fun _ => 0) rfl (by exact hr4.setRow _)) rfl ⟨BracketR.no _ _ _ (by decide), Keep.setRow hk4 (Or.inl (Nat.le_refl _)) _⟩
    | true =>
     obtain ⟨k, rfl, hk1, hk2⟩ := HQ.out rfl
     have HK : Hid (j < k ∧ k ≤ s.size) := Lib.hid ⟨hk1, hk2⟩
     clear HQ hk1 hk2
     go_wp2_with (first
      | (refine wpList_load_row rfl 24 (.tmp 8) rfl (w.heap.size + 1) rfl 24 _ (0, 0) _ hb4 Try.underlying24 rfl sizeW ?_)
      | (refine wpList_load_row rfl 24 (.tmp 10) rfl w3.heap.size rfl 24 _ (0, 0) _ HB3 Try.underlying24 rfl sizeW ?_)
      | (go_at_call 126; refine (or_e g g3 _).mono ?_; rintro e w5 ⟨g5, rfl, kd⟩; replace hr4 := hr4.keep kd (fun h => h); replace hb4 := hb4.keep kd (fun h => h); replace hk4 := Keep.trans hk4 kd (fun _ _ h => h); clear kd)
      | (refine wpList_store_row rfl 24 (.tmp 8) (.tmp _) rfl (w.heap.size + 1) _ rfl rfl 24 _ hb4 sizeW rfl (by simp [setW, Value.oneCell']) ?_))
     go_roundw
     case rel => exact ⟨k, false, g5, rfl, rfl, Lib.hid (by have := HK.out; have := HJ.out; omega), hr4.setRowOther (by omega) _, hb4.setRow _, Keep.setRow hk4 (Or.inl (by omega)) _⟩
     case measure => simp [intOf]; have := HK.out; omega
  ·obtain rfl : j = s.size := by have := HJ.out; omega
   have n2 : decide ((s.size : Int) ≤ (s.size : Int)) = true := by simp
   clear hj
   go_wp2_with (first
    | (refine wpList_store_row rfl 24 (.tmp 4) (.tmp _) rfl w.heap.size _ rfl rfl 24 _ hr sizeW rfl (by simp [setW, Value.oneCell']) ?_))
   exact bodyPost_ret (results_sww Try.results118 _ _ w.heap.size (fun _ => 0) rfl (by exact hr.setRow _)) rfl ⟨BracketR.no _ _ _ (by decide), Keep.setRow hk (Or.inl (Nat.le_refl _)) _⟩
def r20ops : List Oper :=
 (⟨some 156, .move (.tmp 13), 4, "ref.go:115", #[], none⟩ : Oper) ::
 (⟨some 157, .unOp .not 4 (.tmp 156), 4, "ref.go:115", #[⟨0, .data⟩], none⟩ : Oper) ::
 (⟨some 158, .move (.tmp 157), 4, "ref.go:115", #[⟨1, .data⟩], none⟩ : Oper) ::
 (⟨some 159, .move (.tmp 0), 9, "ref.go:115", #[⟨2, .guard⟩], some (2, false)⟩ : Oper) ::
 (⟨some 160, .call { callee := .builtin .len, args := #[.tmp 159], argTypes := #[9] }, 3, "ref.go:115", #[⟨3, .data⟩, ⟨2, .guard⟩], some (2, false)⟩ : Oper) ::
 (⟨some 161, .move (.tmp 12), 3, "ref.go:115", #[⟨2, .guard⟩], some (2, false)⟩ : Oper) ::
 (⟨some 162, .binOp BinOp.sub 3 (.tmp 160) (.tmp 161) 3, 3, "ref.go:115", #[⟨4, .data⟩, ⟨5, .data⟩, ⟨2, .guard⟩], some (2, false)⟩ : Oper) ::
 (⟨some 163, .binOp BinOp.geq 3 (.tmp 162) (.const (.int .i64 3)) 3, 4, "ref.go:115", #[⟨6, .data⟩, ⟨2, .guard⟩], some (2, false)⟩ : Oper) ::
 (⟨some 164, .move (.tmp 163), 4, "ref.go:115", #[⟨7, .data⟩, ⟨2, .chain⟩, ⟨2, .guard⟩], some (2, false)⟩ : Oper) ::
 (⟨some 165, .move (.tmp 0), 9, "ref.go:115", #[⟨8, .guard⟩], some (8, true)⟩ : Oper) ::
 (⟨some 166, .move (.tmp 12), 3, "ref.go:115", #[⟨8, .guard⟩], some (8, true)⟩ : Oper) ::
 (⟨some 167, .binOp BinOp.add 3 (.tmp 166) (.const (.int .i64 1)) 3, 3, "ref.go:115", #[⟨10, .data⟩, ⟨8, .guard⟩], some (8, true)⟩ : Oper) ::
 (⟨some 168, .index 9 (.tmp 165) (.tmp 167), 5, "ref.go:115", #[⟨9, .data⟩, ⟨11, .data⟩, ⟨8, .guard⟩], some (8, true)⟩ : Oper) ::
 (⟨some 169, .binOp BinOp.eql 5 (.tmp 168) (.const (.int .u8 91)) 5, 4, "ref.go:115", #[⟨12, .data⟩, ⟨8, .guard⟩], some (8, true)⟩ : Oper) ::
 (⟨some 170, .pick (.tmp 164) (.tmp 169) (.const (.bool false)), 4, "ref.go:115", #[⟨8, .data⟩, ⟨13, .data⟩, ⟨2, .guard⟩], some (2, false)⟩ : Oper) ::
 (⟨some 171, .move (.tmp 170), 4, "ref.go:115", #[⟨14, .data⟩, ⟨8, .chain⟩, ⟨2, .guard⟩], some (2, false)⟩ : Oper) ::
 (⟨some 172, .move (.tmp 0), 9, "ref.go:115", #[⟨15, .guard⟩], some (15, true)⟩ : Oper) ::
 (⟨some 173, .move (.tmp 12), 3, "ref.go:115", #[⟨15, .guard⟩], some (15, true)⟩ : Oper) ::
 (⟨some 174, .binOp BinOp.add 3 (.tmp 173) (.const (.int .i64 2)) 3, 3, "ref.go:115", #[⟨17, .data⟩, ⟨15, .guard⟩], some (15, true)⟩ : Oper) ::
 (⟨some 175, .index 9 (.tmp 172) (.tmp 174), 5, "ref.go:115", #[⟨16, .data⟩, ⟨18, .data⟩, ⟨15, .guard⟩], some (15, true)⟩ : Oper) ::
 (⟨some 176, .binOp BinOp.eql 5 (.tmp 175) (.const (.int .u8 61)) 5, 4, "ref.go:115", #[⟨19, .data⟩, ⟨15, .guard⟩], some (15, true)⟩ : Oper) ::
 (⟨some 177, .move (.tmp 176), 4, "ref.go:115", #[⟨20, .data⟩, ⟨15, .chain⟩, ⟨15, .guard⟩], some (15, true)⟩ : Oper) ::
 (⟨some 178, .move (.tmp 0), 9, "ref.go:115", #[⟨21, .guard⟩], some (21, false)⟩ : Oper) ::
 (⟨some 179, .move (.tmp 12), 3, "ref.go:115", #[⟨21, .guard⟩], some (21, false)⟩ : Oper) ::
 (⟨some 180, .binOp BinOp.add 3 (.tmp 179) (.const (.int .i64 2)) 3, 3, "ref.go:115", #[⟨23, .data⟩, ⟨21, .guard⟩], some (21, false)⟩ : Oper) ::
 (⟨some 181, .index 9 (.tmp 178) (.tmp 180), 5, "ref.go:115", #[⟨22, .data⟩, ⟨24, .data⟩, ⟨21, .guard⟩], some (21, false)⟩ : Oper) ::
 (⟨some 182, .binOp BinOp.eql 5 (.tmp 181) (.const (.int .u8 58)) 5, 4, "ref.go:115", #[⟨25, .data⟩, ⟨21, .guard⟩], some (21, false)⟩ : Oper) ::
 (⟨some 183, .pick (.tmp 177) (.const (.bool true)) (.tmp 182), 4, "ref.go:115", #[⟨21, .data⟩, ⟨26, .data⟩, ⟨15, .guard⟩], some (15, true)⟩ : Oper) ::
 (⟨some 184, .pick (.tmp 171) (.tmp 183) (.const (.bool false)), 4, "ref.go:115", #[⟨15, .data⟩, ⟨27, .data⟩, ⟨2, .guard⟩], some (2, false)⟩ : Oper) ::
 (⟨some 185, .pick (.tmp 158) (.const (.bool true)) (.tmp 184), 4, "ref.go:115", #[⟨2, .data⟩, ⟨28, .data⟩], none⟩ : Oper) ::
 (⟨some 186, .move (.tmp 185), 4, "ref.go:115", #[⟨29, .data⟩, ⟨21, .chain⟩], none⟩ : Oper) ::
 (⟨some 187, .move (.tmp 11), 5, "ref.go:115", #[⟨30, .guard⟩], some (30, false)⟩ : Oper) ::
 (⟨some 188, .move (.tmp 14), 5, "ref.go:115", #[⟨30, .guard⟩], some (30, false)⟩ : Oper) ::
 (⟨some 189, .binOp BinOp.gtr 5 (.tmp 187) (.tmp 188) 5, 4, "ref.go:115", #[⟨31, .data⟩, ⟨32, .data⟩, ⟨30, .guard⟩], some (30, false)⟩ : Oper) ::
 (⟨some 190, .pick (.tmp 186) (.const (.bool true)) (.tmp 189), 4, "ref.go:115", #[⟨30, .data⟩, ⟨33, .data⟩], none⟩ : Oper) ::
 (⟨some 191, .move (.tmp 190), 4, "ref.go:115", #[⟨34, .data⟩, ⟨30, .chain⟩], none⟩ : Oper) ::
 (⟨some 192, .move (.tmp 0), 9, "ref.go:115", #[⟨35, .guard⟩], some (35, false)⟩ : Oper) ::
 (⟨some 193, .move (.tmp 12), 3, "ref.go:115", #[⟨35, .guard⟩], some (35, false)⟩ : Oper) ::
 (⟨some 194, .binOp BinOp.add 3 (.tmp 193) (.const (.int .i64 1)) 3, 3, "ref.go:115", #[⟨37, .data⟩, ⟨35, .guard⟩], some (35, false)⟩ : Oper) ::
 (⟨some 195, .index 9 (.tmp 192) (.tmp 194), 5, "ref.go:115", #[⟨36, .data⟩, ⟨38, .data⟩, ⟨35, .guard⟩], some (35, false)⟩ : Oper) ::
 (⟨some 196, .binOp BinOp.eql 5 (.tmp 195) (.const (.int .u8 45)) 5, 4, "ref.go:115", #[⟨39, .data⟩, ⟨35, .guard⟩], some (35, false)⟩ : Oper) ::
 (⟨some 197, .move (.tmp 196), 4, "ref.go:115", #[⟨40, .data⟩, ⟨35, .chain⟩, ⟨35, .guard⟩], some (35, false)⟩ : Oper) ::
 (⟨some 198, .move (.tmp 0), 9, "ref.go:115", #[⟨41, .guard⟩], some (41, true)⟩ : Oper) ::
 (⟨some 199, .call { callee := .builtin .len, args := #[.tmp 198], argTypes := #[9] }, 3, "ref.go:115", #[⟨42, .data⟩, ⟨41, .guard⟩], some (41, true)⟩ : Oper) ::
 (⟨some 200, .move (.tmp 15), 3, "ref.go:115", #[⟨41, .guard⟩], some (41, true)⟩ : Oper) ::
 (⟨some 201, .binOp BinOp.sub 3 (.tmp 199) (.tmp 200) 3, 3, "ref.go:115", #[⟨43, .data⟩, ⟨44, .data⟩, ⟨41, .guard⟩], some (41, true)⟩ : Oper) ::
 (⟨some 202, .binOp BinOp.lss 3 (.tmp 201) (.const (.int .i64 1)) 3, 4, "ref.go:115", #[⟨45, .data⟩, ⟨41, .guard⟩], some (41, true)⟩ : Oper) ::
 (⟨some 203, .move (.tmp 202), 4, "ref.go:115", #[⟨46, .data⟩, ⟨41, .chain⟩, ⟨41, .guard⟩], some (41, true)⟩ : Oper) ::
 (⟨some 204, .move (.tmp 0), 9, "ref.go:115", #[⟨47, .guard⟩], some (47, false)⟩ : Oper) ::
 (⟨some 205, .move (.tmp 15), 3, "ref.go:115", #[⟨47, .guard⟩], some (47, false)⟩ : Oper) ::
 (⟨some 206, .index 9 (.tmp 204) (.tmp 205), 5, "ref.go:115", #[⟨48, .data⟩, ⟨49, .data⟩, ⟨47, .guard⟩], some (47, false)⟩ : Oper) ::
 (⟨some 207, .binOp BinOp.neq 5 (.tmp 206) (.const (.int .u8 93)) 5, 4, "ref.go:115", #[⟨50, .data⟩, ⟨47, .guard⟩], some (47, false)⟩ : Oper) ::
 (⟨some 208, .pick (.tmp 203) (.const (.bool true)) (.tmp 207), 4, "ref.go:115", #[⟨47, .data⟩, ⟨51, .data⟩, ⟨41, .guard⟩], some (41, true)⟩ : Oper) ::
 (⟨some 209, .pick (.tmp 197) (.tmp 208) (.const (.bool false)), 4, "ref.go:115", #[⟨41, .data⟩, ⟨52, .data⟩, ⟨35, .guard⟩], some (35, false)⟩ : Oper) ::
 (⟨some 210, .pick (.tmp 191) (.const (.bool true)) (.tmp 209), 4, "ref.go:115", #[⟨35, .data⟩, ⟨53, .data⟩], none⟩ : Oper) :: []
def R20 (s : ByteArray) (k k2 : Nat) (c c2 : Int) : Prop := ∀ (u1 u2 u3 u4 u5 u6 u7 u8 u9 u10 u16 u17 u18 u19 u20 u21 u22 u23 u24 u25 u26 u27 u28 u29 u30 u31 u32 u33 u34 u35 u36 u37 u38 u39 u40 u41 u42 u43 u44 u45 u46 u47 u48 u49 u50 u51 u52 u53 u54 u55 u56 u57 u58 u59 u60 u61 u62 u63 u64 u65 u66 u67 u68 u69 u70 u71 u72 u73 u74 u75 u76 u77 u78 u79 u80 u81 u82 u83 u84 u85 u86 u87 u88 u89 u90 u91 u92 u93 u94 u95 u96 u97 u98 u99 u100 u101 u102 u103 u104 u105 u106 u107 u108 u109 u110 u111 u112 u113 u114 u115 u116 u117 u118 u119 u120 u121 u122 u123 u124 u125 u126 u127 u128 u129 u130 u131 u132 u133 u134 u135 u136 u137 u138 u139 u140 u141 u142 u143 u144 u145 u146 u147 u148 u149 u150 u151 u152 u153 u154 u155 u156 u157 u158 u159 u160 u161 u162 u163 u164 u165 u166 u167 u168 u169 u170 u171 u172 u173 u174 u175 u176 u177 u178 u179 u180 u181 u182 u183 u184 u185 u186 u187 u188 u189 u190 u191 u192 u193 u194 u195 u196 u197 u198 u199 u200 u201 u202 u203 u204 u205 u206 u207 u208 u209 u210 u211 u212 u213 u214 u215 u216 : Value) (J : Act → World → Prop) (Q : Exit → Act → World → Prop) (w : World)
  (_ : ∀ (β : Bool) (v156 v157 v158 v159 v160 v161 v162 v163 v164 v165 v166 v167 v168 v169 v170 v171 v172 v173 v174 v175 v176 v177 v178 v179 v180 v181 v182 v183 v184 v185 v186 v187 v188 v189 v190 v191 v192 v193 v194 v195 v196 v197 v198 v199 v200 v201 v202 v203 v204 v205 v206 v207 v208 v209 : Value), J ⟨#[.string s, u1, u2, u3, u4, u5, u6, u7, u8, u9, u10, .int .u8 c, .int .i64 (k : Int), .bool true, .int .u8 c2, .int .i64 (k2 : Int), u16, u17, u18, u19, u20, u21, u22, u23, u24, u25, u26, u27, u28, u29, u30, u31, u32, u33, u34, u35, u36, u37, u38, u39, u40, u41, u42, u43, u44, u45, u46, u47, u48, u49, u50, u51, u52, u53, u54, u55, u56, u57, u58, u59, u60, u61, u62, u63, u64, u65, u66, u67, u68, u69, u70, u71, u72, u73, u74, u75, u76, u77, u78, u79, u80, u81, u82, u83, u84, u85, u86, u87, u88, u89, u90, u91, u92, u93, u94, u95, u96, u97, u98, u99, u100, u101, u102, u103, u104, u105, u106, u107, u108, u109, u110, u111, u112, u113, u114, u115, u116, u117, u118, u119, u120, u121, u122, u123, u124, u125, u126, u127, u128, u129, u130, u131, u132, u133, u134, u135, u136, u137, u138, u139, u140, u141, u142, u143, u144, u145, u146, u147, u148, u149, u150, u151, u152, u153, u154, u155, v156, v157, v158, v159, v160, v161, v162, v163, v164, v165, v166, v167, v168, v169, v170, v171, v172, v173, v174, v175, v176, v177, v178, v179, v180, v181, v182, v183, v184, v185, v186, v187, v188, v189, v190, v191, v192, v193, v194, v195, v196, v197, v198, v199, v200, v201, v202, v203, v204, v205, v206, v207, v208, v209, .bool β, u211, u212, u213, u214, u215, u216], []⟩ w),
  Code.wp Try.prog (.region 20 r20ops.toArray false) (Exit.then J Q) ⟨#[.string s, u1, u2, u3, u4, u5, u6, u7, u8, u9, u10, .int .u8 c, .int .i64 (k : Int), .bool true, .int .u8 c2, .int .i64 (k2 : Int), u16, u17, u18, u19, u20, u21, u22, u23, u24, u25, u26, u27, u28, u29, u30, u31, u32, u33, u34, u35, u36, u37, u38, u39, u40, u41, u42, u43, u44, u45, u46, u47, u48, u49, u50, u51, u52, u53, u54, u55, u56, u57, u58, u59, u60, u61, u62, u63, u64, u65, u66, u67, u68, u69, u70, u71, u72, u73, u74, u75, u76, u77, u78, u79, u80, u81, u82, u83, u84, u85, u86, u87, u88, u89, u90, u91, u92, u93, u94, u95, u96, u97, u98, u99, u100, u101, u102, u103, u104, u105, u106, u107, u108, u109, u110, u111, u112, u113, u114, u115, u116, u117, u118, u119, u120, u121, u122, u123, u124, u125, u126, u127, u128, u129, u130, u131, u132, u133, u134, u135, u136, u137, u138, u139, u140, u141, u142, u143, u144, u145, u146, u147, u148, u149, u150, u151, u152, u153, u154, u155, u156, u157, u158, u159, u160, u161, u162, u163, u164, u165, u166, u167, u168, u169, u170, u171, u172, u173, u174, u175, u176, u177, u178, u179, u180, u181, u182, u183, u184, u185, u186, u187, u188, u189, u190, u191, u192, u193, u194, u195, u196, u197, u198, u199, u200, u201, u202, u203, u204, u205, u206, u207, u208, u209, u210, u211, u212, u213, u214, u215, u216], []⟩ w
set_option maxRecDepth 100000 in
set_option maxHeartbeats 8000000 in
theorem r20_a (s : ByteArray) (k k2 : Nat) (c c2 : Int) (hs : s.size ≤ 600) (hk : k + 2 ≤ s.size) (hk2 : k2 ≤ s.size) (d1 : UInt8) (b1 : k + 1 < s.size) (e1 : s[k + 1] = d1) (h3 : k + 3 ≤ s.size) (h91 : d1.toNat = 91) : R20 s k k2 c c2 := by
 have i0 : (0 : Int) ≤ (k : Int) := by omega
 have i1 : (k : Int) < (s.size : Int) := by omega
 have W0 : IntKind.i64.wrap ((s.size : Int) - (k : Int)) = (s.size : Int) - (k : Int) := wr_small (by omega) (by omega)
 have W1 : IntKind.i64.wrap ((k : Int) + 1) = (k : Int) + 1 := wr_small (by omega) (by omega)
 have W2 : IntKind.i64.wrap ((k : Int) + 2) = (k : Int) + 2 := wr_small (by omega) (by omega)
 have W4 : IntKind.i64.wrap ((s.size : Int) - (k2 : Int)) = (s.size : Int) - (k2 : Int) := wr_small (by omega) (by omega)
 have j0 : (0 : Int) ≤ (k : Int) + 1 := by omega
 have j1 : (k : Int) + 1 < (s.size : Int) := by omega
 have j3 : ((k : Int) + 1).toNat = k + 1 := by omega
 have m0 : (0 : Int) ≤ (k2 : Int) := by omega
 obtain ⟨d2, b2, e2⟩ := byte_of (show k + 2 < s.size by omega)
 have l0 : (0 : Int) ≤ (k : Int) + 2 := by omega
 have l1 : (k : Int) + 2 < (s.size : Int) := by omega
 have l2 : decide (3 ≤ (s.size : Int) - (k : Int)) = true := by simp; omega
 have l3 : ((k : Int) + 2).toNat = k + 2 := by omega
 have hA : d1.toNat = 91 := h91
 have t0 : ((d1.toNat : Int) == 91) = true := by simp [hA]
 intro u1 u2 u3 u4 u5 u6 u7 u8 u9 u10 u16 u17 u18 u19 u20 u21 u22 u23 u24 u25 u26 u27 u28 u29 u30 u31 u32 u33 u34 u35 u36 u37 u38 u39 u40 u41 u42 u43 u44 u45 u46 u47 u48 u49 u50 u51 u52 u53 u54 u55 u56 u57 u58 u59 u60 u61 u62 u63 u64 u65 u66 u67 u68 u69 u70 u71 u72 u73 u74 u75 u76 u77 u78 u79 u80 u81 u82 u83 u84 u85 u86 u87 u88 u89 u90 u91 u92 u93 u94 u95 u96 u97 u98 u99 u100 u101 u102 u103 u104 u105 u106 u107 u108 u109 u110 u111 u112 u113 u114 u115 u116 u117 u118 u119 u120 u121 u122 u123 u124 u125 u126 u127 u128 u129 u130 u131 u132 u133 u134 u135 u136 u137 u138 u139 u140 u141 u142 u143 u144 u145 u146 u147 u148 u149 u150 u151 u152 u153 u154 u155 u156 u157 u158 u159 u160 u161 u162 u163 u164 u165 u166 u167 u168 u169 u170 u171 u172 u173 u174 u175 u176 u177 u178 u179 u180 u181 u182 u183 u184 u185 u186 u187 u188 u189 u190 u191 u192 u193 u194 u195 u196 u197 u198 u199 u200 u201 u202 u203 u204 u205 u206 u207 u208 u209 u210 u211 u212 u213 u214 u215 u216 J Q w hJ
 unfold r20ops
 by_cases hB : d2.toNat = 61
 ·have t5 : ((d2.toNat : Int) == 61) = true := by simp [hB]
  clear hs hk hk2 h3 hA hB h91
  go_wp2_with fail
  exact hJ _ _ _ _ _ _ _ _ _ _ _ _ _ _ _ _ _ _ _ _ _ _ _ _ _ _ _ _ _ _ _ _ _ _ _ _ _ _ _ _ _ _ _ _ _ _ _ _ _ _ _ _ _ _ _ 
 have t5 : ((d2.toNat : Int) == 61) = false := beq_eq_false_iff_ne.2 (by omega)
 by_cases hC : d2.toNat = 58
 ·have t6 : ((d2.toNat : Int) == 58) = true := by simp [hC]
  clear hs hk hk2 h3 hA hB hC h91
  go_wp2_with fail
  exact hJ _ _ _ _ _ _ _ _ _ _ _ _ _ _ _ _ _ _ _ _ _ _ _ _ _ _ _ _ _ _ _ _ _ _ _ _ _ _ _ _ _ _ _ _ _ _ _ _ _ _ _ _ _ _ _ 
 have t6 : ((d2.toNat : Int) == 58) = false := beq_eq_false_iff_ne.2 (by omega)
 have t7 : ((d1.toNat : Int) == 45) = false := beq_eq_false_iff_ne.2 (by omega)
 by_cases hD : c2 < c
 ·have t1 : decide (c2 < c) = true := by simpa using hD
  clear hs hk hk2 h3 hA hB hC h91 hD
  go_wp2_with fail
  exact hJ _ _ _ _ _ _ _ _ _ _ _ _ _ _ _ _ _ _ _ _ _ _ _ _ _ _ _ _ _ _ _ _ _ _ _ _ _ _ _ _ _ _ _ _ _ _ _ _ _ _ _ _ _ _ _ 
 have t1 : decide (c2 < c) = false := by simpa using hD
 clear hs hk hk2 h3 hA hB hC h91 hD
 go_wp2_with fail
 exact hJ _ _ _ _ _ _ _ _ _ _ _ _ _ _ _ _ _ _ _ _ _ _ _ _ _ _ _ _ _ _ _ _ _ _ _ _ _ _ _ _ _ _ _ _ _ _ _ _ _ _ _ _ _ _ _ 
set_option maxRecDepth 100000 in
set_option maxHeartbeats 8000000 in
theorem r20_b (s : ByteArray) (k k2 : Nat) (c c2 : Int) (hs : s.size ≤ 600) (hk : k + 2 ≤ s.size) (hk2 : k2 ≤ s.size) (d1 : UInt8) (b1 : k + 1 < s.size) (e1 : s[k + 1] = d1) (h3 : k + 3 ≤ s.size) (h91 : d1.toNat ≠ 91) : R20 s k k2 c c2 := by
 have i0 : (0 : Int) ≤ (k : Int) := by omega
 have i1 : (k : Int) < (s.size : Int) := by omega
 have W0 : IntKind.i64.wrap ((s.size : Int) - (k : Int)) = (s.size : Int) - (k : Int) := wr_small (by omega) (by omega)
 have W1 : IntKind.i64.wrap ((k : Int) + 1) = (k : Int) + 1 := wr_small (by omega) (by omega)
 have W2 : IntKind.i64.wrap ((k : Int) + 2) = (k : Int) + 2 := wr_small (by omega) (by omega)
 have W4 : IntKind.i64.wrap ((s.size : Int) - (k2 : Int)) = (s.size : Int) - (k2 : Int) := wr_small (by omega) (by omega)
 have j0 : (0 : Int) ≤ (k : Int) + 1 := by omega
 have j1 : (k : Int) + 1 < (s.size : Int) := by omega
 have j3 : ((k : Int) + 1).toNat = k + 1 := by omega
 have m0 : (0 : Int) ≤ (k2 : Int) := by omega
 obtain ⟨d2, b2, e2⟩ := byte_of (show k + 2 < s.size by omega)
 have l0 : (0 : Int) ≤ (k : Int) + 2 := by omega
 have l1 : (k : Int) + 2 < (s.size : Int) := by omega
 have l2 : decide (3 ≤ (s.size : Int) - (k : Int)) = true := by simp; omega
 have l3 : ((k : Int) + 2).toNat = k + 2 := by omega
 have t0 : ((d1.toNat : Int) == 91) = false := beq_eq_false_iff_ne.2 (by omega)
 intro u1 u2 u3 u4 u5 u6 u7 u8 u9 u10 u16 u17 u18 u19 u20 u21 u22 u23 u24 u25 u26 u27 u28 u29 u30 u31 u32 u33 u34 u35 u36 u37 u38 u39 u40 u41 u42 u43 u44 u45 u46 u47 u48 u49 u50 u51 u52 u53 u54 u55 u56 u57 u58 u59 u60 u61 u62 u63 u64 u65 u66 u67 u68 u69 u70 u71 u72 u73 u74 u75 u76 u77 u78 u79 u80 u81 u82 u83 u84 u85 u86 u87 u88 u89 u90 u91 u92 u93 u94 u95 u96 u97 u98 u99 u100 u101 u102 u103 u104 u105 u106 u107 u108 u109 u110 u111 u112 u113 u114 u115 u116 u117 u118 u119 u120 u121 u122 u123 u124 u125 u126 u127 u128 u129 u130 u131 u132 u133 u134 u135 u136 u137 u138 u139 u140 u141 u142 u143 u144 u145 u146 u147 u148 u149 u150 u151 u152 u153 u154 u155 u156 u157 u158 u159 u160 u161 u162 u163 u164 u165 u166 u167 u168 u169 u170 u171 u172 u173 u174 u175 u176 u177 u178 u179 u180 u181 u182 u183 u184 u185 u186 u187 u188 u189 u190 u191 u192 u193 u194 u195 u196 u197 u198 u199 u200 u201 u202 u203 u204 u205 u206 u207 u208 u209 u210 u211 u212 u213 u214 u215 u216 J Q w hJ
 unfold r20ops
 by_cases hD : c2 < c
 ·have t1 : decide (c2 < c) = true := by simpa using hD
  clear hs hk hk2 h3 h91 hD
  go_wp2_with fail
  exact hJ _ _ _ _ _ _ _ _ _ _ _ _ _ _ _ _ _ _ _ _ _ _ _ _ _ _ _ _ _ _ _ _ _ _ _ _ _ _ _ _ _ _ _ _ _ _ _ _ _ _ _ _ _ _ _ 
 have t1 : decide (c2 < c) = false := by simpa using hD
 by_cases hE : d1.toNat = 45
 rotate_left
 ·have t2 : ((d1.toNat : Int) == 45) = false := beq_eq_false_iff_ne.2 (by omega)
  clear hs hk hk2 h3 h91 hD hE
  go_wp2_with fail
  exact hJ _ _ _ _ _ _ _ _ _ _ _ _ _ _ _ _ _ _ _ _ _ _ _ _ _ _ _ _ _ _ _ _ _ _ _ _ _ _ _ _ _ _ _ _ _ _ _ _ _ _ _ _ _ _ _ 
 have t2 : ((d1.toNat : Int) == 45) = true := by simp [hE]
 by_cases h4 : k2 + 1 ≤ s.size
 rotate_left
 ·have o2 : decide ((s.size : Int) - (k2 : Int) < 1) = true := by simp; omega
  clear hs hk hk2 h3 h91 hD hE h4
  go_wp2_with fail
  exact hJ _ _ _ _ _ _ _ _ _ _ _ _ _ _ _ _ _ _ _ _ _ _ _ _ _ _ _ _ _ _ _ _ _ _ _ _ _ _ _ _ _ _ _ _ _ _ _ _ _ _ _ _ _ _ _ 
 obtain ⟨d4, b4, e4⟩ := byte_of (show k2 < s.size by omega)
 have o1 : (k2 : Int) < (s.size : Int) := by omega
 have o2 : decide ((s.size : Int) - (k2 : Int) < 1) = false := by simp; omega
 by_cases hF : d4.toNat = 93
 ·have t3 : ((d4.toNat : Int) != 93) = false := by simp [hF]
  clear hs hk hk2 h3 h91 hD hE h4 hF
  go_wp2_with fail
  exact hJ _ _ _ _ _ _ _ _ _ _ _ _ _ _ _ _ _ _ _ _ _ _ _ _ _ _ _ _ _ _ _ _ _ _ _ _ _ _ _ _ _ _ _ _ _ _ _ _ _ _ _ _ _ _ _ 
 have t3 : ((d4.toNat : Int) != 93) = true := by simp; omega
 clear hs hk hk2 h3 h91 hD hE h4 hF
 go_wp2_with fail
 exact hJ _ _ _ _ _ _ _ _ _ _ _ _ _ _ _ _ _ _ _ _ _ _ _ _ _ _ _ _ _ _ _ _ _ _ _ _ _ _ _ _ _ _ _ _ _ _ _ _ _ _ _ _ _ _ _ 
set_option maxRecDepth 100000 in
set_option maxHeartbeats 8000000 in
theorem r20_c (s : ByteArray) (k k2 : Nat) (c c2 : Int) (hs : s.size ≤ 600) (hk : k + 2 ≤ s.size) (hk2 : k2 ≤ s.size) (d1 : UInt8) (b1 : k + 1 < s.size) (e1 : s[k + 1] = d1) (h3 : ¬ k + 3 ≤ s.size) : R20 s k k2 c c2 := by
 have i0 : (0 : Int) ≤ (k : Int) := by omega
 have i1 : (k : Int) < (s.size : Int) := by omega
 have W0 : IntKind.i64.wrap ((s.size : Int) - (k : Int)) = (s.size : Int) - (k : Int) := wr_small (by omega) (by omega)
 have W1 : IntKind.i64.wrap ((k : Int) + 1) = (k : Int) + 1 := wr_small (by omega) (by omega)
 have W2 : IntKind.i64.wrap ((k : Int) + 2) = (k : Int) + 2 := wr_small (by omega) (by omega)
 have W4 : IntKind.i64.wrap ((s.size : Int) - (k2 : Int)) = (s.size : Int) - (k2 : Int) := wr_small (by omega) (by omega)
 have j0 : (0 : Int) ≤ (k : Int) + 1 := by omega
 have j1 : (k : Int) + 1 < (s.size : Int) := by omega
 have j3 : ((k : Int) + 1).toNat = k + 1 := by omega
 have m0 : (0 : Int) ≤ (k2 : Int) := by omega
 have l2 : decide (3 ≤ (s.size : Int) - (k : Int)) = false := by simp; omega
 intro u1 u2 u3 u4 u5 u6 u7 u8 u9 u10 u16 u17 u18 u19 u20 u21 u22 u23 u24 u25 u26 u27 u28 u29 u30 u31 u32 u33 u34 u35 u36 u37 u38 u39 u40 u41 u42 u43 u44 u45 u46 u47 u48 u49 u50 u51 u52 u53 u54 u55 u56 u57 u58 u59 u60 u61 u62 u63 u64 u65 u66 u67 u68 u69 u70 u71 u72 u73 u74 u75 u76 u77 u78 u79 u80 u81 u82 u83 u84 u85 u86 u87 u88 u89 u90 u91 u92 u93 u94 u95 u96 u97 u98 u99 u100 u101 u102 u103 u104 u105 u106 u107 u108 u109 u110 u111 u112 u113 u114 u115 u116 u117 u118 u119 u120 u121 u122 u123 u124 u125 u126 u127 u128 u129 u130 u131 u132 u133 u134 u135 u136 u137 u138 u139 u140 u141 u142 u143 u144 u145 u146 u147 u148 u149 u150 u151 u152 u153 u154 u155 u156 u157 u158 u159 u160 u161 u162 u163 u164 u165 u166 u167 u168 u169 u170 u171 u172 u173 u174 u175 u176 u177 u178 u179 u180 u181 u182 u183 u184 u185 u186 u187 u188 u189 u190 u191 u192 u193 u194 u195 u196 u197 u198 u199 u200 u201 u202 u203 u204 u205 u206 u207 u208 u209 u210 u211 u212 u213 u214 u215 u216 J Q w hJ
 unfold r20ops
 by_cases hD : c2 < c
 ·have t1 : decide (c2 < c) = true := by simpa using hD
  clear hs hk hk2 h3 hD
  go_wp2_with fail
  exact hJ _ _ _ _ _ _ _ _ _ _ _ _ _ _ _ _ _ _ _ _ _ _ _ _ _ _ _ _ _ _ _ _ _ _ _ _ _ _ _ _ _ _ _ _ _ _ _ _ _ _ _ _ _ _ _ 
 have t1 : decide (c2 < c) = false := by simpa using hD
 by_cases hE : d1.toNat = 45
 rotate_left
 ·have t2 : ((d1.toNat : Int) == 45) = false := beq_eq_false_iff_ne.2 (by omega)
  clear hs hk hk2 h3 hD hE
  go_wp2_with fail
  exact hJ _ _ _ _ _ _ _ _ _ _ _ _ _ _ _ _ _ _ _ _ _ _ _ _ _ _ _ _ _ _ _ _ _ _ _ _ _ _ _ _ _ _ _ _ _ _ _ _ _ _ _ _ _ _ _ 
 have t2 : ((d1.toNat : Int) == 45) = true := by simp [hE]
 by_cases h4 : k2 + 1 ≤ s.size
 rotate_left
 ·have o2 : decide ((s.size : Int) - (k2 : Int) < 1) = true := by simp; omega
  clear hs hk hk2 h3 hD hE h4
  go_wp2_with fail
  exact hJ _ _ _ _ _ _ _ _ _ _ _ _ _ _ _ _ _ _ _ _ _ _ _ _ _ _ _ _ _ _ _ _ _ _ _ _ _ _ _ _ _ _ _ _ _ _ _ _ _ _ _ _ _ _ _ 
 obtain ⟨d4, b4, e4⟩ := byte_of (show k2 < s.size by omega)
 have o1 : (k2 : Int) < (s.size : Int) := by omega
 have o2 : decide ((s.size : Int) - (k2 : Int) < 1) = false := by simp; omega
 by_cases hF : d4.toNat = 93
 ·have t3 : ((d4.toNat : Int) != 93) = false := by simp [hF]
  clear hs hk hk2 h3 hD hE h4 hF
  go_wp2_with fail
  exact hJ _ _ _ _ _ _ _ _ _ _ _ _ _ _ _ _ _ _ _ _ _ _ _ _ _ _ _ _ _ _ _ _ _ _ _ _ _ _ _ _ _ _ _ _ _ _ _ _ _ _ _ _ _ _ _ 
 have t3 : ((d4.toNat : Int) != 93) = true := by simp; omega
 clear hs hk hk2 h3 hD hE h4 hF
 go_wp2_with fail
 exact hJ _ _ _ _ _ _ _ _ _ _ _ _ _ _ _ _ _ _ _ _ _ _ _ _ _ _ _ _ _ _ _ _ _ _ _ _ _ _ _ _ _ _ _ _ _ _ _ _ _ _ _ _ _ _ _ 
theorem r20_any (s : ByteArray) (k k2 : Nat) (c c2 : Int) (hs : s.size ≤ 600) (hk : k + 2 ≤ s.size) (hk2 : k2 ≤ s.size) : R20 s k k2 c c2 := by
 obtain ⟨d1, b1, e1⟩ := byte_of (show k + 1 < s.size by omega)
 by_cases h3 : k + 3 ≤ s.size
 ·by_cases h91 : d1.toNat = 91
  ·exact r20_a s k k2 c c2 hs hk hk2 d1 b1 e1 h3 h91
  ·exact r20_b s k k2 c c2 hs hk hk2 d1 b1 e1 h3 h91
 ·exact r20_c s k k2 c c2 hs hk hk2 d1 b1 e1 h3
end Go.Proofs.Ytkidjbfapldmbaa
