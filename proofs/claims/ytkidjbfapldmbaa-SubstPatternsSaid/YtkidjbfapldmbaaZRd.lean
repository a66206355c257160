import Derived.Test.YtkidjbfapldmbaaZGra
import Derived.Deep.CutBlock
import Derived.Deep.DeepCutAuto
import Derived.Test.YtkidjbfapldmbaaZMb
set_option linter.unusedVariables false
set_option linter.unusedSimpArgs false
namespace Go.Proofs.Ytkidjbfapldmbaa
open Go.RowKit P8
abbrev PdAt (w : World) (p : Nat) (s : ByteArray) (a : Nat) (x : Bool) (g : Nat) (b : Bool) : Prop := Blk w p #[.string s, .int .i64 (a : Int), .bool x, .int .i64 (g : Int), .bool b] 121
set_option maxRecDepth 100000 in
theorem pend_any (p : Nat) (s : ByteArray) (a : Nat) (x : Bool) (g : Nat) (b : Bool) (w : World) (hb : PdAt w p s a x g b) :
  Calls Try.prog 69 #[.pointer (some ⟨p, 0, none⟩)] w fun e w' => e = .returned (.bool (decide (s.size ≤ a))) ∧ Keep Nb w w' := by
 have c0 := hb.cell 0 (u := .string s) rfl
 have c1 := hb.cell 1 (u := .int .i64 (a : Int)) rfl
 have hl := hb.lt
 have hd : decide ((s.size : Int) ≤ (a : Int)) = decide (s.size ≤ a) := by simp
 go_enter Try.func69, Try.ntmps69
 go_wp2_with fail
 (refine wp_region_f [10] (InX Nb _) (by kernel_rfl) (InX.mk (Keep.drew (Keep.refl _ _))) (fun hI => ?_))
 have xx : ∀ k, ¬ Nb k := fun _ h => h
 have hK0 : Keep Nb w w.drew := (Keep.refl _ _).drew
 generalize w.drew = x0 at hK0 hI ⊢
 (refine wpI_from 0 ?_; (iterate 10 ((first | (refine wpI_take (v := ?_) rfl (by kernel_rfl) (fun _ _ _ h => h) hI rfl ?_ ?_; rotate_left; (focus (rintro _ ⟨E, rfl⟩; go_simp; (try with_reducible rfl)))) | refine wpI_skip rfl (by kernel_rfl) (fun _ _ _ h => h) hI rfl ?_); simp only [Act.put, tk, Nat.reduceAdd])); refine wpI_till ?_)
 (refine wpF_one 10 rfl (by kernel_rfl) rfl (fun K hK => ?_))
 go_simp
 (refine hK _ _ (fun h => absurd (by simp) h) (fun _ => ?_); clear hK K; try simp only [Act.put, tk])
 (refine wpF_done (by kernel_rfl) ?_ _)
 go_wp2_with fail
 go_ret
 exact ⟨by simp [hd], hK0⟩
def nd0 : Nd := .mk ⟨0, 0, 0, 0, 0, 0, 0, 0, 0⟩ []
set_option maxRecDepth 100000 in
theorem pfail_any (p : Nat) (s : ByteArray) (a : Nat) (x : Bool) (g : Nat) (b : Bool) (w : World) (hb : PdAt w p s a x g b) :
  Calls Try.prog 70 #[.pointer (some ⟨p, 0, none⟩)] w fun e w' => e = .returned (.agg (Nd.row nd0 (.slice none 0 0))) ∧ PdAt w' p s a x g true ∧ Keep (Ob p) w w' := by
 have hl := hb.lt
 go_enter Try.func70, Try.ntmps70
 go_upto_region 1 with fail
 have hb1 : PdAt (w.alloc (.cells zeroNode 27)) p s a x g b := hb.keep (Keep.alloc (Keep.refl Nb _) _) (fun h => h)
 have hr1 : Blk (w.alloc (.cells zeroNode 27)) w.heap.size zeroNode 27 := Blk.new w _ _
 have hk1 : Keep Nb w (w.alloc (.cells zeroNode 27)) := Keep.alloc (Keep.refl _ _) _
 simp only [zeroNode] at hb1 hr1 hk1
 generalize w.alloc (.cells #[.int .i64 0, .int .u8 0, .int .u64 0, .int .u64 0, .int .u64 0, .int .u64 0, .int .i64 0, .int .i64 0, .int .i64 0, .slice none 0 0] 27) = w1 at hb1 hr1 hk1 ⊢
 have c4 := hb1.cell 4 (u := .bool b) rfl
 have f4 := hb1.frozen 4
 have b2 : PdAt (w1.setCell ⟨p, 4, none⟩ (.bool true)) p s a x g true := hb1.set 4 (.bool true)
 have k2 := Keep.setOb w1 p 4 (.bool true)
 have r2 := hr1.keep k2 (by simp [Ob]; omega)
 go_upto_region 2 with fail
 generalize w1.setCell ⟨p, 4, none⟩ (.bool true) = w2 at b2 k2 r2 ⊢
 go_wp2_with (refine wpList_store_row rfl 27 (.tmp 2) (.tmp 6) rfl w.heap.size _ rfl rfl 27 _ r2 size27 rfl (by simp [Value.oneCell']) ?_)
 have r3 := r2.setRow #[.int .i64 0, .int .u8 0, .int .u64 0, .int .u64 0, .int .u64 0, .int .u64 0, .int .i64 0, .int .i64 0, .int .i64 0, .slice none 0 0]
 have k3 : Keep (Ob w.heap.size) w2 (w2.setRow w.heap.size #[.int .i64 0, .int .u8 0, .int .u64 0, .int .u64 0, .int .u64 0, .int .u64 0, .int .i64 0, .int .i64 0, .int .i64 0, .slice none 0 0]) := Keep.setRow (X := Ob w.heap.size) (Keep.refl _ _) (Or.inr rfl) _
 have b3 := b2.keep k3 (by simp [Ob]; omega)
 have kk : Keep (Ob p) w (w2.setRow w.heap.size #[.int .i64 0, .int .u8 0, .int .u64 0, .int .u64 0, .int .u64 0, .int .u64 0, .int .i64 0, .int .i64 0, .int .i64 0, .slice none 0 0]) :=
  Keep.setRow (X := Ob p) (Keep.trans (hk1.ob) k2 (fun _ _ h => h)) (Or.inl (by omega)) _
 exact bodyPost_ret (v := .agg (Nd.row nd0 (.slice none 0 0))) (results_cell_row Try.results70 _ _ w.heap.size 27 _ (0, 0) _ rfl r3 Try.underlying27 rfl size27) rfl ⟨rfl, b3, kk⟩
theorem pbrace_any (p : Nat) (s : ByteArray) (a : Nat) (x : Bool) (g : Nat) (b : Bool) (w : World) (hb : PdAt w p s a x g b) :
  Calls Try.prog 115 #[.pointer (some ⟨p, 0, none⟩)] w fun e w' => ∃ t : ByteArray, e = .returned (.string t) ∧ 1 ≤ t.size ∧ t.size ≤ 2 ∧ Keep Nb w w' := by
 have c2 := hb.cell 2 (u := .bool x) rfl
 have hl := hb.lt
 cases x with
 | true =>
  go_enter Try.func115, Try.ntmps115
  go_wp2_with fail
  go_ret
  exact ⟨_, rfl, by decide, by decide, Keep.refl _ _⟩
 | false =>
  go_enter Try.func115, Try.ntmps115
  go_wp2_with fail
  go_ret
  exact ⟨_, rfl, by decide, by decide, Keep.refl _ _⟩
theorem wr_small {x : Int} (h0 : -1000000 ≤ x) (h1 : x ≤ 1000000) : IntKind.i64.wrap x = x := by
 rw [IntKind.wrap_i64]; omega
set_option maxRecDepth 100000 in
set_option maxHeartbeats 2000000 in
theorem phas_any (p : Nat) (s : ByteArray) (a : Nat) (x : Bool) (g : Nat) (b : Bool) (t : ByteArray) (w : World) (hb : PdAt w p s a x g b) (ha : a ≤ s.size) (hs : s.size ≤ 600) (ht : t.size ≤ 600) :
  Calls Try.prog 92 #[.pointer (some ⟨p, 0, none⟩), .string t] w fun e w' => ∃ r, e = .returned (.bool r) ∧ (r = true → a + t.size ≤ s.size ∧ b = false) ∧ Keep Nb w w' := by
 have c0 := hb.cell 0 (u := .string s) rfl
 have c1 := hb.cell 1 (u := .int .i64 (a : Int)) rfl
 have c4 := hb.cell 4 (u := .bool b) rfl
 have hl := hb.lt
 cases b with
 | true =>
  go_enter Try.func92, Try.ntmps92
  go_wp2_with fail
  (refine wp_region_f [40] (InX Nb _) (by kernel_rfl) (InX.mk (Keep.drew (Keep.refl _ _))) (fun hI => ?_))
  have xx : ∀ k, ¬ Nb k := fun _ h => h
  have hK0 : Keep Nb w w.drew := (Keep.refl _ _).drew
  generalize w.drew = x0 at hK0 hI ⊢
  (refine wpI_from 0 ?_; (iterate 40 ((first | (refine wpI_take (v := ?_) rfl (by kernel_rfl) (fun _ _ _ h => h) hI rfl ?_ ?_; rotate_left; (focus (rintro _ ⟨E, rfl⟩; go_simp; (try with_reducible rfl)))) | refine wpI_skip rfl (by kernel_rfl) (fun _ _ _ h => h) hI rfl ?_); simp only [Act.put, tk, Nat.reduceAdd])); refine wpI_till ?_)
  (refine wpF_one 40 rfl (by kernel_rfl) rfl (fun K hK => ?_))
  go_simp
  (refine hK _ _ (fun h => absurd (by simp) h) (fun _ => ?_); clear hK K; try simp only [Act.put, tk])
  (refine wpF_done (by kernel_rfl) ?_ _)
  go_wp2_with fail
  go_ret
  exact ⟨_, rfl, by simp, hK0⟩
 | false =>
 have W1 : IntKind.i64.wrap ((s.size : Int) - (a : Int)) = (s.size : Int) - (a : Int) := wr_small (by omega) (by omega)
 have W2 : IntKind.i64.wrap ((a : Int) + (t.size : Int)) = (a : Int) + (t.size : Int) := wr_small (by omega) (by omega)
 by_cases hr : a + t.size ≤ s.size
 ·have m1 : decide ((t.size : Int) ≤ (s.size : Int) - (a : Int)) = true := by simp; omega
  have h0 : (0 : Int) ≤ (a : Int) := by omega
  have h1 : (a : Int) ≤ (a : Int) + (t.size : Int) := by omega
  have h2 : (a : Int) + (t.size : Int) ≤ (s.size : Int) := by omega
  go_enter Try.func92, Try.ntmps92
  go_wp2_with fail
  (refine wp_region_f [40] (InX Nb _) (by kernel_rfl) (InX.mk (Keep.drew (Keep.refl _ _))) (fun hI => ?_))
  have xx : ∀ k, ¬ Nb k := fun _ h => h
  have hK0 : Keep Nb w w.drew := (Keep.refl _ _).drew
  generalize w.drew = x0 at hK0 hI ⊢
  (refine wpI_from 0 ?_; (iterate 19 ((first | (refine wpI_take (v := ?_) rfl (by kernel_rfl) (fun _ _ _ h => h) hI rfl ?_ ?_; rotate_left; (focus (rintro _ ⟨E, rfl⟩; go_simp; (try with_reducible rfl)))) | refine wpI_skip rfl (by kernel_rfl) (fun _ _ _ h => h) hI rfl ?_); simp only [Act.put, tk, Nat.reduceAdd])); refine wpI_till ?_)
  try simp only [W1, m1]
  (refine wpI_from 19 ?_; (iterate 17 ((first | (refine wpI_take (v := ?_) rfl (by kernel_rfl) (fun _ _ _ h => h) hI rfl ?_ ?_; rotate_left; (focus (rintro _ ⟨E, rfl⟩; go_simp; (try with_reducible rfl)))) | refine wpI_skip rfl (by kernel_rfl) (fun _ _ _ h => h) hI rfl ?_); simp only [Act.put, tk, Nat.reduceAdd])); refine wpI_till ?_)
  try simp only [W2]
  (refine wpI_from 36 ?_; (iterate 4 ((first | (refine wpI_take (v := ?_) rfl (by kernel_rfl) (fun _ _ _ h => h) hI rfl ?_ ?_; rotate_left; (focus (rintro _ ⟨E, rfl⟩; go_simp; (try with_reducible rfl)))) | refine wpI_skip rfl (by kernel_rfl) (fun _ _ _ h => h) hI rfl ?_); simp only [Act.put, tk, Nat.reduceAdd])); refine wpI_till ?_)
  (refine wpF_one 40 rfl (by kernel_rfl) rfl (fun K hK => ?_))
  go_simp
  (refine hK _ _ (fun h => absurd (by simp) h) (fun _ => ?_); clear hK K; try simp only [Act.put, tk])
  (refine wpF_done (by kernel_rfl) ?_ _)
  go_wp2_with fail
  go_ret
  exact ⟨_, rfl, fun _ => ⟨hr, by trivial⟩, hK0⟩
 ·have m1 : decide ((t.size : Int) ≤ (s.size : Int) - (a : Int)) = false := by simp; omega
  clear hr ha hs ht W2
  go_enter Try.func92, Try.ntmps92
  go_wp2_with fail
  (refine wp_region_f [40] (InX Nb _) (by kernel_rfl) (InX.mk (Keep.drew (Keep.refl _ _))) (fun hI => ?_))
  have xx : ∀ k, ¬ Nb k := fun _ h => h
  have hK0 : Keep Nb w w.drew := (Keep.refl _ _).drew
  generalize w.drew = x0 at hK0 hI ⊢
  (refine wpI_from 0 ?_; (iterate 19 ((first | (refine wpI_take (v := ?_) rfl (by kernel_rfl) (fun _ _ _ h => h) hI rfl ?_ ?_; rotate_left; (focus (rintro _ ⟨E, rfl⟩; go_simp; (try with_reducible rfl)))) | refine wpI_skip rfl (by kernel_rfl) (fun _ _ _ h => h) hI rfl ?_); simp only [Act.put, tk, Nat.reduceAdd])); refine wpI_till ?_)
  try simp only [W1, m1]
  (refine wpI_from 19 ?_; (iterate 21 ((first | (refine wpI_take (v := ?_) rfl (by kernel_rfl) (fun _ _ _ h => h) hI rfl ?_ ?_; rotate_left; (focus (rintro _ ⟨E, rfl⟩; go_simp; (try with_reducible rfl)))) | refine wpI_skip rfl (by kernel_rfl) (fun _ _ _ h => h) hI rfl ?_); simp only [Act.put, tk, Nat.reduceAdd])); refine wpI_till ?_)
  (refine wpF_one 40 rfl (by kernel_rfl) rfl (fun K hK => ?_))
  go_simp
  (refine hK _ _ (fun h => absurd (by simp) h) (fun _ => ?_); clear hK K; try simp only [Act.put, tk])
  (refine wpF_done (by kernel_rfl) ?_ _)
  go_wp2_with fail
  go_ret
  exact ⟨_, rfl, by simp, hK0⟩
set_option maxRecDepth 100000 in
set_option maxHeartbeats 2000000 in
theorem prepeats_any (p : Nat) (s : ByteArray) (a : Nat) (x : Bool) (g : Nat) (b : Bool) (w : World) (hb : PdAt w p s a x g b) (ha : a ≤ s.size) (hs : s.size ≤ 600) :
  Calls Try.prog 106 #[.pointer (some ⟨p, 0, none⟩)] w fun e w' => ∃ r, e = .returned (.bool r) ∧ (r = true → a + 1 ≤ s.size ∧ b = false) ∧ Keep Nb w w' := by
 have c2 := hb.cell 2 (u := .bool x) rfl
 have hl := hb.lt
 have HH : ∀ t wx, t.size ≤ 600 → PdAt wx p s a x g b → Calls Try.prog 92 #[.pointer (some ⟨p, 0, none⟩), .string t] wx fun e w' => ∃ r, e = .returned (.bool r) ∧ (r = true → a + t.size ≤ s.size ∧ b = false) ∧ Keep Nb wx w' := fun t wx ht hx => phas_any p s a x g b t wx hx ha hs ht
 have HG := Lib.hid HH
 have HA := Lib.hid ha
 clear HH ha hs
 have nn : ¬ Nb p := fun h => h
 go_enter Try.func106, Try.ntmps106
 go_wp2_with fail
 refine (HG.out _ _ (by decide) hb).mono ?_
 rintro e w1 ⟨r, rfl, h1, k1⟩
 cases r with
 | true =>
  have H1 := Lib.hid (h1 rfl)
  clear h1
  go_wp2_with fail
  go_ret
  exact ⟨_, rfl, fun _ => H1.out, k1⟩
 | false =>
  clear h1
  have b1 := hb.keep k1 nn
  have hl1 := b1.lt
  go_wp2_with fail
  refine (pbrace_any p s a x g b w1 b1).mono ?_
  rintro e w2 ⟨t, rfl, t1, t2, k2⟩
  have b2 := b1.keep k2 nn
  have T1 := Lib.hid t1
  have T2 := Lib.hid t2
  clear t1 t2
  have kk2 := Keep.trans k1 k2 (fun _ _ h => h)
  have hl2 := b2.lt
  go_wp2_with fail
  refine (HG.out _ _ (by have := T2.out; omega) b2).mono ?_
  rintro e w3 ⟨r, rfl, h3, k3⟩
  have b3 := b2.keep k3 nn
  have kk3 := Keep.trans kk2 k3 (fun _ _ h => h)
  have hl3 := b3.lt
  cases r with
  | true =>
   have H3 := Lib.hid (show a + 1 ≤ s.size ∧ b = false from ⟨by have := (h3 rfl).1; have := T1.out; omega, (h3 rfl).2⟩)
   clear h3
   go_wp2_with fail
   go_ret
   exact ⟨_, rfl, fun _ => H3.out, kk3⟩
  | false =>
   clear h3
   have e2 := b3.cell 2 (u := .bool x) rfl
   cases x with
   | false =>
    go_wp2_with fail
    go_ret
    exact ⟨_, rfl, by simp, kk3⟩
   | true =>
    go_wp2_with fail
    refine (HG.out _ _ (by decide) b3).mono ?_
    rintro e w4 ⟨r, rfl, h4, k4⟩
    have b4 := b3.keep k4 nn
    have kk4 := Keep.trans kk3 k4 (fun _ _ h => h)
    have hl4 := b4.lt
    cases r with
    | true =>
     have H4 := Lib.hid (h4 rfl)
     clear h4
     go_wp2_with fail
     go_ret
     exact ⟨_, rfl, fun _ => H4.out, kk4⟩
    | false =>
     clear h4
     go_wp2_with fail
     refine (HG.out _ _ (by decide) b4).mono ?_
     rintro e w5 ⟨r, rfl, h5, k5⟩
     have kk5 := Keep.trans kk4 k5 (fun _ _ h => h)
     have H5 := Lib.hid h5
     clear h5
     go_wp2_with fail
     go_ret
     exact ⟨_, rfl, H5.out, kk5⟩
set_option maxRecDepth 100000 in
set_option maxHeartbeats 2000000 in
theorem pin_any (s : ByteArray) (c : UInt8) (w : World) (hs : s.size ≤ 600) :
  Calls Try.prog 124 #[.string s, .int .u8 (c.toNat : Int)] w fun e w' => ∃ r, e = .returned (.bool r) ∧ Keep Nb w w' := by
 go_enter Try.func124, Try.ntmps124
 go_wp2_with fail
 go_loopw [8] (fun i wr => ∃ j : Nat, j ≤ s.size ∧ i = .int .i64 (j : Int) ∧ Keep Nb w wr) (fun i _ => s.size - (intOf i).toNat)
 case atStart => exact ⟨0, by omega, rfl, Keep.refl _ _⟩
 case round =>
  obtain ⟨j, hj, rfl, hk⟩ := hrel
  by_cases hlt : j < s.size
  ·obtain ⟨d, hd⟩ : ∃ d, s.toList[j]? = some d := ⟨_, List.getElem?_eq_getElem (by rw [toList_len]; exact hlt)⟩
   obtain ⟨b0, e0⟩ := byte_at hd
   have h0 : (0 : Int) ≤ (j : Int) := by omega
   have h1 : (j : Int) < (s.size : Int) := by omega
   have hw : IntKind.i64.wrap ((j : Int) + 1) = (((j + 1 : Nat)) : Int) := by rw [wr_small (by omega) (by omega)]; omega
   have hw2 : wrap64 ((j : Int) + 1) = (((j + 1 : Nat)) : Int) := by unfold wrap64; omega
   by_cases hc : d = c
   ·have m : ((d.toNat : Int) == (c.toNat : Int)) = true := by rw [hc]; simp
    clear hd hc
    go_wp2_with fail
    go_ret
    exact ⟨_, rfl, hk⟩
   ·have m : ((d.toNat : Int) == (c.toNat : Int)) = false := beq_eq_false_iff_ne.2 fun h => hc (UInt8.toNat_inj.1 (by omega))
    clear hd hc
    go_wp2_with fail
    go_roundw
    case rel => exact ⟨j + 1, by omega, by go_num, hk⟩
    case measure => simp [intOf]; omega
  ·obtain rfl : j = s.size := by omega
   go_wp2_with fail
   all_goals
    go_ret
    exact ⟨_, rfl, hk⟩
set_option maxRecDepth 100000 in
set_option maxHeartbeats 4000000 in
theorem pdigits_any (s : ByteArray) (a : Nat) (w : World) (ha : a ≤ s.size) (hs : s.size ≤ 600) :
  Calls Try.prog 128 #[.string s, .int .i64 (a : Int)] w fun e w' => ∃ (n : Int) (q : Nat), e = .returned (.tuple #[.int .i64 n, .int .i64 (q : Int)]) ∧ a ≤ q ∧ q ≤ s.size ∧ -2 ≤ n ∧ n ≤ 255 ∧ Keep Nb w w' := by
 go_enter Try.func128, Try.ntmps128
 go_wp2_with fail
 go_loopw [1, 6] (fun i v wr => ∃ (j : Nat) (x : Nat), a ≤ j ∧ j ≤ s.size ∧ x ≤ 1000 ∧ i = .int .i64 (j : Int) ∧ v = .int .i64 (x : Int) ∧ Keep Nb w wr) (fun i _ _ => s.size - (intOf i).toNat)
 case atStart => exact ⟨a, 0, by omega, by omega, by omega, rfl, rfl, Keep.refl _ _⟩
 case round =>
  obtain ⟨j, x, haj, hj, hx, rfl, rfl, hk⟩ := hrel
  by_cases hlt : j < s.size
  ·obtain ⟨d, hd⟩ : ∃ d, s.toList[j]? = some d := ⟨_, List.getElem?_eq_getElem (by rw [toList_len]; exact hlt)⟩
   obtain ⟨b0, e0⟩ := byte_at hd
   have hdl : d.toNat < 256 := d.toNat_lt
   have h0 : (0 : Int) ≤ (j : Int) := by omega
   have h1 : (j : Int) < (s.size : Int) := by omega
   have hw2 : wrap64 ((j : Int) + 1) = (((j + 1 : Nat)) : Int) := by unfold wrap64; omega
   clear hd
   by_cases g0 : 48 ≤ d.toNat
   ·have g0' : (48 : Int) ≤ (d.toNat : Int) := by omega
    by_cases g1 : d.toNat ≤ 57
    ·have g1' : (d.toNat : Int) ≤ 57 := by omega
     have v1 : wrap64 ((x : Int) * 10) = (x : Int) * 10 := by unfold wrap64; omega
     have v2 : IntKind.u8.wrap ((d.toNat : Int) - 48) = (d.toNat : Int) - 48 := by rw [IntKind.wrap_u8]; omega
     have v3 : wrap64 ((d.toNat : Int) - 48) = (d.toNat : Int) - 48 := by unfold wrap64; omega
     have v4 : wrap64 ((x : Int) * 10 + ((d.toNat : Int) - 48)) = (x : Int) * 10 + ((d.toNat : Int) - 48) := by unfold wrap64; omega
     go_wp2_with fail
     go_roundw
     case rel => exact ⟨j + 1, (min ((x : Int) * 10 + ((d.toNat : Int) - 48)) 1000).toNat, by omega, by omega, by omega, by go_num, by rw [Int.toNat_of_nonneg (by omega)]; congr 1; split <;> omega, hk⟩
     case measure => simp [intOf]; omega
    ·have g1' : ¬ ((d.toNat : Int) ≤ 57) := by omega
     by_cases hja : j = a
     ·have q1 : ((j : Int) == (a : Int)) = true := by rw [hja]; simp
      subst hja
      go_wp2_with fail
      go_ret2
      exact ⟨-1, _, rfl, by omega, by omega, by omega, by omega, hk⟩
     have q1 : ((j : Int) == (a : Int)) = false := beq_eq_false_iff_ne.2 (by omega)
     have q2 : ¬ ((j : Int) = (a : Int)) := by omega
     by_cases hx5 : 255 < x
     ·have q3 : (255 : Int) < (x : Int) := by omega
      go_wp2_with fail
      go_ret2
      exact ⟨-2, _, rfl, by omega, by omega, by omega, by omega, hk⟩
     have q3 : ¬ ((255 : Int) < (x : Int)) := by omega
     go_wp2_with fail
     go_ret2
     exact ⟨(x : Int), j, rfl, by omega, by omega, by omega, by omega, hk⟩
   ·have g0' : ¬ ((48 : Int) ≤ (d.toNat : Int)) := by omega
    by_cases hja : j = a
    ·have q1 : ((j : Int) == (a : Int)) = true := by rw [hja]; simp
     subst hja
     go_wp2_with fail
     go_ret2
     exact ⟨-1, _, rfl, by omega, by omega, by omega, by omega, hk⟩
    have q1 : ((j : Int) == (a : Int)) = false := beq_eq_false_iff_ne.2 (by omega)
    have q2 : ¬ ((j : Int) = (a : Int)) := by omega
    by_cases hx5 : 255 < x
    ·have q3 : (255 : Int) < (x : Int) := by omega
     go_wp2_with fail
     go_ret2
     exact ⟨-2, _, rfl, by omega, by omega, by omega, by omega, hk⟩
    have q3 : ¬ ((255 : Int) < (x : Int)) := by omega
    go_wp2_with fail
    go_ret2
    exact ⟨(x : Int), j, rfl, by omega, by omega, by omega, by omega, hk⟩
  ·obtain rfl : j = s.size := by omega
   by_cases hja : s.size = a
   ·have q1 : ((s.size : Int) == (a : Int)) = true := by rw [hja]; simp
    subst hja
    go_wp2_with fail
    go_ret2
    exact ⟨-1, _, rfl, by omega, by omega, by omega, by omega, hk⟩
   have q1 : ((s.size : Int) == (a : Int)) = false := beq_eq_false_iff_ne.2 (by omega)
   have q2 : ¬ ((s.size : Int) = (a : Int)) := by omega
   by_cases hx5 : 255 < x
   ·have q3 : (255 : Int) < (x : Int) := by omega
    go_wp2_with fail
    go_ret2
    exact ⟨-2, _, rfl, by omega, by omega, by omega, by omega, hk⟩
   have q3 : ¬ ((255 : Int) < (x : Int)) := by omega
   go_wp2_with fail
   go_ret2
   exact ⟨(x : Int), s.size, rfl, by omega, by omega, by omega, by omega, hk⟩
set_option maxRecDepth 100000 in
set_option maxHeartbeats 4000000 in
theorem pdigits_far (s : ByteArray) (a : Nat) (w : World) (ha : s.size ≤ a) (hs : s.size ≤ 600) :
  Calls Try.prog 128 #[.string s, .int .i64 (a : Int)] w fun e w' => e = .returned (.tuple #[.int .i64 (-1), .int .i64 (a : Int)]) ∧ Keep Nb w w' := by
 have h1 : ¬ ((a : Int) < (s.size : Int)) := by omega
 have h2 : decide ((a : Int) < (s.size : Int)) = false := by simp; omega
 have h3 : decide (a < s.size) = false := by simp; omega
 go_enter Try.func128, Try.ntmps128
 go_wp2_with fail
 go_loopw [1, 6] (fun i v wr => i = .int .i64 (a : Int) ∧ v = .int .i64 0 ∧ Keep Nb w wr) (fun _ _ _ => 0)
 case atStart => exact ⟨rfl, rfl, Keep.refl _ _⟩
 case round =>
  obtain ⟨rfl, rfl, hk⟩ := hrel
  go_wp2_with fail
  go_ret2
  exact ⟨rfl, hk⟩
theorem results_tmp4 {fn : Func} {t u v x : Tmp} (h : fn.results = #[.tmp t, .tmp u, .tmp v, .tmp x]) (tmps : Array Value) (P : Program) (w : World) :
  (results fn tmps).run P w = .ok (.tuple #[tmps.getD t undef, tmps.getD u undef, tmps.getD v undef, tmps.getD x undef]) w := by
 simp [results, h]
theorem pdigits_all (s : ByteArray) (a : Nat) (w : World) (hs : s.size ≤ 600) :
  Calls Try.prog 128 #[.string s, .int .i64 (a : Int)] w fun e w' => ∃ (n : Int) (q : Nat), e = .returned (.tuple #[.int .i64 n, .int .i64 (q : Int)]) ∧ (n = -1 ∨ a ≤ q ∧ q ≤ s.size) ∧ -2 ≤ n ∧ n ≤ 255 ∧ Keep Nb w w' := by
 by_cases ha : a ≤ s.size
 ·refine (pdigits_any s a w ha hs).mono ?_
  rintro e w' ⟨n, q, he, h1, h2, h3, h4, hk⟩
  exact ⟨n, q, he, Or.inr ⟨h1, h2⟩, h3, h4, hk⟩
 ·refine (pdigits_far s a w (by omega) hs).mono ?_
  rintro e w' ⟨he, hk⟩
  exact ⟨-1, a, he, Or.inl rfl, by omega, by omega, hk⟩
def TimesR (s : ByteArray) (a : Nat) (e : Ending) : Prop := ∃ (m n : Int) (q : Int) (ok : Bool), e = .returned (.tuple #[.int .i64 m, .int .i64 n, .int .i64 q, .bool ok]) ∧ (ok = true → ∃ k : Nat, q = (k : Int) ∧ a < k ∧ k ≤ s.size)
theorem TimesR.yes {s : ByteArray} {a : Nat} (m n : Int) (h : a + 1 ≤ s.size) : TimesR s a (.returned (.tuple #[.int .i64 m, .int .i64 n, .int .i64 ((a : Int) + 1), .bool true])) := ⟨m, n, _, true, rfl, fun _ => ⟨a + 1, by omega, by omega, h⟩⟩
theorem TimesR.no {s : ByteArray} {a : Nat} (m n q : Int) : TimesR s a (.returned (.tuple #[.int .i64 m, .int .i64 n, .int .i64 q, .bool false])) := ⟨m, n, q, false, rfl, by simp⟩
set_option maxRecDepth 100000 in
set_option maxHeartbeats 4000000 in
theorem ptimes_any (p : Nat) (s : ByteArray) (a : Nat) (x : Bool) (g : Nat) (b : Bool) (w : World) (hb : PdAt w p s a x g b) (ha : a ≤ s.size) (hs : s.size ≤ 600) :
  Calls Try.prog 119 #[.pointer (some ⟨p, 0, none⟩)] w fun e w' => TimesR s a e ∧ Keep Nb w w' := by
 have HH : ∀ t wx, t.size ≤ 600 → PdAt wx p s a x g b → Calls Try.prog 92 #[.pointer (some ⟨p, 0, none⟩), .string t] wx fun e w' => ∃ r, e = .returned (.bool r) ∧ (r = true → a + t.size ≤ s.size ∧ b = false) ∧ Keep Nb wx w' := fun t wx ht hx => phas_any p s a x g b t wx hx ha hs ht
 have HG := Lib.hid HH
 have HA := Lib.hid ha
 have HS := Lib.hid hs
 have W1 : IntKind.i64.wrap ((a : Int) + 1) = (a : Int) + 1 := wr_small (by omega) (by omega)
 clear HH ha hs
 have nn : ¬ Nb p := fun h => h
 have hl := hb.lt
 go_enter Try.func119, Try.ntmps119
 go_upto_block 0 with fail
 go_cut [] (fun wx => PdAt wx p s a x g b ∧ Keep Nb w wx)
 case first =>
  have d0 := hb.cell 1 (u := .int .i64 (a : Int)) rfl
  go_wp2_with fail
  refine (HG.out _ _ (by decide) hb).mono ?_
  rintro e w1 ⟨r, rfl, h1, k1⟩
  have b1 := hb.keep k1 nn
  have hl1 := b1.lt
  have d1 := b1.cell 1 (u := .int .i64 (a : Int)) rfl
  cases r with
  | true =>
   have H1 := Lib.hid (h1 rfl)
   clear h1
   go_wp2_with fail
   (refine wp_region_f [8] (InX Nb _) (by kernel_rfl) (InX.mk (Keep.drew (Keep.refl _ _))) (fun hI => ?_))
   have xx : ∀ k, ¬ Nb k := fun _ h => h
   have hD : Keep Nb w1 w1.drew := (Keep.refl _ _).drew
   have hK0 : Keep Nb w w1.drew := k1.drew
   generalize w1.drew = x0 at hK0 hD hI ⊢
   (refine wpI_from 0 ?_; (iterate 7 ((first | (refine wpI_take (v := ?_) rfl (by kernel_rfl) (fun _ _ _ h => h) hI rfl ?_ ?_; rotate_left; (focus (rintro _ ⟨E, rfl⟩; go_simp; (try with_reducible rfl)))) | refine wpI_skip rfl (by kernel_rfl) (fun _ _ _ h => h) hI rfl ?_); simp only [Act.put, tk, Nat.reduceAdd])); refine wpI_till ?_)
   (refine wpF_one 7 rfl (by kernel_rfl) rfl (fun K hK => ?_))
   go_simp
   (refine hK _ _ (fun _ => InX.mk hD) (fun hI => ?_); have hI := hI (by simp); clear hK K; try simp only [Act.put, tk])
   (refine wpF_one 8 rfl (by kernel_rfl) rfl (fun K hK => ?_))
   go_simp
   (refine hK _ _ (fun h => absurd (by simp) h) (fun _ => ?_); clear hK K; try simp only [Act.put, tk])
   (refine wpF_done (by kernel_rfl) ?_ _)
   go_wp2_with fail
   (try simp only [Exit.inBlock, Exit.then]); refine bodyPost_ret (results_tmp4 rfl _ _ _) rfl ?_
   exact ⟨TimesR.yes 0 (-1) (by have h := H1.out.1; exact h), hK0⟩
  | false =>
   clear h1
   have e1 := b1.cell 2 (u := .bool x) rfl
   cases x with
   | false =>
    go_wp2_with fail
    go_meet
    exact ⟨b1, k1⟩
   | true =>
    go_wp2_with fail
    refine (HG.out _ _ (by decide) b1).mono ?_
    rintro e w2 ⟨r, rfl, h2, k2⟩
    have b2 := b1.keep k2 nn
    have kk2 := Keep.trans k1 k2 (fun _ _ h => h)
    have hl2 := b2.lt
    have d2 := b2.cell 1 (u := .int .i64 (a : Int)) rfl
    have e2 := b2.cell 2 (u := .bool true) rfl
    cases r with
    | true =>
     have H2 := Lib.hid (h2 rfl)
     clear h2
     go_wp2_with fail
     (refine wp_region_f [8] (InX Nb _) (by kernel_rfl) (InX.mk (Keep.drew (Keep.refl _ _))) (fun hI => ?_))
     have xx : ∀ k, ¬ Nb k := fun _ h => h
     have hD : Keep Nb w2 w2.drew := (Keep.refl _ _).drew
     have hK0 : Keep Nb w w2.drew := kk2.drew
     generalize w2.drew = x0 at hK0 hD hI ⊢
     (refine wpI_from 0 ?_; (iterate 7 ((first | (refine wpI_take (v := ?_) rfl (by kernel_rfl) (fun _ _ _ h => h) hI rfl ?_ ?_; rotate_left; (focus (rintro _ ⟨E, rfl⟩; go_simp; (try with_reducible rfl)))) | refine wpI_skip rfl (by kernel_rfl) (fun _ _ _ h => h) hI rfl ?_); simp only [Act.put, tk, Nat.reduceAdd])); refine wpI_till ?_)
     (refine wpF_one 7 rfl (by kernel_rfl) rfl (fun K hK => ?_))
     go_simp
     (refine hK _ _ (fun _ => InX.mk hD) (fun hI => ?_); have hI := hI (by simp); clear hK K; try simp only [Act.put, tk])
     (refine wpF_one 8 rfl (by kernel_rfl) rfl (fun K hK => ?_))
     go_simp
     (refine hK _ _ (fun h => absurd (by simp) h) (fun _ => ?_); clear hK K; try simp only [Act.put, tk])
     (refine wpF_done (by kernel_rfl) ?_ _)
     go_wp2_with fail
     (try simp only [Exit.inBlock, Exit.then]); refine bodyPost_ret (results_tmp4 rfl _ _ _) rfl ?_
     exact ⟨TimesR.yes 1 (-1) (by have h := H2.out.1; exact h), hK0⟩
    | false =>
     clear h2
     go_wp2_with fail
     refine (HG.out _ _ (by decide) b2).mono ?_
     rintro e w3 ⟨r, rfl, h3, k3⟩
     have b3 := b2.keep k3 nn
     have kk3 := Keep.trans kk2 k3 (fun _ _ h => h)
     have hl3 := b3.lt
     have d3 := b3.cell 1 (u := .int .i64 (a : Int)) rfl
     cases r with
     | true =>
      have H3 := Lib.hid (h3 rfl)
      clear h3
      go_wp2_with fail
      (refine wp_region_f [8] (InX Nb _) (by kernel_rfl) (InX.mk (Keep.drew (Keep.refl _ _))) (fun hI => ?_))
      have xx : ∀ k, ¬ Nb k := fun _ h => h
      have hD : Keep Nb w3 w3.drew := (Keep.refl _ _).drew
      have hK0 : Keep Nb w w3.drew := kk3.drew
      generalize w3.drew = x0 at hK0 hD hI ⊢
      (refine wpI_from 0 ?_; (iterate 7 ((first | (refine wpI_take (v := ?_) rfl (by kernel_rfl) (fun _ _ _ h => h) hI rfl ?_ ?_; rotate_left; (focus (rintro _ ⟨E, rfl⟩; go_simp; (try with_reducible rfl)))) | refine wpI_skip rfl (by kernel_rfl) (fun _ _ _ h => h) hI rfl ?_); simp only [Act.put, tk, Nat.reduceAdd])); refine wpI_till ?_)
      (refine wpF_one 7 rfl (by kernel_rfl) rfl (fun K hK => ?_))
      go_simp
      (refine hK _ _ (fun _ => InX.mk hD) (fun hI => ?_); have hI := hI (by simp); clear hK K; try simp only [Act.put, tk])
      (refine wpF_one 8 rfl (by kernel_rfl) rfl (fun K hK => ?_))
      go_simp
      (refine hK _ _ (fun h => absurd (by simp) h) (fun _ => ?_); clear hK K; try simp only [Act.put, tk])
      (refine wpF_done (by kernel_rfl) ?_ _)
      go_wp2_with fail
      (try simp only [Exit.inBlock, Exit.then]); refine bodyPost_ret (results_tmp4 rfl _ _ _) rfl ?_
      exact ⟨TimesR.yes 0 1 (by have h := H3.out.1; exact h), hK0⟩
     | false =>
      clear h3
      go_wp2_with fail
      go_meet
      exact ⟨b3, kk3⟩
 case rest =>
  obtain ⟨b1, k1⟩ := hcut
  have hl1 := b1.lt
  have c0 := b1.cell 0 (u := .string s) rfl
  have d1 := b1.cell 1 (u := .int .i64 (a : Int)) rfl
  have e1 := b1.cell 2 (u := .bool x) rfl
  have hb1 := b1
  clear hl hb
  go_wp2_with fail
  (refine wp_region_f [17] (InX Nb _) (by kernel_rfl) (InX.mk (Keep.drew (Keep.refl _ _))) (fun hI => ?_))
  have xx : ∀ k, ¬ Nb k := fun _ h => h
  have hD : Keep Nb wc wc.drew := (Keep.refl _ _).drew
  have hK0 : Keep Nb w wc.drew := k1.drew
  have bx := b1.keep hD nn
  generalize wc.drew = x0 at hK0 hD hI bx ⊢
  (refine wpI_from 0 ?_; (iterate 9 ((first | (refine wpI_take (v := ?_) rfl (by kernel_rfl) (fun _ _ _ h => h) hI rfl ?_ ?_; rotate_left; (focus (rintro _ ⟨E, rfl⟩; go_simp; (try with_reducible rfl)))) | refine wpI_skip rfl (by kernel_rfl) (fun _ _ _ h => h) hI rfl ?_); simp only [Act.put, tk, Nat.reduceAdd])); refine wpI_till ?_)
  (refine wpF_one 9 rfl (by kernel_rfl) rfl (fun K hK => ?_))
  go_simp
  refine (pbrace_any p s a x g b x0 bx).mono ?_
  rintro e x1 ⟨t, he, t1, t2, kb⟩
  subst he
  have bz := bx.keep kb nn
  replace hD := Keep.trans hD kb (fun _ _ h => h)
  replace hK0 := Keep.trans hK0 kb (fun _ _ h => h)
  have V1 : IntKind.i64.wrap ((a : Int) + (t.size : Int)) = ((a + t.size : Nat) : Int) := by rw [wr_small (by have := HA.out; have := HS.out; omega) (by have := HA.out; have := HS.out; omega)]; omega
  have T1 := Lib.hid t1
  have T2 := Lib.hid t2
  clear t1 t2
  (refine hK _ _ (fun _ => InX.mk hD) (fun hI => ?_); have hI := hI (by simp); clear hK K; try simp only [Act.put, tk])
  (refine wpI_from 10 ?_; (iterate 2 ((first | (refine wpI_take (v := ?_) rfl (by kernel_rfl) (fun _ _ _ h => h) hI rfl ?_ ?_; rotate_left; (focus (rintro _ ⟨E, rfl⟩; go_simp; (try with_reducible rfl)))) | refine wpI_skip rfl (by kernel_rfl) (fun _ _ _ h => h) hI rfl ?_); simp only [Act.put, tk, Nat.reduceAdd])); refine wpI_till ?_)
  (refine wpF_one 12 rfl (by kernel_rfl) rfl (fun K hK => ?_))
  go_simp
  have hdg := pdigits_all s (a + t.size) x1 HS.out
  rw [Int.natCast_add] at hdg
  refine hdg.mono ?_
  rintro e x2 ⟨n, q, he, hq, n1, n2, kd⟩
  subst he
  have by2 := bz.keep kd nn
  replace hD := Keep.trans hD kd (fun _ _ h => h)
  replace hK0 := Keep.trans hK0 kd (fun _ _ h => h)
  clear hdg
  (refine hK _ _ (fun _ => InX.mk hD) (fun hI => ?_); have hI := hI (by simp); clear hK K; try simp only [Act.put, tk])
  (refine wpI_from 13 ?_; (iterate 3 ((first | (refine wpI_take (v := ?_) rfl (by kernel_rfl) (fun _ _ _ h => h) hI rfl ?_ ?_; rotate_left; (focus (rintro _ ⟨E, rfl⟩; go_simp; (try with_reducible rfl)))) | refine wpI_skip rfl (by kernel_rfl) (fun _ _ _ h => h) hI rfl ?_); simp only [Act.put, tk, Nat.reduceAdd])); refine wpI_till ?_)
  (refine wpF_one 16 rfl (by kernel_rfl) rfl (fun K hK => ?_))
  go_simp
  (refine hK _ _ (fun _ => InX.mk hD) (fun hI => ?_); have hI := hI (by simp); clear hK K; try simp only [Act.put, tk])
  (refine wpF_one 17 rfl (by kernel_rfl) rfl (fun K hK => ?_))
  go_simp
  (refine hK _ _ (fun h => absurd (by simp) h) (fun _ => ?_); clear hK K; try simp only [Act.put, tk])
  (refine wpF_done (by kernel_rfl) ?_ _)
  clear hD hI bx bz V1
  have l2 := by2.lt
  by_cases hn : n < 0
  ·have m0 : decide (n < 0) = true := by simpa using hn
   clear hn n1 n2 hq
   go_wp2_with fail
   (try simp only [Exit.inBlock, Exit.then]); refine bodyPost_ret (results_tmp4 rfl _ _ _) rfl ?_
   exact ⟨TimesR.no _ _ _, hK0⟩
  have m0 : decide (n < 0) = false := by simpa using hn
  have HQ : Hid (a + 1 ≤ q ∧ q ≤ s.size) := Lib.hid (by have := T1.out; omega)
  clear hn n1 n2 hq
  have c0 := by2.cell 0 (u := .string s) rfl
  have c2 := by2.cell 2 (u := .bool x) rfl
  go_upto_region 11 with fail
  go_cut [80] (fun y wx => ∃ β : Bool, y = .bool β ∧ Hid (β = true → q < s.size) ∧ PdAt wx p s a x g b ∧ Keep Nb w wx)
  case first =>
   by_cases hc : q < s.size
   ·obtain ⟨d, hd⟩ : ∃ d, s.toList[q]? = some d := ⟨_, List.getElem?_eq_getElem (by rw [toList_len]; exact hc)⟩
    obtain ⟨b0, e0⟩ := byte_at hd
    have h0 : (0 : Int) ≤ (q : Int) := by omega
    have h1 : (q : Int) < (s.size : Int) := by omega
    have HC : Hid (q < s.size) := Lib.hid hc
    clear hd
    go_wp2_with fail
    go_meet
    exact ⟨_, rfl, Lib.hid (fun _ => HC.out), by2, hK0⟩
   ·have h1 : decide ((q : Int) < (s.size : Int)) = false := by simp; omega
    have h2 : decide (q < s.size) = false := by simp; omega
    clear hc
    go_wp2_with fail
    go_meet
    exact ⟨false, rfl, Lib.hid (by simp), by2, hK0⟩
  case rest =>
  obtain ⟨β, rfl, HB, b3, k3⟩ := hcut
  clear by2 l2 c0 c2 hK0
  have l3 := b3.lt
  have c0 := b3.cell 0 (u := .string s) rfl
  have c2 := b3.cell 2 (u := .bool x) rfl
  go_upto_if 80 with fail
  go_cut [7, 8] (fun y z wx => ∃ (r : Nat) (k : Int), y = .int .i64 (r : Int) ∧ z = .int .i64 k ∧ Hid (a + 1 ≤ r ∧ r ≤ s.size) ∧ PdAt wx p s a x g b ∧ Keep Nb w wx)
  case first =>
   cases β with
   | true =>
    have V2 : IntKind.i64.wrap ((q : Int) + 1) = ((q + 1 : Nat) : Int) := by rw [wr_small (by have := HS.out; have := HQ.out; omega) (by have := HS.out; have := HQ.out; omega)]; omega
    have HC : Hid (q < s.size) := Lib.hid (HB.out rfl)
    go_wp2_with fail
    have hdg := pdigits_any s (q + 1) wc (by have := HC.out; omega) HS.out
    simp only [Int.natCast_add, Int.natCast_one] at hdg
    refine hdg.mono ?_
    clear hdg
    rintro e x3 ⟨k, r, he, r1, r2, k1, k2, kd2⟩
    subst he
    have b4 := b3.keep kd2 nn
    have kk3 := Keep.trans k3 kd2 (fun _ _ h => h)
    by_cases hk2 : k = -2
    ·have m2 : (k == -2) = true := by simpa using hk2
     clear hk2 k1 k2
     go_wp2_with fail
     (try simp only [Exit.inBlock, Exit.then]); refine bodyPost_ret (results_tmp4 rfl _ _ _) rfl ?_
     exact ⟨TimesR.no _ _ _, kk3⟩
    have m2 : (k == -2) = false := by simpa using hk2
    have HR : Hid (a + 1 ≤ r ∧ r ≤ s.size) := Lib.hid (by have := HQ.out; omega)
    clear hk2
    by_cases hk0 : 0 ≤ k
    ·have m3 : decide (0 ≤ k) = true := by simpa using hk0
     by_cases hkn : k < n
     ·have m4 : decide (k < n) = true := by simpa using hkn
      clear k1 k2
      go_wp2_with fail
      (try simp only [Exit.inBlock, Exit.then]); refine bodyPost_ret (results_tmp4 rfl _ _ _) rfl ?_
      exact ⟨TimesR.no _ _ _, kk3⟩
     ·have m4 : decide (k < n) = false := by simpa using hkn
      clear k1 k2
      go_wp2_with fail
      go_meet
      exact ⟨r, k, rfl, rfl, HR, b4, kk3⟩
    ·have m3 : decide (0 ≤ k) = false := by simpa using hk0
     clear k1 k2
     go_wp2_with fail
     go_meet
     exact ⟨r, k, rfl, rfl, HR, b4, kk3⟩
   | false =>
    go_wp2_with fail
    go_meet
    exact ⟨q, n, rfl, rfl, HQ, b3, k3⟩
  case rest =>
  obtain ⟨r, k, rfl, rfl, HR, b4, k4⟩ := hcut
  clear b3 l3 c0 c2 k3
  have l4 := b4.lt
  have c0 := b4.cell 0 (u := .string s) rfl
  have c2 := b4.cell 2 (u := .bool x) rfl
  clear HB HQ W1 m0
  cases x with
  | true =>
   have V3 : IntKind.i64.wrap ((s.size : Int) - (r : Int)) = (s.size : Int) - (r : Int) := wr_small (by have := HS.out; have := HR.out; omega) (by have := HS.out; have := HR.out; omega)
   have V4 : IntKind.i64.wrap ((r : Int) + 1) = (r : Int) + 1 := wr_small (by have := HS.out; have := HR.out; omega) (by have := HS.out; have := HR.out; omega)
   by_cases hr : r + 1 ≤ s.size
   ·have m1 : decide ((s.size : Int) - (r : Int) < 1) = false := by simp; omega
    have h0 : (0 : Int) ≤ (r : Int) := by omega
    have h1 : (r : Int) ≤ (r : Int) + 1 := by omega
    have h2 : (r : Int) + 1 ≤ (s.size : Int) := by omega
    have HX : Hid (r + 1 ≤ s.size) := Lib.hid hr
    clear hr
    go_wp2_with fail
    all_goals
     (try simp only [Exit.inBlock, Exit.then]); refine bodyPost_ret (results_tmp4 rfl _ _ _) rfl ?_
     first
      | exact ⟨TimesR.no _ _ _, k4⟩
      | exact ⟨⟨_, _, _, true, rfl, fun _ => ⟨r + 1, by omega, by have := HR.out; omega, HX.out⟩⟩, k4⟩
   ·have m1 : decide ((s.size : Int) - (r : Int) < 1) = true := by simp; omega
    clear hr
    go_wp2_with fail
    (try simp only [Exit.inBlock, Exit.then]); refine bodyPost_ret (results_tmp4 rfl _ _ _) rfl ?_
    exact ⟨TimesR.no _ _ _, k4⟩
  | false =>
   have V3 : IntKind.i64.wrap ((s.size : Int) - (r : Int)) = (s.size : Int) - (r : Int) := wr_small (by have := HS.out; have := HR.out; omega) (by have := HS.out; have := HR.out; omega)
   have V4 : IntKind.i64.wrap ((r : Int) + 2) = (r : Int) + 2 := wr_small (by have := HS.out; have := HR.out; omega) (by have := HS.out; have := HR.out; omega)
   by_cases hr : r + 2 ≤ s.size
   ·have m1 : decide ((s.size : Int) - (r : Int) < 2) = false := by simp; omega
    have h0 : (0 : Int) ≤ (r : Int) := by omega
    have h1 : (r : Int) ≤ (r : Int) + 2 := by omega
    have h2 : (r : Int) + 2 ≤ (s.size : Int) := by omega
    have HX : Hid (r + 2 ≤ s.size) := Lib.hid hr
    clear hr
    go_wp2_with fail
    all_goals
     (try simp only [Exit.inBlock, Exit.then]); refine bodyPost_ret (results_tmp4 rfl _ _ _) rfl ?_
     first
      | exact ⟨TimesR.no _ _ _, k4⟩
      | exact ⟨⟨_, _, _, true, rfl, fun _ => ⟨r + 2, by omega, by have := HR.out; omega, HX.out⟩⟩, k4⟩
   ·have m1 : decide ((s.size : Int) - (r : Int) < 2) = true := by simp; omega
    clear hr
    go_wp2_with fail
    (try simp only [Exit.inBlock, Exit.then]); refine bodyPost_ret (results_tmp4 rfl _ _ _) rfl ?_
    exact ⟨TimesR.no _ _ _, k4⟩
def hasX (s : ByteArray) (a : Nat) (b : Bool) (t : ByteArray) : Bool := !b && (decide (a + t.size ≤ s.size) && ((s.extract a (a + t.size)).toList == t.toList))
theorem hasX_le {s : ByteArray} {a : Nat} {b : Bool} {t : ByteArray} (h : hasX s a b t = true) : a + t.size ≤ s.size ∧ b = false := by
 unfold hasX at h; simp at h; exact ⟨h.2.1, h.1⟩
set_option maxRecDepth 100000 in
set_option maxHeartbeats 2000000 in
theorem phas_x (p : Nat) (s : ByteArray) (a : Nat) (x : Bool) (g : Nat) (b : Bool) (t : ByteArray) (w : World) (hb : PdAt w p s a x g b) (ha : a ≤ s.size) (hs : s.size ≤ 600) (ht : t.size ≤ 600) :
  Calls Try.prog 92 #[.pointer (some ⟨p, 0, none⟩), .string t] w fun e w' => e = .returned (.bool (hasX s a b t)) ∧ Keep Nb w w' := by
 have c0 := hb.cell 0 (u := .string s) rfl
 have c1 := hb.cell 1 (u := .int .i64 (a : Int)) rfl
 have c4 := hb.cell 4 (u := .bool b) rfl
 have hl := hb.lt
 cases b with
 | true =>
  go_enter Try.func92, Try.ntmps92
  go_wp2_with fail
  (refine wp_region_f [40] (InX Nb _) (by kernel_rfl) (InX.mk (Keep.drew (Keep.refl _ _))) (fun hI => ?_))
  have xx : ∀ k, ¬ Nb k := fun _ h => h
  have hK0 : Keep Nb w w.drew := (Keep.refl _ _).drew
  generalize w.drew = x0 at hK0 hI ⊢
  (refine wpI_from 0 ?_; (iterate 40 ((first | (refine wpI_take (v := ?_) rfl (by kernel_rfl) (fun _ _ _ h => h) hI rfl ?_ ?_; rotate_left; (focus (rintro _ ⟨E, rfl⟩; go_simp; (try with_reducible rfl)))) | refine wpI_skip rfl (by kernel_rfl) (fun _ _ _ h => h) hI rfl ?_); simp only [Act.put, tk, Nat.reduceAdd])); refine wpI_till ?_)
  (refine wpF_one 40 rfl (by kernel_rfl) rfl (fun K hK => ?_))
  go_simp
  (refine hK _ _ (fun h => absurd (by simp) h) (fun _ => ?_); clear hK K; try simp only [Act.put, tk])
  (refine wpF_done (by kernel_rfl) ?_ _)
  go_wp2_with fail
  go_ret
  exact ⟨by simp [hasX], hK0⟩
 | false =>
 have W1 : IntKind.i64.wrap ((s.size : Int) - (a : Int)) = (s.size : Int) - (a : Int) := wr_small (by omega) (by omega)
 have W2 : IntKind.i64.wrap ((a : Int) + (t.size : Int)) = (a : Int) + (t.size : Int) := wr_small (by omega) (by omega)
 by_cases hr : a + t.size ≤ s.size
 ·have HX : Hid (a + t.size ≤ s.size) := Lib.hid hr
  have m1 : decide ((t.size : Int) ≤ (s.size : Int) - (a : Int)) = true := by simp; omega
  have h0 : (0 : Int) ≤ (a : Int) := by omega
  have h1 : (a : Int) ≤ (a : Int) + (t.size : Int) := by omega
  have h2 : (a : Int) + (t.size : Int) ≤ (s.size : Int) := by omega
  go_enter Try.func92, Try.ntmps92
  go_wp2_with fail
  (refine wp_region_f [40] (InX Nb _) (by kernel_rfl) (InX.mk (Keep.drew (Keep.refl _ _))) (fun hI => ?_))
  have xx : ∀ k, ¬ Nb k := fun _ h => h
  have hK0 : Keep Nb w w.drew := (Keep.refl _ _).drew
  generalize w.drew = x0 at hK0 hI ⊢
  (refine wpI_from 0 ?_; (iterate 19 ((first | (refine wpI_take (v := ?_) rfl (by kernel_rfl) (fun _ _ _ h => h) hI rfl ?_ ?_; rotate_left; (focus (rintro _ ⟨E, rfl⟩; go_simp; (try with_reducible rfl)))) | refine wpI_skip rfl (by kernel_rfl) (fun _ _ _ h => h) hI rfl ?_); simp only [Act.put, tk, Nat.reduceAdd])); refine wpI_till ?_)
  try simp only [W1, m1]
  (refine wpI_from 19 ?_; (iterate 17 ((first | (refine wpI_take (v := ?_) rfl (by kernel_rfl) (fun _ _ _ h => h) hI rfl ?_ ?_; rotate_left; (focus (rintro _ ⟨E, rfl⟩; go_simp; (try with_reducible rfl)))) | refine wpI_skip rfl (by kernel_rfl) (fun _ _ _ h => h) hI rfl ?_); simp only [Act.put, tk, Nat.reduceAdd])); refine wpI_till ?_)
  try simp only [W2]
  (refine wpI_from 36 ?_; (iterate 4 ((first | (refine wpI_take (v := ?_) rfl (by kernel_rfl) (fun _ _ _ h => h) hI rfl ?_ ?_; rotate_left; (focus (rintro _ ⟨E, rfl⟩; go_simp; (try with_reducible rfl)))) | refine wpI_skip rfl (by kernel_rfl) (fun _ _ _ h => h) hI rfl ?_); simp only [Act.put, tk, Nat.reduceAdd])); refine wpI_till ?_)
  (refine wpF_one 40 rfl (by kernel_rfl) rfl (fun K hK => ?_))
  go_simp
  (refine hK _ _ (fun h => absurd (by simp) h) (fun _ => ?_); clear hK K; try simp only [Act.put, tk])
  (refine wpF_done (by kernel_rfl) ?_ _)
  go_wp2_with fail
  go_ret
  have hn3 : ((a : Int) + (t.size : Int)).toNat = a + t.size := by omega
  exact ⟨by simp [hasX, HX.out, hn3], hK0⟩
 ·have HX : Hid (¬ a + t.size ≤ s.size) := Lib.hid hr
  have m1 : decide ((t.size : Int) ≤ (s.size : Int) - (a : Int)) = false := by simp; omega
  clear hr ha hs ht W2
  go_enter Try.func92, Try.ntmps92
  go_wp2_with fail
  (refine wp_region_f [40] (InX Nb _) (by kernel_rfl) (InX.mk (Keep.drew (Keep.refl _ _))) (fun hI => ?_))
  have xx : ∀ k, ¬ Nb k := fun _ h => h
  have hK0 : Keep Nb w w.drew := (Keep.refl _ _).drew
  generalize w.drew = x0 at hK0 hI ⊢
  (refine wpI_from 0 ?_; (iterate 19 ((first | (refine wpI_take (v := ?_) rfl (by kernel_rfl) (fun _ _ _ h => h) hI rfl ?_ ?_; rotate_left; (focus (rintro _ ⟨E, rfl⟩; go_simp; (try with_reducible rfl)))) | refine wpI_skip rfl (by kernel_rfl) (fun _ _ _ h => h) hI rfl ?_); simp only [Act.put, tk, Nat.reduceAdd])); refine wpI_till ?_)
  try simp only [W1, m1]
  (refine wpI_from 19 ?_; (iterate 21 ((first | (refine wpI_take (v := ?_) rfl (by kernel_rfl) (fun _ _ _ h => h) hI rfl ?_ ?_; rotate_left; (focus (rintro _ ⟨E, rfl⟩; go_simp; (try with_reducible rfl)))) | refine wpI_skip rfl (by kernel_rfl) (fun _ _ _ h => h) hI rfl ?_); simp only [Act.put, tk, Nat.reduceAdd])); refine wpI_till ?_)
  (refine wpF_one 40 rfl (by kernel_rfl) rfl (fun K hK => ?_))
  go_simp
  (refine hK _ _ (fun h => absurd (by simp) h) (fun _ => ?_); clear hK K; try simp only [Act.put, tk])
  (refine wpF_done (by kernel_rfl) ?_ _)
  go_wp2_with fail
  go_ret
  exact ⟨by simp [hasX, HX.out], hK0⟩
end Go.Proofs.Ytkidjbfapldmbaa
