import Derived.Test.YtkidjbfapldmbaaZRl
import Derived.Test.YtkidjbfapldmbaaZRv
import Derived.Test.YtkidjbfapldmbaaZRformed
import Derived.Test.YtkidjbfapldmbaaZFna
set_option linter.unusedVariables false
set_option linter.unusedSimpArgs false
namespace Go.Proofs.Ytkidjbfapldmbaa
open Go.RowKit P8
theorem whole_says (p : Nat) (s : ByteArray) (x : Bool) (hs : s.size ≤ 600) : ∀ m, WholeSays p s x m
 | 0 => pwhole_h p s x 0 (fun a g w hb ha hg hm => pbranch_h p s x 0 (fun a' g' β w' hb' ha' _ hm' => absurd hm' (by omega)) a g w hb ha hs hg hm) hs
 | m + 1 => pwhole_h p s x (m + 1) (fun a g w hb ha hg hm => pbranch_h p s x (m + 1) (fun a' g' β w' hb' ha' hg' hm' => patom_h p s x m (whole_says p s x hs m) (member_e s hs) a' g' β w' hb' ha' hs hg' hm') a g w hb ha hs hg hm) hs
def ParseR (w w' : World) (e : Ending) : Prop := ∃ (T : Nd) (A : Option Addr) (n c : Nat) (at_ err : Int), e = .returned (.tuple #[.agg (Nd.row T (.slice A n c)), .int .i64 at_, .int .i64 err]) ∧ (err = 0 → Lies w' T (.slice A n c)) ∧ Keep Nb w w'
set_option maxRecDepth 100000 in
set_option maxHeartbeats 16000000 in
theorem parse_any (s : ByteArray) (x : Bool) (hs : s.size ≤ 600) (w : World) :
  Calls Try.prog 44 #[.string s, .bool x] w fun e w' => ParseR w w' e := by
 have HS := Lib.hid hs
 have HW := Lib.hid (whole_says (w.heap.size + 1) s x hs 600)
 go_enter Try.func44, Try.ntmps44
 go_upto_region 2 with fail
 have hb1 : PdAt ((w.alloc (.cells zeroNode 27)).alloc (.cells #[.string s, .int .i64 ((0 : Nat) : Int), .bool x, .int .i64 ((0 : Nat) : Int), .bool false] 121)) (w.heap.size + 1) s 0 x 0 false := Blk.new' (by simp) _ _
 have hr1 : Blk ((w.alloc (.cells zeroNode 27)).alloc (.cells #[.string s, .int .i64 ((0 : Nat) : Int), .bool x, .int .i64 ((0 : Nat) : Int), .bool false] 121)) w.heap.size zeroNode 27 := (Blk.new w _ _).alloc _
 have hk1 : Keep Nb w ((w.alloc (.cells zeroNode 27)).alloc (.cells #[.string s, .int .i64 ((0 : Nat) : Int), .bool x, .int .i64 ((0 : Nat) : Int), .bool false] 121)) := Keep.alloc (Keep.alloc (Keep.refl _ _) _) _
 have hx : (w.alloc (.cells #[.int .i64 0, .int .u8 0, .int .u64 0, .int .u64 0, .int .u64 0, .int .u64 0, .int .i64 0, .int .i64 0, .int .i64 0, .slice none 0 0] 27)).alloc (.cells #[.string s, .int .i64 0, .bool x, .int .i64 0, .bool false] 121) = (w.alloc (.cells zeroNode 27)).alloc (.cells #[.string s, .int .i64 ((0 : Nat) : Int), .bool x, .int .i64 ((0 : Nat) : Int), .bool false] 121) := rfl
 rw [hx]; clear hx
 have HZ : Hid (w.heap.size + 2 = ((w.alloc (.cells zeroNode 27)).alloc (.cells #[.string s, .int .i64 ((0 : Nat) : Int), .bool x, .int .i64 ((0 : Nat) : Int), .bool false] 121)).heap.size) := Lib.hid (by simp)
 generalize (w.alloc (.cells zeroNode 27)).alloc (.cells #[.string s, .int .i64 ((0 : Nat) : Int), .bool x, .int .i64 ((0 : Nat) : Int), .bool false] 121) = w1 at hb1 hr1 hk1 HZ ⊢
 clear hs
 go_wp2_with fail
 refine (HW.out 0 0 w1 hb1 (Nat.zero_le _) (Nat.zero_le _) (by have := HS.out; omega)).mono ?_
 rintro e w2 ⟨T, S, a1, g1, b1, rfl, hL, hb2, kd, hh, hcnt⟩
 obtain ⟨A1, c1, rfl, z1, z2, z3⟩ := LiesP_def.1 hL
 have HCT : Hid (count T ≤ 900000) := Lib.hid (by have := HS.out; have h4 : (if b1 = true then 1 else 0) ≤ 1 := by split <;> omega
                                                  omega)
 have HL := Lib.hid (LiesP_mono (fun q _ _ (hq : w1.heap.size ≤ q) _ => (show q ≠ w.heap.size by have := HZ.out; omega)) _ _ hL)
 have hr2 := hr1.keep kd (fun h => by simp only [Ob] at h; omega)
 have HKD := Lib.hid kd
 have HK2 : Hid (Keep Nb w w2) := Lib.hid (Keep.trans hk1 kd (fun b hb h => by simp only [Ob] at h; omega))
 have hz2 : w.heap.size + 2 ≤ w2.heap.size := by have := kd.size; have := HZ.out; omega
 have HA : Hid (a1 ≤ s.size) := Lib.hid hh.2.1
 clear hb1 hr1 hk1 hcnt hh kd hL z1 z2 z3
 go_upto_region 3 with (refine wpList_store_row rfl 27 (.tmp 8) (.tmp _) rfl w2.heap.size _ rfl rfl 27 _ (Blk.new w2 #[.int .i64 0, .int .u8 0, .int .u64 0, .int .u64 0, .int .u64 0, .int .u64 0, .int .i64 0, .int .i64 0, .int .i64 0, .slice none 0 0] 27) size27 rfl (by simp [Nd.row, Value.oneCell']) ?_)
 try simp only [Act.put, tk]
 have hkA : Keep Nb w2 ((w2.alloc (.cells zeroNode 27)).setRow w2.heap.size (Nd.row T (.slice A1 T.l.length c1))) := Keep.setRow (Keep.alloc (Keep.refl _ _) _) (Or.inl (Nat.le_refl _)) _
 have hq : Blk ((w2.alloc (.cells zeroNode 27)).setRow w2.heap.size (Nd.row T (.slice A1 T.l.length c1))) w2.heap.size (Nd.row T (.slice A1 T.l.length c1)) 27 := (Blk.new w2 _ _).setRow _
 have hr3 := hr2.keep hkA (fun h => h)
 have hb3 := hb2.keep hkA (fun h => h)
 have HK3 := Lib.hid (Keep.trans HK2.out hkA (fun _ _ h => h))
 have HL3 := Lib.hid (Lies_keep hkA HL.out)
 have hxx : ∀ V : Array Value, (w2.alloc (.cells #[.int .i64 0, .int .u8 0, .int .u64 0, .int .u64 0, .int .u64 0, .int .u64 0, .int .i64 0, .int .i64 0, .int .i64 0, .slice none 0 0] 27)).setRow w2.heap.size V = (w2.alloc (.cells zeroNode 27)).setRow w2.heap.size V := fun _ => rfl
 rw [hxx]
 clear hxx hkA hr2 hb2 HL HK2
 generalize ((w2.alloc (.cells zeroNode 27)).setRow w2.heap.size (Nd.row T (.slice A1 T.l.length c1))) = w3 at hq hr3 hb3 HK3 HL3 ⊢
 cases b1 with
 | true =>
  have HK4 := HK3.out
  have c4 := hb3.cell 4 (u := .bool true) rfl
  have c1 := hb3.cell 1 (u := .int .i64 (a1 : Int)) rfl
  have hl3 := hb3.lt
  go_wp2_with fail
  (refine wp_region_f [7] (InX (Ob w.heap.size) _) (by kernel_rfl) (InX.mk (Keep.drew (Keep.refl _ _))) (fun hI => ?_))
  have xx1 : ¬ Ob w.heap.size (w.heap.size + 1) := by unfold Ob; omega
  have hD : Keep (Ob w.heap.size) w3 w3.drew := (Keep.refl _ _).drew
  have kk : Keep Nb w w3.drew := HK3.out.drew
  have hR := hr3.drew
  generalize w3.drew = x0 at hI hD kk hR ⊢
  (refine wpI_from 0 ?_; (iterate 5 ((first | (refine wpI_take (v := ?_) rfl (by kernel_rfl) (fun _ _ _ h => h) hI rfl ?_ ?_; rotate_left; (focus (rintro _ ⟨E, rfl⟩; go_simp; (try with_reducible rfl)))) | refine wpI_skip rfl (by kernel_rfl) (fun _ _ _ h => h) hI rfl ?_); simp only [Act.put, tk, Nat.reduceAdd])); refine wpI_till ?_)
  (refine wpF_one 5 rfl (by kernel_rfl) rfl (fun K hK => ?_))
  refine wp_store_row 27 (.tmp 4) (.tmp 31) rfl w.heap.size _ rfl rfl 27 _ hR size27 rfl (by simp [Value.oneCell']) ?_
  replace hD := Keep.setRow (X := Ob w.heap.size) hD (Or.inr rfl) zeroNode
  replace hR := hR.setRow zeroNode
  replace kk := Keep.setRow kk (Or.inl (Nat.le_refl w.heap.size)) zeroNode
  (refine hK _ _ (fun _ => InX.mk hD) (fun hI => ?_); have hI := hI (by simp); clear hK K; try simp only [Act.put, tk])
  (refine wpF_one 6 rfl (by kernel_rfl) rfl (fun K hK => ?_))
  go_simp
  (refine hK _ _ (fun _ => InX.mk hD) (fun hI => ?_); have hI := hI (by simp); clear hK K; try simp only [Act.put, tk])
  (refine wpF_one 7 rfl (by kernel_rfl) rfl (fun K hK => ?_))
  go_simp
  (refine hK _ _ (fun h => absurd (by simp) h) (fun _ => ?_); clear hK K; try simp only [Act.put, tk])
  (refine wpF_done (by kernel_rfl) ?_ _)
  go_wp2_with fail
  exact bodyPost_ret (v := .tuple #[.agg zeroNode, .int .i64 (a1 : Int), .int .i64 10]) (results_ctt Try.results44 _ _ w.heap.size 27 zeroNode (0, 0) _ rfl hR Try.underlying27 rfl size27) rfl ⟨nd0, none, 0, 0, _, 10, rfl, fun h => absurd h (by decide), kk⟩
 | false =>
 have c4 := hb3.cell 4 (u := .bool false) rfl
 have hl3 := hb3.lt
 by_cases he : s.size ≤ a1
 ·have m1 : decide (s.size ≤ a1) = true := by simpa using he
  clear he
  have HF0 := Lib.hid (fun wx hx => rformed_any T HCT.out (.slice A1 T.l.length c1) wx hx)
  cases hf : formedT T with
  | false =>
   have hF := HF0.out
   rw [hf] at hF
   have HF := Lib.hid hF
   clear hF hf HF0
   go_wp2_with fail
   refine (pend_any (w.heap.size + 1) s a1 x g1 false w3 hb3).mono ?_
   rintro e w4 ⟨rfl, kd⟩
   have hq4 := hq.keep kd (fun h => h)
   have hr4 := hr3.keep kd (fun h => h)
   have hb4 := hb3.keep kd (fun h => h)
   have hl4 := hb4.lt
   have c4 := hb4.cell 4 (u := .bool false) rfl
   have HK4 := Lib.hid (Keep.trans HK3.out kd (fun _ _ h => h))
   have HL4 := Lib.hid (Lies_keep kd HL3.out)
   clear kd hq hr3 hb3
   go_wp2_with (refine wpList_load_row rfl 27 (.tmp 8) rfl w2.heap.size rfl 27 _ (0, 0) _ hq4 Try.underlying27 rfl size27 ?_)
   refine (HF.out w4 (LiesP_all HL4.out)).mono ?_
   rintro e w5 ⟨rfl, kd⟩
   have hr5 := hr4.keep kd (fun h => h)
   have HK5 := Lib.hid (Keep.trans HK4.out kd (fun _ _ h => h))
   clear kd
   go_wp2_with (refine wpList_store_row rfl 27 (.tmp 4) (.tmp 39) rfl w.heap.size _ rfl rfl 27 _ hr5 size27 rfl (by simp [Value.oneCell']) ?_)
   exact bodyPost_ret (v := .tuple #[.agg zeroNode, .int .i64 (s.size : Int), .int .i64 10]) (results_ctt Try.results44 _ _ w.heap.size 27 zeroNode (0, 0) _ rfl (hr5.setRow zeroNode) Try.underlying27 rfl size27) rfl ⟨nd0, none, 0, 0, _, 10, rfl, fun h => absurd h (by decide), Keep.setRow HK5.out (Or.inl (Nat.le_refl _)) _⟩
  | true =>
   have hF := HF0.out
   rw [hf] at hF
   have HF := Lib.hid hF
   clear hF hf HF0
   go_wp2_with fail
   refine (pend_any (w.heap.size + 1) s a1 x g1 false w3 hb3).mono ?_
   rintro e w4 ⟨rfl, kd⟩
   have hq4 := hq.keep kd (fun h => h)
   have hr4 := hr3.keep kd (fun h => h)
   have hb4 := hb3.keep kd (fun h => h)
   have hl4 := hb4.lt
   have c4 := hb4.cell 4 (u := .bool false) rfl
   have HK4 := Lib.hid (Keep.trans HK3.out kd (fun _ _ h => h))
   have HL4 := Lib.hid (Lies_keep kd HL3.out)
   clear kd hq hr3 hb3
   go_wp2_with (refine wpList_load_row rfl 27 (.tmp 8) rfl w2.heap.size rfl 27 _ (0, 0) _ hq4 Try.underlying27 rfl size27 ?_)
   refine (HF.out w4 (LiesP_all HL4.out)).mono ?_
   rintro e w5 ⟨rfl, kd⟩
   have hr5 := hr4.keep kd (fun h => h)
   have hq5 := hq4.keep kd (fun h => h)
   have HK5 := Lib.hid (Keep.trans HK4.out kd (fun _ _ h => h))
   have HL5 := Lib.hid (Lies_keep kd HL4.out)
   clear kd
   go_wp2_with (first
    | (refine wpList_load_row rfl 27 (.tmp 8) rfl w2.heap.size rfl 27 _ (0, 0) _ hq5 Try.underlying27 rfl size27 ?_)
    | (refine wpList_store_row rfl 27 (.tmp 4) (.tmp _) rfl w.heap.size _ rfl rfl 27 _ hr5 size27 rfl (by simp [Nd.row, Value.oneCell']) ?_))
   exact bodyPost_ret (v := .tuple #[.agg (Nd.row T (.slice A1 T.l.length c1)), .int .i64 0, .int .i64 0]) (results_ctt Try.results44 _ _ w.heap.size 27 _ (0, 0) _ rfl (hr5.setRow (Nd.row T (.slice A1 T.l.length c1))) Try.underlying27 rfl size27) rfl
    ⟨T, _, _, _, 0, 0, rfl, fun _ => LiesP_all (LiesP_keep (Keep.setRow (X := Ob w.heap.size) (Keep.refl _ _) (Or.inr rfl) _) (fun q (hq : q ≠ w.heap.size) e => hq e) HL5.out), Keep.setRow HK5.out (Or.inl (Nat.le_refl _)) _⟩
 ·have m1 : decide (s.size ≤ a1) = false := by simpa using he
  clear he
  go_wp2_with fail
  refine (pend_any (w.heap.size + 1) s a1 x g1 false w3 hb3).mono ?_
  rintro e w4 ⟨rfl, kd⟩
  have hr4 := hr3.keep kd (fun h => h)
  have hb4 := hb3.keep kd (fun h => h)
  have HK4 := Lib.hid (Keep.trans HK3.out kd (fun _ _ h => h))
  clear kd hr3 hb3 c4 hl3 hq
  go_wp2_with fail
  refine (pfail_any (w.heap.size + 1) s a1 x g1 false w4 hb4).mono ?_
  rintro e w5 ⟨rfl, hb5, kd⟩
  have hr5 := hr4.keep kd (fun h => by simp only [Ob] at h; omega)
  have HK5 := Lib.hid (Keep.trans HK4.out kd (fun b hb h => by simp only [Ob] at h; omega))
  clear kd hb4 hr4
  have c4 := hb5.cell 4 (u := .bool true) rfl
  have c1 := hb5.cell 1 (u := .int .i64 (a1 : Int)) rfl
  have hl3 := hb5.lt
  go_wp2_with fail
  (refine wp_region_f [7] (InX (Ob w.heap.size) _) (by kernel_rfl) (InX.mk (Keep.drew (Keep.refl _ _))) (fun hI => ?_))
  have xx1 : ¬ Ob w.heap.size (w.heap.size + 1) := by unfold Ob; omega
  have hD : Keep (Ob w.heap.size) w5 w5.drew := (Keep.refl _ _).drew
  have kk : Keep Nb w w5.drew := HK5.out.drew
  have hR := hr5.drew
  generalize w5.drew = x0 at hI hD kk hR ⊢
  (refine wpI_from 0 ?_; (iterate 5 ((first | (refine wpI_take (v := ?_) rfl (by kernel_rfl) (fun _ _ _ h => h) hI rfl ?_ ?_; rotate_left; (focus (rintro _ ⟨E, rfl⟩; go_simp; (try with_reducible rfl)))) | refine wpI_skip rfl (by kernel_rfl) (fun _ _ _ h => h) hI rfl ?_); simp only [Act.put, tk, Nat.reduceAdd])); refine wpI_till ?_)
  (refine wpF_one 5 rfl (by kernel_rfl) rfl (fun K hK => ?_))
  refine wp_store_row 27 (.tmp 4) (.tmp 31) rfl w.heap.size _ rfl rfl 27 _ hR size27 rfl (by simp [Value.oneCell']) ?_
  replace hD := Keep.setRow (X := Ob w.heap.size) hD (Or.inr rfl) zeroNode
  replace hR := hR.setRow zeroNode
  replace kk := Keep.setRow kk (Or.inl (Nat.le_refl w.heap.size)) zeroNode
  (refine hK _ _ (fun _ => InX.mk hD) (fun hI => ?_); have hI := hI (by simp); clear hK K; try simp only [Act.put, tk])
  (refine wpF_one 6 rfl (by kernel_rfl) rfl (fun K hK => ?_))
  go_simp
  (refine hK _ _ (fun _ => InX.mk hD) (fun hI => ?_); have hI := hI (by simp); clear hK K; try simp only [Act.put, tk])
  (refine wpF_one 7 rfl (by kernel_rfl) rfl (fun K hK => ?_))
  go_simp
  (refine hK _ _ (fun h => absurd (by simp) h) (fun _ => ?_); clear hK K; try simp only [Act.put, tk])
  (refine wpF_done (by kernel_rfl) ?_ _)
  go_wp2_with fail
  exact bodyPost_ret (v := .tuple #[.agg zeroNode, .int .i64 (a1 : Int), .int .i64 10]) (results_ctt Try.results44 _ _ w.heap.size 27 zeroNode (0, 0) _ rfl hR Try.underlying27 rfl size27) rfl ⟨nd0, none, 0, 0, _, 10, rfl, fun h => absurd h (by decide), kk⟩
end Go.Proofs.Ytkidjbfapldmbaa
