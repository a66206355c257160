import Derived.Test.YtkidjbfapldmbaaZRs
import Derived.Test.YtkidjbfapldmbaaZRj
import Derived.Test.YtkidjbfapldmbaaZRd
set_option linter.unusedVariables false
set_option linter.unusedSimpArgs false
namespace Go.Proofs.Ytkidjbfapldmbaa
open Go.RowKit P8
def openT (x : Bool) : ByteArray := if x then ⟨#[40]⟩ else ⟨#[92, 40]⟩
def shutT (x : Bool) : ByteArray := if x then ⟨#[41]⟩ else ⟨#[92, 41]⟩
theorem openT_size (x : Bool) : 1 ≤ (openT x).size ∧ (openT x).size ≤ 2 := by cases x <;> decide
theorem shutT_size (x : Bool) : 1 ≤ (shutT x).size ∧ (shutT x).size ≤ 2 := by cases x <;> decide
theorem popen_x (p : Nat) (s : ByteArray) (a : Nat) (x : Bool) (g : Nat) (b : Bool) (w : World) (hb : PdAt w p s a x g b) :
  Calls Try.prog 116 #[.pointer (some ⟨p, 0, none⟩)] w fun e w' => e = .returned (.string (openT x)) ∧ w' = w := by
 have c2 := hb.cell 2 (u := .bool x) rfl
 have hl := hb.lt
 cases x with
 | true =>
  go_enter Try.func116, Try.ntmps116
  go_wp2_with fail
  go_ret
  exact ⟨rfl, rfl⟩
 | false =>
  go_enter Try.func116, Try.ntmps116
  go_wp2_with fail
  go_ret
  exact ⟨rfl, rfl⟩
theorem pshut_x (p : Nat) (s : ByteArray) (a : Nat) (x : Bool) (g : Nat) (b : Bool) (w : World) (hb : PdAt w p s a x g b) :
  Calls Try.prog 105 #[.pointer (some ⟨p, 0, none⟩)] w fun e w' => e = .returned (.string (shutT x)) ∧ w' = w := by
 have c2 := hb.cell 2 (u := .bool x) rfl
 have hl := hb.lt
 cases x with
 | true =>
  go_enter Try.func105, Try.ntmps105
  go_wp2_with fail
  go_ret
  exact ⟨rfl, rfl⟩
 | false =>
  go_enter Try.func105, Try.ntmps105
  go_wp2_with fail
  go_ret
  exact ⟨rfl, rfl⟩
def WholeR (p : Nat) (s : ByteArray) (x : Bool) (a K : Nat) (w w' : World) (e : Ending) : Prop :=
 ∃ (T : Nd) (S : Value) (a' g' : Nat) (b' : Bool), e = .returned (.agg (Nd.row T S)) ∧ LiesP (fun q => w.heap.size ≤ q) w' T S ∧ PdAt w' p s a' x g' b' ∧ Keep (Ob p) w w' ∧ (a ≤ a' ∧ a' ≤ s.size ∧ g' ≤ 9) ∧ count T ≤ 4 * (a' - a) + (if b' = true then 1 else 0) + K
def WholeSays (p : Nat) (s : ByteArray) (x : Bool) (m : Nat) : Prop := ∀ (a g : Nat) (w : World), PdAt w p s a x g false → a ≤ s.size → g ≤ 9 → s.size - a ≤ m →
 Calls Try.prog 68 #[.pointer (some ⟨p, 0, none⟩)] w fun e w' => WholeR p s x a 2 w w' e
set_option maxRecDepth 100000 in
set_option maxHeartbeats 16000000 in
theorem patom_g (p : Nat) (s : ByteArray) (x : Bool) (m : Nat) (HW : WholeSays p s x m) (HM : MemberSays s) (a g : Nat) (β : Bool) (w : World) (hb : PdAt w p s a x g false) (ha : a < s.size) (hs : s.size ≤ 600) (hg : g ≤ 9) (hm : s.size - a ≤ m + 1) (hX : hasX s a false (openT x) = true) :
  Calls Try.prog 107 #[.pointer (some ⟨p, 0, none⟩), .bool β] w fun e w' => ReadR p s x a 0 w w' e := by
 have HS := Lib.hid hs
 have HA := Lib.hid ha
 have HG := Lib.hid hg
 have HMM := Lib.hid hm
 have HWH := Lib.hid HW
 have HMH := Lib.hid HM
 have hl := hb.lt
 obtain ⟨d, b0, e0⟩ := byte_of ha
 have i0 : (0 : Int) ≤ (a : Int) := by omega
 have i1 : (a : Int) < (s.size : Int) := by omega
 have HX := Lib.hid hX
 clear hX
 clear HW HM hs ha hg hm
 go_enter Try.func107, Try.ntmps107
 go_upto_region 1 with fail
 have hb1 : PdAt (w.alloc (.cells zeroNode 27)) p s a x g false := hb.alloc _
 have hr1 : Blk (w.alloc (.cells zeroNode 27)) w.heap.size zeroNode 27 := Blk.new w _ _
 have hk1 : Keep Nb w (w.alloc (.cells zeroNode 27)) := Keep.alloc (Keep.refl _ _) _
 have hsz : (w.alloc (.cells zeroNode 27)).heap.size = w.heap.size + 1 := by simp
 have hx : w.alloc (.cells #[.int .i64 0, .int .u8 0, .int .u64 0, .int .u64 0, .int .u64 0, .int .u64 0, .int .i64 0, .int .i64 0, .int .i64 0, .slice none 0 0] 27) = w.alloc (.cells zeroNode 27) := rfl
 rw [hx]; clear hx
 generalize w.alloc (.cells zeroNode 27) = w1 at hb1 hr1 hk1 hsz ⊢
 have c0 := hb1.cell 0 (u := .string s) rfl
 have c1 := hb1.cell 1 (u := .int .i64 (a : Int)) rfl
 have hl1 := hb1.lt
 have hne : p ≠ w.heap.size := by omega
 have HNE := Lib.hid hne
 have nn : ¬ Nb p := fun h => h
 go_wp2_with fail
 (refine wp_region_f [9] (InX Nb _) (by kernel_rfl) (InX.mk (Keep.drew (Keep.refl _ _))) (fun hI => ?_))
 have xx : ∀ k, ¬ Nb k := fun _ h => h
 replace hb1 := hb1.drew
 replace hr1 := hr1.drew
 replace hk1 := hk1.drew
 have s1 : w1.drew.heap.size = w.heap.size + 1 := hsz
 generalize w1.drew = x0 at hI hb1 hr1 hk1 s1 ⊢
 (refine wpI_from 0 ?_; (iterate 9 ((first | (refine wpI_take (v := ?_) rfl (by kernel_rfl) (fun _ _ _ h => h) hI rfl ?_ ?_; rotate_left; (focus (rintro _ ⟨E, rfl⟩; go_simp; (try with_reducible rfl)))) | refine wpI_skip rfl (by kernel_rfl) (fun _ _ _ h => h) hI rfl ?_); simp only [Act.put, tk, Nat.reduceAdd])); refine wpI_till ?_)
 (refine wpF_one 9 rfl (by kernel_rfl) rfl (fun K hK => ?_))
 go_simp
 (refine hK _ _ (fun h => absurd (by simp) h) (fun _ => ?_); clear hK K; try simp only [Act.put, tk])
 (refine wpF_done (by kernel_rfl) ?_ _)
 clear hI xx c0 c1 hl1 hsz i0 i1 b0 e0 hb
 have hl1 := hb1.lt
 go_wp2_with fail
 refine (popen_x p s a x g false x0 hb1).mono ?_
 rintro e y0 ⟨rfl, rfl⟩
 go_wp2_with fail
 refine (phas_x p s a x g false (openT x) y0 hb1 (Nat.le_of_lt HA.out) HS.out (by have := openT_size x; omega)).mono ?_
 rintro e w2 ⟨rfl, kd⟩
 have hb2 := hb1.keep kd nn
 have hr2 := hr1.keep kd (fun h => h)
 have hk2 := Keep.trans hk1 kd (fun _ _ h => h)
 have s2 : w.heap.size + 1 ≤ w2.heap.size := by have := kd.size; omega
 have hl2 := hb2.lt
 clear kd hb1 hr1 hk1 hl1 s1 hne
 simp only [HX.out]
 have HO : Hid (a + (openT x).size ≤ s.size) := Lib.hid (hasX_le HX.out).1
 have c3 := hb2.cell 3 (u := .int .i64 (g : Int)) rfl
 by_cases hg9 : g = 9
 ·have m0 : ((g : Int) == 9) = true := by simp [hg9]
  clear hg9
  go_wp2_with fail
  refine (pfail_any p s a x g false w2 hb2).mono ?_
  rintro e wf ⟨rfl, hbf, kd⟩
  have hrf := hr2.keep kd (fun h => HNE.out h.symm)
  have hkf := Keep.trans hk2.ob kd (fun _ _ h => h)
  clear kd
  go_wp2_with (refine wpList_store_row rfl 27 (.tmp 4) (.tmp _) rfl w.heap.size _ rfl rfl 27 _ hrf size27 rfl (by simp [Nd.row, Value.oneCell']) ?_)
  exact bodyPost_ret (results_cell_row Try.results107 _ _ w.heap.size 27 _ (0, 0) _ rfl (hrf.setRow (Nd.row nd0 (.slice none 0 0))) Try.underlying27 rfl size27) rfl (ReadR.fail (hbf.setRowOther HNE.out _) (Keep.setRow hkf (Or.inl (Nat.le_refl _)) _) ⟨Nat.le_refl _, Nat.le_of_lt HA.out, HG.out⟩)
 have m0 : ((g : Int) == 9) = false := beq_eq_false_iff_ne.2 (by omega)
 have HG9 : Hid (g + 1 ≤ 9) := Lib.hid (by have := HG.out; omega)
 have WG : IntKind.i64.wrap ((g : Int) + 1) = (g : Int) + 1 := wr_small (by omega) (by have := HG.out; omega)
 clear hg9
 have f3 := hb2.frozen 3
 have hb3 : PdAt (w2.setCell ⟨p, 3, none⟩ (.int .i64 ((g : Int) + 1))) p s a x (g + 1) false := hb2.set 3 (.int .i64 ((g : Int) + 1))
 have hr3 := hr2.setOther (p := ⟨p, 3, none⟩) HNE.out (.int .i64 ((g : Int) + 1))
 have hk3 := Keep.trans hk2.ob (Keep.setOb w2 p 3 (.int .i64 ((g : Int) + 1))) (fun _ _ h => h)
 have s3 : (w2.setCell ⟨p, 3, none⟩ (.int .i64 ((g : Int) + 1))).heap.size = w2.heap.size := by simp [World.setCell]
 have HB3 := Lib.hid hb3
 have HR3 := Lib.hid hr3
 have HK3 := Lib.hid hk3
 clear hb3 hr3 hk3
 go_upto_region 6 with fail
 generalize w2.setCell ⟨p, 3, none⟩ (.int .i64 ((g : Int) + 1)) = w3 at HB3 HR3 HK3 s3 ⊢
 have S3 := Lib.hid s3
 clear hb2 hr2 hk2 c3 f3 WG m0
 have hb3 := HB3.out
 have hl3 := hb3.lt
 have c3 := hb3.cell 3 (u := .int .i64 ((g : Int) + 1)) rfl
 have hn : w.heap.size ≠ w3.heap.size := by omega
 have hp : p ≠ w3.heap.size := by omega
 have HN := Lib.hid hn
 have HP := Lib.hid hp
 clear s3
 have hb4 : PdAt (w3.alloc (.cells (Nd.row (.mk ⟨6, 0, 0, 0, 0, 0, (g : Int) + 1, 0, 0⟩ []) (.slice none 0 0)) 27)) p s a x (g + 1) false := hb3.alloc _
 have hr4 : Blk (w3.alloc (.cells (Nd.row (.mk ⟨6, 0, 0, 0, 0, 0, (g : Int) + 1, 0, 0⟩ []) (.slice none 0 0)) 27)) w.heap.size zeroNode 27 := HR3.out.alloc _
 have hq4 : Blk (w3.alloc (.cells (Nd.row (.mk ⟨6, 0, 0, 0, 0, 0, (g : Int) + 1, 0, 0⟩ []) (.slice none 0 0)) 27)) w3.heap.size (Nd.row (.mk ⟨6, 0, 0, 0, 0, 0, (g : Int) + 1, 0, 0⟩ []) (.slice none 0 0)) 27 := Blk.new w3 _ _
 have hk4 : Keep (Ob p) w (w3.alloc (.cells (Nd.row (.mk ⟨6, 0, 0, 0, 0, 0, (g : Int) + 1, 0, 0⟩ []) (.slice none 0 0)) 27)) := Keep.alloc HK3.out _
 have s4 : (w3.alloc (.cells (Nd.row (.mk ⟨6, 0, 0, 0, 0, 0, (g : Int) + 1, 0, 0⟩ []) (.slice none 0 0)) 27)).heap.size = w3.heap.size + 1 := by simp
 have HB4 := Lib.hid hb4
 have HR4 := Lib.hid hr4
 have HQ4 := Lib.hid hq4
 have HK4 := Lib.hid hk4
 clear hb4 hr4 hq4 hk4 hn hp HB3 HR3 HK3
 go_upto_region 7 with fail
 try simp only [Act.put, tk]
 have hx : w3.alloc (.cells #[.int .i64 6, .int .u8 0, .int .u64 0, .int .u64 0, .int .u64 0, .int .u64 0, .int .i64 ((g : Int) + 1), .int .i64 0, .int .i64 0, .slice none 0 0] 27) = (w3.alloc (.cells (Nd.row (.mk ⟨6, 0, 0, 0, 0, 0, (g : Int) + 1, 0, 0⟩ []) (.slice none 0 0)) 27)) := rfl
 rw [hx]
 clear hx
 generalize (w3.alloc (.cells (Nd.row (.mk ⟨6, 0, 0, 0, 0, 0, (g : Int) + 1, 0, 0⟩ []) (.slice none 0 0)) 27)) = w4 at HB4 HR4 HQ4 HK4 s4 ⊢
 have hb4 := HB4.out
 clear hb3 c3 hl3
 have hl4 := hb4.lt
 have c1 := hb4.cell 1 (u := .int .i64 (a : Int)) rfl
 have VO : IntKind.i64.wrap ((a : Int) + ((openT x).size : Int)) = (a : Int) + ((openT x).size : Int) := wr_small (by have := HS.out; have := HO.out; omega) (by have := HS.out; have := HO.out; omega)
 generalize hqq : w3.heap.size = q6 at HN HP HQ4 s4 S3 ⊢
 have S4 := Lib.hid s4
 have hp6 : p < q6 + 1 := by omega
 have HZ6 : Hid (w.heap.size ≤ q6) := Lib.hid (by have := S3.out; omega)
 clear hqq s4
 go_wp2_with fail
 (refine wp_region_f [11] (InX Nb _) (by kernel_rfl) (InX.mk (Keep.drew (Keep.refl _ _))) (fun hI => ?_))
 have xx : ∀ k, ¬ Nb k := fun _ h => h
 have hD : Keep Nb w4 w4.drew := (Keep.refl _ _).drew
 have hb5 := hb4.drew
 have hr5 := HR4.out.drew
 have hq5 := HQ4.out.drew
 have hk5 := HK4.out.drew
 have S5 : Hid (w4.drew.heap.size = q6 + 1) := Lib.hid S4.out
 generalize w4.drew = x5 at hI hD hb5 hr5 hq5 hk5 S5 ⊢
 (refine wpI_from 0 ?_; (iterate 6 ((first | (refine wpI_take (v := ?_) rfl (by kernel_rfl) (fun _ _ _ h => h) hI rfl ?_ ?_; rotate_left; (focus (rintro _ ⟨E, rfl⟩; go_simp; (try with_reducible rfl)))) | refine wpI_skip rfl (by kernel_rfl) (fun _ _ _ h => h) hI rfl ?_); simp only [Act.put, tk, Nat.reduceAdd])); refine wpI_till ?_)
 (refine wpF_one 6 rfl (by kernel_rfl) rfl (fun K hK => ?_))
 go_simp
 refine (popen_x p s a x (g + 1) false x5 hb5).mono ?_
 rintro e y1 ⟨he, hy⟩
 subst he; subst hy
 (refine hK _ _ (fun _ => InX.mk hD) (fun hI => ?_); have hI := hI (by simp); clear hK K; try simp only [Act.put, tk])
 (refine wpI_from 7 ?_; (iterate 2 ((first | (refine wpI_take (v := ?_) rfl (by kernel_rfl) (fun _ _ _ h => h) hI rfl ?_ ?_; rotate_left; (focus (rintro _ ⟨E, rfl⟩; go_simp; (try with_reducible rfl)))) | refine wpI_skip rfl (by kernel_rfl) (fun _ _ _ h => h) hI rfl ?_); simp only [Act.put, tk, Nat.reduceAdd])); refine wpI_till ?_)
 try simp only [VO]
 (refine wpF_one 9 rfl (by kernel_rfl) rfl (fun K hK => ?_))
 go_simp
 (refine hK _ _ (fun _ => InX.mk hD) (fun hI => ?_); have hI := hI (by simp); clear hK K; try simp only [Act.put, tk])
 (refine wpF_take2 (v := ?_) 10 rfl (by kernel_rfl) (fun _ _ _ h => h) hI rfl ?_ ?_; rotate_left; (focus (rintro _ ⟨E, rfl⟩; go_simp; (try with_reducible rfl))); simp only [Act.put, tk])
 have f1 := hb5.frozen 1
 have e1 := hb5.cell 1 (u := .int .i64 (a : Int)) rfl
 have hb6 : PdAt (y1.setCell ⟨p, 1, none⟩ (.int .i64 ((a : Int) + ((openT x).size : Int)))) p s (a + (openT x).size) x (g + 1) false := hb5.set 1 (.int .i64 ((a : Int) + ((openT x).size : Int)))
 have hr6 := hr5.setOther (p := ⟨p, 1, none⟩) HNE.out (.int .i64 ((a : Int) + ((openT x).size : Int)))
 have hq6 := hq5.setOther (p := ⟨p, 1, none⟩) HP.out (.int .i64 ((a : Int) + ((openT x).size : Int)))
 have hk6 := Keep.trans hk5 (Keep.setOb y1 p 1 (.int .i64 ((a : Int) + ((openT x).size : Int)))) (fun _ _ h => h)
 have S6 : Hid ((y1.setCell ⟨p, 1, none⟩ (.int .i64 ((a : Int) + ((openT x).size : Int)))).heap.size = q6 + 1) := Lib.hid (by simpa [World.setCell] using S5.out)
 have HB6 := Lib.hid hb6
 have HR6 := Lib.hid hr6
 have HQ6 := Lib.hid hq6
 have HK6 := Lib.hid hk6
 clear hb6 hr6 hq6 hk6
 (refine wpF_one 11 rfl (by kernel_rfl) rfl (fun K hK => ?_))
 go_simp
 (refine hK _ _ (fun h => absurd (by simp) h) (fun _ => ?_); clear hK K; try simp only [Act.put, tk])
 (refine wpF_done (by kernel_rfl) ?_ _)
 generalize y1.setCell ⟨p, 1, none⟩ (.int .i64 ((a : Int) + ((openT x).size : Int))) = w6 at HB6 HR6 HQ6 HK6 S6 ⊢
 clear hb4 hl4 c1 hb5 hr5 hq5 hk5 f1 e1 hI hD xx VO HB4 HR4 HQ4 HK4 hl2 hp6
 have ho1 := (openT_size x).1
 have HO1 : Hid (1 ≤ (openT x).size) := Lib.hid ho1
 clear ho1
 go_wp2_with fail
 refine (HWH.out (a + (openT x).size) (g + 1) w6 HB6.out HO.out HG9.out (by have := HMM.out; have := HO1.out; omega)).mono ?_
 rintro e w7 ⟨T1, S1, a2, g2, b2, rfl, hL7, hb7, kd, hh, hcnt⟩
 obtain ⟨A1, c1', rfl, z1, z2, z3⟩ := LiesP_def.1 hL7
 have HL7 := Lib.hid hL7
 have HH := Lib.hid hh
 have HC := Lib.hid hcnt
 have hr7 := HR6.out.keep kd (fun h => HNE.out h.symm)
 have hq7 := HQ6.out.keep kd (fun h => HP.out h.symm)
 have hk7 := Keep.trans HK6.out kd (fun _ _ h => h)
 have S7 : Hid (q6 + 1 ≤ w7.heap.size) := Lib.hid (by have := kd.size; have := S6.out; omega)
 have hn1 : w.heap.size ≠ w7.heap.size := by have := S7.out; have := hq7.lt; have := hr7.lt; omega
 have hn2 : q6 ≠ w7.heap.size := by have := S7.out; omega
 have hn3 : p ≠ w7.heap.size := by have := hb7.lt; omega
 have HB8 : Hid (PdAt ((w7.alloc (.cells zeroNode 27)).setRow w7.heap.size (Nd.row T1 (.slice A1 T1.l.length c1'))) p s a2 x g2 b2) := Lib.hid ((hb7.alloc _).setRowOther hn3 _)
 have HR8 : Hid (Blk ((w7.alloc (.cells zeroNode 27)).setRow w7.heap.size (Nd.row T1 (.slice A1 T1.l.length c1'))) w.heap.size zeroNode 27) := Lib.hid ((hr7.alloc _).setRowOther hn1 _)
 have HQ8 : Hid (Blk ((w7.alloc (.cells zeroNode 27)).setRow w7.heap.size (Nd.row T1 (.slice A1 T1.l.length c1'))) q6 (Nd.row (.mk ⟨6, 0, 0, 0, 0, 0, (g : Int) + 1, 0, 0⟩ []) (.slice none 0 0)) 27) := Lib.hid ((hq7.alloc _).setRowOther hn2 _)
 have HT8 : Hid (Blk ((w7.alloc (.cells zeroNode 27)).setRow w7.heap.size (Nd.row T1 (.slice A1 T1.l.length c1'))) w7.heap.size (Nd.row T1 (.slice A1 T1.l.length c1')) 27) := Lib.hid ((Blk.new w7 _ _).setRow _)
 have HK8 : Hid (Keep (Ob p) w ((w7.alloc (.cells zeroNode 27)).setRow w7.heap.size (Nd.row T1 (.slice A1 T1.l.length c1')))) := Lib.hid (Keep.setRow (Keep.alloc hk7 _) (Or.inl (by have := hk7.size; omega)) _)
 have HL8 : Hid (LiesP (fun q => q6 < q ∧ q ≠ w7.heap.size) ((w7.alloc (.cells zeroNode 27)).setRow w7.heap.size (Nd.row T1 (.slice A1 T1.l.length c1'))) T1 (.slice A1 T1.l.length c1')) := Lib.hid (LiesP_keep (Keep.setRow (X := Ob w7.heap.size) (Keep.alloc (Keep.refl _ _) _) (Or.inr rfl) _) (fun q hq e => hq.2 e) (LiesP_mono (fun q _ _ hq hc => ⟨by have := S6.out; omega, by have := cell_lt hc; omega⟩) _ _ HL7.out))
 have S8 : Hid (((w7.alloc (.cells zeroNode 27)).setRow w7.heap.size (Nd.row T1 (.slice A1 T1.l.length c1'))).heap.size = w7.heap.size + 1) := Lib.hid (by simp [World.setRow])
 clear hL7 hh hcnt z1 z2 z3 kd hr7 hq7 hk7 hb7 HB6 HR6 HQ6 HK6 HL7 S6
 go_upto_region 9 with (refine wpList_store_row rfl 27 (.tmp 7) (.tmp _) rfl w7.heap.size _ rfl rfl 27 _ (Blk.new w7 #[.int .i64 0, .int .u8 0, .int .u64 0, .int .u64 0, .int .u64 0, .int .u64 0, .int .i64 0, .int .i64 0, .int .i64 0, .slice none 0 0] 27) size27 rfl (by simp [Nd.row, Value.oneCell']) ?_)
 try simp only [Act.put, tk]
 have hx : ∀ T : Nd, (w7.alloc (.cells #[.int .i64 0, .int .u8 0, .int .u64 0, .int .u64 0, .int .u64 0, .int .u64 0, .int .i64 0, .int .i64 0, .int .i64 0, .slice none 0 0] 27)).setRow w7.heap.size (Nd.row T (.slice A1 T.l.length c1')) = (w7.alloc (.cells zeroNode 27)).setRow w7.heap.size (Nd.row T (.slice A1 T.l.length c1')) := fun _ => rfl
 try rw [hx]
 clear hx
 generalize ((w7.alloc (.cells zeroNode 27)).setRow w7.heap.size (Nd.row T1 (.slice A1 T1.l.length c1'))) = w8 at HB8 HR8 HQ8 HT8 HK8 HL8 S8 ⊢
 have HN7 : Hid (w.heap.size ≠ w7.heap.size ∧ q6 ≠ w7.heap.size ∧ p ≠ w7.heap.size) := Lib.hid ⟨hn1, hn2, hn3⟩
 clear hn1 hn2 hn3
 generalize w7.heap.size = q7 at HN7 HT8 HL8 S7 S8 ⊢
 have hb8 := HB8.out
 have hl8 := hb8.lt
 have c4 := hb8.cell 4 (u := .bool b2) rfl
 cases b2 with
 | true =>
  have hr8 := HR8.out
  go_wp2_with (refine wpList_store_row rfl 27 (.tmp 4) (.tmp _) rfl w.heap.size _ rfl rfl 27 _ hr8 size27 rfl (by simp [Nd.row, Value.oneCell']) ?_)
  exact bodyPost_ret (results_cell_row Try.results107 _ _ w.heap.size 27 _ (0, 0) _ rfl (hr8.setRow (Nd.row nd0 (.slice none 0 0))) Try.underlying27 rfl size27) rfl (ReadR.fail (hb8.setRowOther HNE.out _) (Keep.setRow HK8.out (Or.inl (Nat.le_refl _)) _) ⟨by have := HH.out; omega, HH.out.2.1, HH.out.2.2⟩)
 | false =>
 go_wp2_with fail
 refine (pshut_x p s a2 x g2 false w8 hb8).mono ?_
 rintro e y2 ⟨rfl, rfl⟩
 go_wp2_with fail
 refine (phas_any p s a2 x g2 false (shutT x) y2 hb8 HH.out.2.1 HS.out (by have := shutT_size x; omega)).mono ?_
 rintro e w9 ⟨r, rfl, h1, kd⟩
 have hb9 := hb8.keep kd nn
 have hr9 := HR8.out.keep kd (fun h => h)
 have hq9 := HQ8.out.keep kd (fun h => h)
 have ht9 := HT8.out.keep kd (fun h => h)
 have hk9 := Keep.trans HK8.out kd (fun _ _ h => h.elim)
 have HL9 : Hid (LiesP (fun q => q6 < q ∧ q ≠ q7) w9 T1 (.slice A1 T1.l.length c1')) := Lib.hid (Lies_keep kd HL8.out)
 have hl9 := hb9.lt
 have H1 := Lib.hid h1
 clear h1 kd c4 hb8 hl8 HB8 HR8 HQ8 HT8 HK8 HL8 S8
 cases r with
 | false =>
  clear hq9 ht9 H1
  go_wp2_with fail
  refine (pfail_any p s a2 x g2 false w9 hb9).mono ?_
  rintro e wf ⟨rfl, hbf, kd⟩
  have hrf := hr9.keep kd (fun h => HNE.out h.symm)
  have hkf := Keep.trans hk9 kd (fun _ _ h => h)
  clear kd
  go_wp2_with (refine wpList_store_row rfl 27 (.tmp 4) (.tmp _) rfl w.heap.size _ rfl rfl 27 _ hrf size27 rfl (by simp [Nd.row, Value.oneCell']) ?_)
  exact bodyPost_ret (results_cell_row Try.results107 _ _ w.heap.size 27 _ (0, 0) _ rfl (hrf.setRow (Nd.row nd0 (.slice none 0 0))) Try.underlying27 rfl size27) rfl (ReadR.fail (hbf.setRowOther HNE.out _) (Keep.setRow hkf (Or.inl (Nat.le_refl _)) _) ⟨by have := HH.out; omega, HH.out.2.1, HH.out.2.2⟩)
 | true =>
 have HO2 : Hid (a2 + (shutT x).size ≤ s.size) := Lib.hid (H1.out rfl).1
 have HO3 : Hid (1 ≤ (shutT x).size) := Lib.hid (shutT_size x).1
 clear H1
 have c1 := hb9.cell 1 (u := .int .i64 (a2 : Int)) rfl
 have VO : IntKind.i64.wrap ((a2 : Int) + ((shutT x).size : Int)) = (a2 : Int) + ((shutT x).size : Int) := wr_small (by have := HS.out; have := HO2.out; omega) (by have := HS.out; have := HO2.out; omega)
 go_wp2_with fail
 (refine wp_region_f [11] (InX Nb _) (by kernel_rfl) (InX.mk (Keep.drew (Keep.refl _ _))) (fun hI => ?_))
 have xx : ∀ k, ¬ Nb k := fun _ h => h
 have hD : Keep Nb w9 w9.drew := (Keep.refl _ _).drew
 have hb10 := hb9.drew
 have hr10 := hr9.drew
 have hq10 := hq9.drew
 have ht10 := ht9.drew
 have hk10 := hk9.drew
 have HL10 : Hid (LiesP (fun q => q6 < q ∧ q ≠ q7) w9.drew T1 (.slice A1 T1.l.length c1')) := Lib.hid (Lies_keep hD HL9.out)
 generalize w9.drew = x10 at hI hD hb10 hr10 hq10 ht10 hk10 HL10 ⊢
 (refine wpI_from 0 ?_; (iterate 6 ((first | (refine wpI_take (v := ?_) rfl (by kernel_rfl) (fun _ _ _ h => h) hI rfl ?_ ?_; rotate_left; (focus (rintro _ ⟨E, rfl⟩; go_simp; (try with_reducible rfl)))) | refine wpI_skip rfl (by kernel_rfl) (fun _ _ _ h => h) hI rfl ?_); simp only [Act.put, tk, Nat.reduceAdd])); refine wpI_till ?_)
 (refine wpF_one 6 rfl (by kernel_rfl) rfl (fun K hK => ?_))
 go_simp
 refine (pshut_x p s a2 x g2 false x10 hb10).mono ?_
 rintro e y3 ⟨he, hy⟩
 subst he; subst hy
 (refine hK _ _ (fun _ => InX.mk hD) (fun hI => ?_); have hI := hI (by simp); clear hK K; try simp only [Act.put, tk])
 (refine wpI_from 7 ?_; (iterate 2 ((first | (refine wpI_take (v := ?_) rfl (by kernel_rfl) (fun _ _ _ h => h) hI rfl ?_ ?_; rotate_left; (focus (rintro _ ⟨E, rfl⟩; go_simp; (try with_reducible rfl)))) | refine wpI_skip rfl (by kernel_rfl) (fun _ _ _ h => h) hI rfl ?_); simp only [Act.put, tk, Nat.reduceAdd])); refine wpI_till ?_)
 try simp only [VO]
 (refine wpF_one 9 rfl (by kernel_rfl) rfl (fun K hK => ?_))
 go_simp
 (refine hK _ _ (fun _ => InX.mk hD) (fun hI => ?_); have hI := hI (by simp); clear hK K; try simp only [Act.put, tk])
 (refine wpF_take2 (v := ?_) 10 rfl (by kernel_rfl) (fun _ _ _ h => h) hI rfl ?_ ?_; rotate_left; (focus (rintro _ ⟨E, rfl⟩; go_simp; (try with_reducible rfl))); simp only [Act.put, tk])
 have f1 := hb10.frozen 1
 have e1 := hb10.cell 1 (u := .int .i64 (a2 : Int)) rfl
 have kS := Keep.setOb y3 p 1 (.int .i64 ((a2 : Int) + ((shutT x).size : Int)))
 have HB11 : Hid (PdAt (y3.setCell ⟨p, 1, none⟩ (.int .i64 ((a2 : Int) + ((shutT x).size : Int)))) p s (a2 + (shutT x).size) x g2 false) := Lib.hid (hb10.set 1 (.int .i64 ((a2 : Int) + ((shutT x).size : Int))))
 have HR11 := Lib.hid (hr10.setOther (p := ⟨p, 1, none⟩) HNE.out (.int .i64 ((a2 : Int) + ((shutT x).size : Int))))
 have HQ11 := Lib.hid (hq10.setOther (p := ⟨p, 1, none⟩) HP.out (.int .i64 ((a2 : Int) + ((shutT x).size : Int))))
 have HT11 := Lib.hid (ht10.setOther (p := ⟨p, 1, none⟩) HN7.out.2.2 (.int .i64 ((a2 : Int) + ((shutT x).size : Int))))
 have HK11 := Lib.hid (Keep.trans hk10 kS (fun _ _ h => h))
 have HL11 : Hid (LiesP (fun q => q6 < q ∧ q ≠ q7) (y3.setCell ⟨p, 1, none⟩ (.int .i64 ((a2 : Int) + ((shutT x).size : Int)))) T1 (.slice A1 T1.l.length c1')) := Lib.hid (lies_onP hb10 HL10.out kS)
 clear kS
 (refine wpF_one 11 rfl (by kernel_rfl) rfl (fun K hK => ?_))
 go_simp
 (refine hK _ _ (fun h => absurd (by simp) h) (fun _ => ?_); clear hK K; try simp only [Act.put, tk])
 (refine wpF_done (by kernel_rfl) ?_ _)
 generalize y3.setCell ⟨p, 1, none⟩ (.int .i64 ((a2 : Int) + ((shutT x).size : Int))) = w11 at HB11 HR11 HQ11 HT11 HK11 HL11 ⊢
 clear hb9 hr9 hq9 ht9 hk9 hl9 c1 VO hI xx hD hb10 hr10 hq10 ht10 hk10 f1 e1 HL9 HL10
 have ht11 := HT11.out
 have hq11 := HQ11.out
 have lt11 := ht11.lt
 have lq11 := hq11.lt
 have cq9 := hq11.cell 9 (u := .slice none 0 0) rfl
 have fq9 := hq11.frozen 9
 have hne6 : w.heap.size ≠ q6 := HN.out
 have HBB : Hid (PdAt ((w11.setCell ⟨q6, 9, none⟩ (.slice (some ⟨w11.heap.size, 0, none⟩) 1 1)).alloc (.cells (Nd.row T1 (.slice A1 T1.l.length c1')) 27)) p s (a2 + (shutT x).size) x g2 false) := Lib.hid ((HB11.out.setOther (p := ⟨q6, 9, none⟩) (fun e => HP.out e.symm) _).alloc _)
 have HRB : Hid (Blk ((w11.setCell ⟨q6, 9, none⟩ (.slice (some ⟨w11.heap.size, 0, none⟩) 1 1)).alloc (.cells (Nd.row T1 (.slice A1 T1.l.length c1')) 27)) w.heap.size zeroNode 27) := Lib.hid ((HR11.out.setOther (p := ⟨q6, 9, none⟩) (fun e => HN.out e.symm) _).alloc _)
 have HQB : Hid (Blk ((w11.setCell ⟨q6, 9, none⟩ (.slice (some ⟨w11.heap.size, 0, none⟩) 1 1)).alloc (.cells (Nd.row T1 (.slice A1 T1.l.length c1')) 27)) q6 (Nd.row (.mk ⟨6, 0, 0, 0, 0, 0, (g : Int) + 1, 0, 0⟩ [T1]) (.slice (some ⟨w11.heap.size, 0, none⟩) 1 1)) 27) := Lib.hid ((hq11.set 9 (.slice (some ⟨w11.heap.size, 0, none⟩) 1 1)).alloc _)
 have HNB : Hid (Blk ((w11.setCell ⟨q6, 9, none⟩ (.slice (some ⟨w11.heap.size, 0, none⟩) 1 1)).alloc (.cells (Nd.row T1 (.slice A1 T1.l.length c1')) 27)) w11.heap.size (Nd.row T1 (.slice A1 T1.l.length c1')) 27) := Lib.hid (Blk.new' (by simp [World.setCell]) _ _)
 have HKB : Hid (Keep (Ob p) w ((w11.setCell ⟨q6, 9, none⟩ (.slice (some ⟨w11.heap.size, 0, none⟩) 1 1)).alloc (.cells (Nd.row T1 (.slice A1 T1.l.length c1')) 27))) := Lib.hid (Keep.alloc (Keep.setCell (p := ⟨q6, 9, none⟩) HK11.out (Or.inl HZ6.out) _) _)
 have HLB : Hid (LiesP (fun q => q6 < q) ((w11.setCell ⟨q6, 9, none⟩ (.slice (some ⟨w11.heap.size, 0, none⟩) 1 1)).alloc (.cells (Nd.row T1 (.slice A1 T1.l.length c1')) 27)) T1 (.slice A1 T1.l.length c1')) := Lib.hid (LiesP_mono (fun _ _ _ hq _ => hq.1) _ _ (LiesP_keep (Keep.alloc (Keep.setCell (X := Ob q6) (p := ⟨q6, 9, none⟩) (Keep.refl _ _) (Or.inr rfl) _) _) (fun q hq e => by have := hq.1; simp only [Ob] at e; omega) HL11.out))
 have HWN : Hid (q6 < w11.heap.size) := Lib.hid lq11
 clear hne6
 go_upto_region 15 with ((refine wpList_load_row rfl 27 (.tmp 7) rfl q7 rfl 27 _ (0, 0) _ ht11 Try.underlying27 rfl size27 ?_); simp only [Nd.row])
 have hx : (w11.setCell ⟨q6, 9, none⟩ (.slice (some ⟨w11.heap.size, 0, none⟩) 1 1)).alloc (.cells #[.int .i64 T1.h.k, .int .u8 T1.h.c, .int .u64 T1.h.s0, .int .u64 T1.h.s1, .int .u64 T1.h.s2, .int .u64 T1.h.s3, .int .i64 T1.h.n, .int .i64 T1.h.mn, .int .i64 T1.h.mx, .slice A1 T1.l.length c1'] 27) = ((w11.setCell ⟨q6, 9, none⟩ (.slice (some ⟨w11.heap.size, 0, none⟩) 1 1)).alloc (.cells (Nd.row T1 (.slice A1 T1.l.length c1')) 27)) := rfl
 rw [hx]; clear hx
 generalize ((w11.setCell ⟨q6, 9, none⟩ (.slice (some ⟨w11.heap.size, 0, none⟩) 1 1)).alloc (.cells (Nd.row T1 (.slice A1 T1.l.length c1')) 27)) = w12 at HBB HRB HQB HNB HKB HLB ⊢
 generalize w11.heap.size = q11 at HQB HNB HWN ⊢
 clear ht11 hq11 lt11 lq11 cq9 fq9
 have hqb := HQB.out
 have hrb := HRB.out
 go_wp2_with (first
  | (refine wpList_load_row rfl 27 (.tmp 6) rfl q6 rfl 27 _ (0, 0) _ hqb Try.underlying27 rfl size27 ?_)
  | (refine wpList_store_row rfl 27 (.tmp 4) (.tmp _) rfl w.heap.size _ rfl rfl 27 _ hrb size27 rfl (by simp [Nd.row, Value.oneCell']) ?_))
 have hkZ : Keep (Ob w.heap.size) w12 (w12.setRow w.heap.size (Nd.row (.mk ⟨6, 0, 0, 0, 0, 0, (g : Int) + 1, 0, 0⟩ [T1]) (.slice (some ⟨q11, 0, none⟩) 1 1))) := Keep.setRow (X := Ob w.heap.size) (Keep.refl _ _) (Or.inr rfl) _
 have hq1 : w.heap.size < q11 := by have := HZ6.out; have := HWN.out; omega
 have hnZ := HNB.out.setRowOther (by omega : q11 ≠ w.heap.size) (Nd.row (.mk ⟨6, 0, 0, 0, 0, 0, (g : Int) + 1, 0, 0⟩ [T1]) (.slice (some ⟨q11, 0, none⟩) 1 1))
 have hlZ : LiesP (fun q => w.heap.size ≤ q) (w12.setRow w.heap.size (Nd.row (.mk ⟨6, 0, 0, 0, 0, 0, (g : Int) + 1, 0, 0⟩ [T1]) (.slice (some ⟨q11, 0, none⟩) 1 1))) T1 (.slice A1 T1.l.length c1') := LiesP_mono (fun _ _ _ hq _ => by have := HZ6.out; omega) _ _ (LiesP_keep hkZ (fun q hq e => by have := HZ6.out; simp only [Ob] at e; omega) HLB.out)
 exact bodyPost_ret (results_cell_row Try.results107 _ _ w.heap.size 27 _ (0, 0) _ rfl (hrb.setRow (Nd.row (.mk ⟨6, 0, 0, 0, 0, 0, (g : Int) + 1, 0, 0⟩ [T1]) (.slice (some ⟨q11, 0, none⟩) 1 1))) Try.underlying27 rfl size27) rfl
  ⟨.mk ⟨6, 0, 0, 0, 0, 0, (g : Int) + 1, 0, 0⟩ [T1], .slice (some ⟨q11, 0, none⟩) 1 1, a2 + (shutT x).size, g2, false, rfl, LiesP_def.2 ⟨_, 1, rfl, by simp [Nd.l], by unfold maxLen; omega, one_lies hnZ (Nat.le_of_lt hq1) hlZ⟩, HBB.out.setRowOther HNE.out _, Keep.setRow HKB.out (Or.inl (Nat.le_refl _)) _,
   ⟨by have := HH.out; omega, HO2.out, HH.out.2.2⟩, fun _ => by have := HH.out; have := HO1.out; omega, by have h1 := HC.out; have h2 := HH.out; have h3 := HO1.out; have h4 := HO3.out; simp only [count, countL] at h1 ⊢; simp at h1 ⊢; omega⟩
set_option maxRecDepth 100000 in
set_option maxHeartbeats 16000000 in
theorem patom_b (p : Nat) (s : ByteArray) (x : Bool) (m : Nat) (HW : WholeSays p s x m) (HM : MemberSays s) (a g : Nat) (β : Bool) (w : World) (hb : PdAt w p s a x g false) (ha : a < s.size) (hs : s.size ≤ 600) (hg : g ≤ 9) (hm : s.size - a ≤ m + 1) (d : UInt8) (b0 : a < s.size) (e0 : s[a] = d) (hX : hasX s a false (openT x) = false) (hd : d.toNat = 10 ∨ d.toNat = 92 ∨ d.toNat = 91 ∨ d.toNat = 46) :
  Calls Try.prog 107 #[.pointer (some ⟨p, 0, none⟩), .bool β] w fun e w' => ReadR p s x a 0 w w' e := by
 have HS := Lib.hid hs
 have HA := Lib.hid ha
 have HG := Lib.hid hg
 have HMM := Lib.hid hm
 have HWH := Lib.hid HW
 have HMH := Lib.hid HM
 have hl := hb.lt
 have i0 : (0 : Int) ≤ (a : Int) := by omega
 have i1 : (a : Int) < (s.size : Int) := by omega
 have HX := Lib.hid hX
 have HDD := Lib.hid hd
 clear hX hd
 clear HW HM hs ha hg hm
 go_enter Try.func107, Try.ntmps107
 go_upto_region 1 with fail
 have hb1 : PdAt (w.alloc (.cells zeroNode 27)) p s a x g false := hb.alloc _
 have hr1 : Blk (w.alloc (.cells zeroNode 27)) w.heap.size zeroNode 27 := Blk.new w _ _
 have hk1 : Keep Nb w (w.alloc (.cells zeroNode 27)) := Keep.alloc (Keep.refl _ _) _
 have hsz : (w.alloc (.cells zeroNode 27)).heap.size = w.heap.size + 1 := by simp
 have hx : w.alloc (.cells #[.int .i64 0, .int .u8 0, .int .u64 0, .int .u64 0, .int .u64 0, .int .u64 0, .int .i64 0, .int .i64 0, .int .i64 0, .slice none 0 0] 27) = w.alloc (.cells zeroNode 27) := rfl
 rw [hx]; clear hx
 generalize w.alloc (.cells zeroNode 27) = w1 at hb1 hr1 hk1 hsz ⊢
 have c0 := hb1.cell 0 (u := .string s) rfl
 have c1 := hb1.cell 1 (u := .int .i64 (a : Int)) rfl
 have hl1 := hb1.lt
 have hne : p ≠ w.heap.size := by omega
 have HNE := Lib.hid hne
 have nn : ¬ Nb p := fun h => h
 go_wp2_with fail
 (refine wp_region_f [9] (InX Nb _) (by kernel_rfl) (InX.mk (Keep.drew (Keep.refl _ _))) (fun hI => ?_))
 have xx : ∀ k, ¬ Nb k := fun _ h => h
 replace hb1 := hb1.drew
 replace hr1 := hr1.drew
 replace hk1 := hk1.drew
 have s1 : w1.drew.heap.size = w.heap.size + 1 := hsz
 generalize w1.drew = x0 at hI hb1 hr1 hk1 s1 ⊢
 (refine wpI_from 0 ?_; (iterate 9 ((first | (refine wpI_take (v := ?_) rfl (by kernel_rfl) (fun _ _ _ h => h) hI rfl ?_ ?_; rotate_left; (focus (rintro _ ⟨E, rfl⟩; go_simp; (try with_reducible rfl)))) | refine wpI_skip rfl (by kernel_rfl) (fun _ _ _ h => h) hI rfl ?_); simp only [Act.put, tk, Nat.reduceAdd])); refine wpI_till ?_)
 (refine wpF_one 9 rfl (by kernel_rfl) rfl (fun K hK => ?_))
 go_simp
 (refine hK _ _ (fun h => absurd (by simp) h) (fun _ => ?_); clear hK K; try simp only [Act.put, tk])
 (refine wpF_done (by kernel_rfl) ?_ _)
 clear hI xx c0 c1 hl1 hsz i0 i1 b0 e0 hb
 have hl1 := hb1.lt
 go_wp2_with fail
 refine (popen_x p s a x g false x0 hb1).mono ?_
 rintro e y0 ⟨rfl, rfl⟩
 go_wp2_with fail
 refine (phas_x p s a x g false (openT x) y0 hb1 (Nat.le_of_lt HA.out) HS.out (by have := openT_size x; omega)).mono ?_
 rintro e w2 ⟨rfl, kd⟩
 have hb2 := hb1.keep kd nn
 have hr2 := hr1.keep kd (fun h => h)
 have hk2 := Keep.trans hk1 kd (fun _ _ h => h)
 have s2 : w.heap.size + 1 ≤ w2.heap.size := by have := kd.size; omega
 have hl2 := hb2.lt
 clear kd hb1 hr1 hk1 hl1 s1 hne
 simp only [HX.out]
 by_cases h10 : d.toNat = 10
 ·have n10 : ((d.toNat : Int) == 10) = true := by simp [h10]
  clear h10
  go_wp2_with fail
  refine (pfail_any p s a x g false w2 hb2).mono ?_
  rintro e wf ⟨rfl, hbf, kd⟩
  have hrf := hr2.keep kd (fun h => HNE.out h.symm)
  have hkf := Keep.trans hk2.ob kd (fun _ _ h => h)
  clear kd
  go_wp2_with (refine wpList_store_row rfl 27 (.tmp 4) (.tmp _) rfl w.heap.size _ rfl rfl 27 _ hrf size27 rfl (by simp [Nd.row, Value.oneCell']) ?_)
  exact bodyPost_ret (results_cell_row Try.results107 _ _ w.heap.size 27 _ (0, 0) _ rfl (hrf.setRow (Nd.row nd0 (.slice none 0 0))) Try.underlying27 rfl size27) rfl (ReadR.fail (hbf.setRowOther HNE.out _) (Keep.setRow hkf (Or.inl (Nat.le_refl _)) _) ⟨Nat.le_refl _, Nat.le_of_lt HA.out, HG.out⟩)
 have n10 : ((d.toNat : Int) == 10) = false := beq_eq_false_iff_ne.2 (by omega)
 by_cases h92 : d.toNat = 92
 ·have n92 : ((d.toNat : Int) == 92) = true := by simp [h92]
  clear h10 h92
  go_wp2_with fail
  refine (pescaped_any p s a x g w2 hb2 HA.out HS.out HG.out).mono ?_
  rintro e w3 ⟨T, S, a', g', b', rfl, hL, hb3, kd, hh, hpr, hcnt⟩
  obtain ⟨A1, c1', rfl, z1, z2, z3⟩ := LiesP_def.1 hL
  have hr3 := hr2.keep kd (fun h => HNE.out h.symm)
  have hk3 := Keep.trans hk2.ob kd (fun _ _ h => h)
  have HL := Lib.hid hL
  have HP := Lib.hid hpr
  have HC := Lib.hid hcnt
  have HH := Lib.hid hh
  clear z1 z2 z3 hL hpr hcnt hh kd
  go_wp2_with (refine wpList_store_row rfl 27 (.tmp 4) (.tmp _) rfl w.heap.size _ rfl rfl 27 _ hr3 size27 rfl (by simp [Nd.row, Value.oneCell']) ?_)
  exact bodyPost_ret (results_cell_row Try.results107 _ _ w.heap.size 27 _ (0, 0) _ rfl (hr3.setRow (Nd.row T (.slice A1 T.l.length c1'))) Try.underlying27 rfl size27) rfl
   ⟨T, _, a', g', b', rfl, LiesP_mono (fun _ _ _ hq _ => by omega) _ _ (LiesP_keep (Keep.setRow (X := Ob w.heap.size) (Keep.refl _ _) (Or.inr rfl) _) (fun q hq e => by simp only [Ob] at e; omega) HL.out), hb3.setRowOther HNE.out _, Keep.setRow hk3 (Or.inl (Nat.le_refl _)) _, HH.out, HP.out, HC.out⟩
 have n92 : ((d.toNat : Int) == 92) = false := beq_eq_false_iff_ne.2 (by omega)
 by_cases h91 : d.toNat = 91
 ·have n91 : ((d.toNat : Int) == 91) = true := by simp [h91]
  clear h10 h92 h91
  have c0 := hb2.cell 0 (u := .string s) rfl
  have c1 := hb2.cell 1 (u := .int .i64 (a : Int)) rfl
  go_upto_region 21 with fail
  go_cut [8, 9, 10] (fun y8 y9 y10 wx => ∃ (q8 : Nat) (f : Nat → Int) (q e : Int), y8 = .pointer (some ⟨q8, 0, none⟩) ∧ y9 = .int .i64 q ∧ y10 = .int .i64 e ∧ Hid (e = 0 → ∃ k : Nat, q = (k : Int) ∧ a < k ∧ k ≤ s.size) ∧ Blk wx q8 (setW f) 24 ∧ Hid (q8 ≠ w.heap.size ∧ q8 ≠ p) ∧ PdAt wx p s a x g false ∧ Blk wx w.heap.size zeroNode 27 ∧ Keep Nb w wx)
  case first =>
   go_wp2_with fail
   (refine wp_region_f [16] (InX Nb _) (by kernel_rfl) (InX.mk (Keep.drew (Keep.refl _ _))) (fun hI => ?_))
   have xx : ∀ k, ¬ Nb k := fun _ h => h
   have hD0 : Keep Nb w2 w2.drew := (Keep.refl _ _).drew
   have hb0 := hb2.drew
   have hr0 := hr2.drew
   have hk0 := hk2.drew
   generalize w2.drew = x0 at hI hD0 hb0 hr0 hk0 ⊢
   (refine wpI_from 0 ?_; (iterate 8 ((first | (refine wpI_take (v := ?_) rfl (by kernel_rfl) (fun _ _ _ h => h) hI rfl ?_ ?_; rotate_left; (focus (rintro _ ⟨E, rfl⟩; go_simp; (try with_reducible rfl)))) | refine wpI_skip rfl (by kernel_rfl) (fun _ _ _ h => h) hI rfl ?_); simp only [Act.put, tk, Nat.reduceAdd])); refine wpI_till ?_)
   refine wpF_many [8, 13] (by kernel_rfl) (by simp) ?_
   refine many_cons ?_ (many_cons ?_ many_nil)
   ·refine wpF_way 8 rfl rfl (fun K hK => ?_)
    go_simp
    refine (bracket_h s HMH.out a x0 HA.out HS.out).mono ?_
    rintro ee x1 ⟨⟨g1, q, e, he, hq⟩, kd⟩
    subst he
    have hD1 := Keep.trans hD0 kd (fun _ _ h => h)
    have hb1' := hb0.keep kd nn
    have hr1' := hr0.keep kd (fun h => h)
    have hk1' := Keep.trans hk0 kd (fun _ _ h => h)
    have HQ := Lib.hid hq
    clear hq kd hb0 hr0 hk0 hD0
    (refine hK _ _ (fun _ => InX.mk hD1) (fun hI => ?_); have hI := hI (by simp); clear hK K; try simp only [Act.put, tk])
    (refine wpI_from 9 ?_; (iterate 4 ((first | (refine wpI_take (v := ?_) rfl (by kernel_rfl) (fun _ _ _ h => h) hI rfl ?_ ?_; rotate_left; (focus (rintro _ ⟨E, rfl⟩; go_simp; (try with_reducible rfl)))) | refine wpI_skip rfl (by kernel_rfl) (fun _ _ _ h => h) hI rfl ?_); simp only [Act.put, tk, Nat.reduceAdd])); refine wpI_till ?_)
    (refine wpF_one 13 rfl (by kernel_rfl) rfl (fun K hK => ?_))
    go_simp
    have hsz : x1.heap.size = x1.heap.size := rfl
    have HQ8 : Hid (w2.heap.size ≤ x1.heap.size) := Lib.hid hD1.size
    have HQ8p : Hid (p ≠ x1.heap.size) := Lib.hid (by have := hb1'.lt; omega)
    have HQ8r : Hid (w.heap.size ≠ x1.heap.size) := Lib.hid (by have := hr1'.lt; omega)
    have HQ8w : Hid (w.heap.size ≤ x1.heap.size) := Lib.hid hk1'.size
    have hzA : Blk (x1.alloc (.cells (setW fun _ => 0) 24)) x1.heap.size (setW fun _ => 0) 24 := Blk.new _ _ _
    have hbA := hb1'.alloc (.cells (setW fun _ => 0) 24)
    have hrA := hr1'.alloc (.cells (setW fun _ => 0) 24)
    have hkA := Keep.alloc hk1' (.cells (setW fun _ => 0) 24)
    have hDA := Keep.alloc hD1 (.cells (setW fun _ => 0) 24)
    have hx : x1.alloc (.cells #[.int .u64 0, .int .u64 0, .int .u64 0, .int .u64 0] 24) = x1.alloc (.cells (setW fun _ => 0) 24) := rfl
    try rw [hx]
    clear hx hsz
    generalize x1.alloc (.cells (setW fun _ => 0) 24) = xA at hzA hbA hrA hkA hDA ⊢
    generalize x1.heap.size = q8 at HQ8 HQ8p HQ8r HQ8w hzA ⊢
    (refine hK _ _ (fun _ => InX.mk hDA) (fun hI => ?_); have hI := hI (by simp); clear hK K; try simp only [Act.put, tk])
    (refine wpF_one 14 rfl (by kernel_rfl) rfl (fun K hK => ?_))
    refine wp_store_row 24 (.tmp 8) (.tmp 107) rfl q8 _ rfl rfl 24 _ hzA sizeW rfl (by simp [setW, Value.oneCell']) ?_
    have hD9 := Keep.setRow hDA (Or.inl HQ8.out) (setW g1)
    have hz9 := hzA.setRow (setW g1)
    have hb9 := hbA.setRowOther HQ8p.out (setW g1)
    have hr9 := hrA.setRowOther HQ8r.out (setW g1)
    have hk9 := Keep.setRow hkA (Or.inl HQ8w.out) (setW g1)
    generalize xA.setRow q8 (setW g1) = x9 at hD9 hz9 hb9 hr9 hk9 ⊢
    (refine hK _ _ (fun _ => InX.mk hD9) (fun hI => ?_); have hI := hI (by simp); clear hK K; try simp only [Act.put, tk])
    (refine wpF_one 15 rfl (by kernel_rfl) rfl (fun K hK => ?_))
    go_simp
    (refine hK _ _ (fun _ => InX.mk hD9) (fun hI => ?_); have hI := hI (by simp); clear hK K; try simp only [Act.put, tk])
    (refine wpF_one 16 rfl (by kernel_rfl) rfl (fun K hK => ?_))
    go_simp
    (refine hK _ _ (fun h => absurd (by simp) h) (fun _ => ?_); clear hK K; try simp only [Act.put, tk])
    (refine wpF_done (by kernel_rfl) ?_ _)
    go_wp2_with fail
    go_meet
    exact ⟨q8, g1, q, e, rfl, rfl, rfl, HQ, hz9, Lib.hid ⟨Ne.symm HQ8r.out, Ne.symm HQ8p.out⟩, hb9, hr9, hk9⟩
   ·refine wpF_way 13 rfl rfl (fun K hK => ?_)
    go_simp
    have hsz : x0.heap.size = x0.heap.size := rfl
    have HQ8 : Hid (w2.heap.size ≤ x0.heap.size) := Lib.hid hD0.size
    have HQ8p : Hid (p ≠ x0.heap.size) := Lib.hid (by have := hb0.lt; omega)
    have HQ8r : Hid (w.heap.size ≠ x0.heap.size) := Lib.hid (by have := hr0.lt; omega)
    have HQ8w : Hid (w.heap.size ≤ x0.heap.size) := Lib.hid hk0.size
    have hzA : Blk (x0.alloc (.cells (setW fun _ => 0) 24)) x0.heap.size (setW fun _ => 0) 24 := Blk.new _ _ _
    have hbA := hb0.alloc (.cells (setW fun _ => 0) 24)
    have hrA := hr0.alloc (.cells (setW fun _ => 0) 24)
    have hkA := Keep.alloc hk0 (.cells (setW fun _ => 0) 24)
    have hDA := Keep.alloc hD0 (.cells (setW fun _ => 0) 24)
    have hx : x0.alloc (.cells #[.int .u64 0, .int .u64 0, .int .u64 0, .int .u64 0] 24) = x0.alloc (.cells (setW fun _ => 0) 24) := rfl
    try rw [hx]
    clear hx hsz
    generalize x0.alloc (.cells (setW fun _ => 0) 24) = xA at hzA hbA hrA hkA hDA ⊢
    generalize x0.heap.size = q8 at HQ8 HQ8p HQ8r HQ8w hzA ⊢
    (refine hK _ _ (fun _ => InX.mk hDA) (fun hI => ?_); have hI := hI (by simp); clear hK K; try simp only [Act.put, tk])
    (refine wpF_one 8 rfl (by kernel_rfl) rfl (fun K hK => ?_))
    go_simp
    refine (bracket_h s HMH.out a xA HA.out HS.out).mono ?_
    rintro ee x1 ⟨⟨g1, q, e, he, hq⟩, kd⟩
    subst he
    have hD1 := Keep.trans hDA kd (fun _ _ h => h)
    have hb1' := hbA.keep kd nn
    have hr1' := hrA.keep kd (fun h => h)
    have hk1' := Keep.trans hkA kd (fun _ _ h => h)
    have hz1 := hzA.keep kd (fun h => h)
    have HQ := Lib.hid hq
    clear hq kd hbA hrA hkA hDA hzA hb0 hr0 hk0 hD0
    (refine hK _ _ (fun _ => InX.mk hD1) (fun hI => ?_); have hI := hI (by simp); clear hK K; try simp only [Act.put, tk])
    (refine wpI_from 9 ?_; (iterate 4 ((first | (refine wpI_take (v := ?_) rfl (by kernel_rfl) (fun _ _ _ h => h) hI rfl ?_ ?_; rotate_left; (focus (rintro _ ⟨E, rfl⟩; go_simp; (try with_reducible rfl)))) | refine wpI_skip rfl (by kernel_rfl) (fun _ _ _ h => h) hI rfl ?_); simp only [Act.put, tk, Nat.reduceAdd])); refine wpI_till ?_)
    (refine wpF_one 14 rfl (by kernel_rfl) rfl (fun K hK => ?_))
    refine wp_store_row 24 (.tmp 8) (.tmp 107) rfl q8 _ rfl rfl 24 _ hz1 sizeW rfl (by simp [setW, Value.oneCell']) ?_
    have hD9 := Keep.setRow hD1 (Or.inl HQ8.out) (setW g1)
    have hz9 := hz1.setRow (setW g1)
    have hb9 := hb1'.setRowOther HQ8p.out (setW g1)
    have hr9 := hr1'.setRowOther HQ8r.out (setW g1)
    have hk9 := Keep.setRow hk1' (Or.inl HQ8w.out) (setW g1)
    generalize x1.setRow q8 (setW g1) = x9 at hD9 hz9 hb9 hr9 hk9 ⊢
    (refine hK _ _ (fun _ => InX.mk hD9) (fun hI => ?_); have hI := hI (by simp); clear hK K; try simp only [Act.put, tk])
    (refine wpF_one 15 rfl (by kernel_rfl) rfl (fun K hK => ?_))
    go_simp
    (refine hK _ _ (fun _ => InX.mk hD9) (fun hI => ?_); have hI := hI (by simp); clear hK K; try simp only [Act.put, tk])
    (refine wpF_one 16 rfl (by kernel_rfl) rfl (fun K hK => ?_))
    go_simp
    (refine hK _ _ (fun h => absurd (by simp) h) (fun _ => ?_); clear hK K; try simp only [Act.put, tk])
    (refine wpF_done (by kernel_rfl) ?_ _)
    go_wp2_with fail
    go_meet
    exact ⟨q8, g1, q, e, rfl, rfl, rfl, HQ, hz9, Lib.hid ⟨Ne.symm HQ8r.out, Ne.symm HQ8p.out⟩, hb9, hr9, hk9⟩
  case rest =>
  obtain ⟨q8, f, q, e, rfl, rfl, rfl, HQ, hq8, HN8, hb3, hr3, hk3⟩ := hcut
  clear hb2 hr2 hk2 c0 c1 hl2 n10 n92 n91
  have hl3 := hb3.lt
  have hl8 := hq8.lt
  by_cases he : e = 0
  case neg =>
   have m1 : (e != 0) = true := by simp [he]
   clear he
   go_wp2_with fail
   refine (pfail_any p s a x g false wc hb3).mono ?_
   rintro e wf ⟨rfl, hbf, kd⟩
   have hrf := hr3.keep kd (fun h => HNE.out h.symm)
   have hkf := Keep.trans hk3.ob kd (fun _ _ h => h)
   clear kd
   go_wp2_with (refine wpList_store_row rfl 27 (.tmp 4) (.tmp _) rfl w.heap.size _ rfl rfl 27 _ hrf size27 rfl (by simp [Nd.row, Value.oneCell']) ?_)
   exact bodyPost_ret (results_cell_row Try.results107 _ _ w.heap.size 27 _ (0, 0) _ rfl (hrf.setRow (Nd.row nd0 (.slice none 0 0))) Try.underlying27 rfl size27) rfl (ReadR.fail (hbf.setRowOther HNE.out _) (Keep.setRow hkf (Or.inl (Nat.le_refl _)) _) ⟨Nat.le_refl _, Nat.le_of_lt HA.out, HG.out⟩)
  have m1 : (e != 0) = false := by simp [he]
  obtain ⟨k, rfl, hk1, hk2'⟩ := HQ.out he
  subst he
  have HK : Hid (a < k ∧ k ≤ s.size) := Lib.hid ⟨hk1, hk2'⟩
  have c1 := hb3.cell 1 (u := .int .i64 (a : Int)) rfl
  have f1 := hb3.frozen 1
  have HBL : Hid (PdAt (wc.setCell ⟨p, 1, none⟩ (.int .i64 (k : Int))) p s k x g false) := Lib.hid (hb3.set 1 (.int .i64 (k : Int)))
  have HRL := Lib.hid (hr3.setOther (p := ⟨p, 1, none⟩) HNE.out (.int .i64 (k : Int)))
  have HQL := Lib.hid (hq8.setOther (p := ⟨p, 1, none⟩) (fun e => HN8.out.2 e.symm) (.int .i64 (k : Int)))
  have HKL := Lib.hid (Keep.trans hk3.ob (Keep.setOb wc p 1 (.int .i64 (k : Int))) (fun _ _ h => h))
  clear hk1 hk2' HQ hb3 hr3 hk3 hq8
  go_upto_region 25 with fail
  generalize wc.setCell ⟨p, 1, none⟩ (.int .i64 (k : Int)) = w4 at HBL HRL HQL HKL ⊢
  go_wp2_with (first
   | ((refine wpList_load_row rfl 24 (.tmp 8) rfl q8 rfl 24 _ (0, 0) _ HQL.out Try.underlying24 rfl sizeW ?_); simp only [setW])
   | (refine wpList_store_row rfl 27 (.tmp 4) (.tmp _) rfl w.heap.size _ rfl rfl 27 _ HRL.out size27 rfl (by simp [Nd.row, Value.oneCell']) ?_))
  exact bodyPost_ret (results_cell_row Try.results107 _ _ w.heap.size 27 _ (0, 0) _ rfl (HRL.out.setRow (Nd.row (.mk ⟨3, 0, f 0, f 1, f 2, f 3, 0, 0, 0⟩ []) (.slice none 0 0))) Try.underlying27 rfl size27) rfl (ReadR.leaf ⟨3, 0, f 0, f 1, f 2, f 3, 0, 0, 0⟩ rfl (HBL.out.setRowOther HNE.out _) (Keep.setRow HKL.out (Or.inl (Nat.le_refl _)) _) ⟨HK.out.1, HK.out.2, HG.out⟩)
 have n91 : ((d.toNat : Int) == 91) = false := beq_eq_false_iff_ne.2 (by omega)
 by_cases h46 : d.toNat = 46
 ·have n46 : ((d.toNat : Int) == 46) = true := by simp [h46]
  clear h10 h92 h91 h46
  have W1 : IntKind.i64.wrap ((a : Int) + 1) = (a : Int) + 1 := wr_small (by omega) (by have := HA.out; have := HS.out; omega)
  have c1 := hb2.cell 1 (u := .int .i64 (a : Int)) rfl
  have f1 := hb2.frozen 1
  have HBL : Hid (PdAt (w2.setCell ⟨p, 1, none⟩ (.int .i64 ((a : Int) + 1))) p s (a + 1) x g false) := Lib.hid (hb2.set 1 (.int .i64 ((a : Int) + 1)))
  have HRL := Lib.hid (hr2.setOther (p := ⟨p, 1, none⟩) HNE.out (.int .i64 ((a : Int) + 1)))
  have HKL := Lib.hid (Keep.trans hk2.ob (Keep.setOb w2 p 1 (.int .i64 ((a : Int) + 1))) (fun _ _ h => h))
  have hll := hb2.lt
  have HAL : Hid (a + 1 ≤ s.size) := Lib.hid (by have := HA.out; omega)
  clear hb2 hr2 hk2
  go_wp2_with (refine wpList_store_row rfl 27 (.tmp 4) (.tmp _) rfl w.heap.size _ rfl rfl 27 _ HRL.out size27 rfl (by simp [Nd.row, Value.oneCell']) ?_)
  exact bodyPost_ret (results_cell_row Try.results107 _ _ w.heap.size 27 _ (0, 0) _ rfl (HRL.out.setRow (Nd.row (.mk ⟨2, 0, 0, 0, 0, 0, 0, 0, 0⟩ []) (.slice none 0 0))) Try.underlying27 rfl size27) rfl (ReadR.leaf ⟨2, 0, 0, 0, 0, 0, 0, 0, 0⟩ rfl (HBL.out.setRowOther HNE.out _) (Keep.setRow HKL.out (Or.inl (Nat.le_refl _)) _) ⟨by omega, HAL.out, HG.out⟩)
 have n46 : ((d.toNat : Int) == 46) = false := beq_eq_false_iff_ne.2 (by omega)
 exact absurd HDD.out (by omega)
set_option maxRecDepth 100000 in
set_option maxHeartbeats 16000000 in
theorem patom_c (p : Nat) (s : ByteArray) (x : Bool) (m : Nat) (HW : WholeSays p s x m) (HM : MemberSays s) (a g : Nat) (β : Bool) (w : World) (hb : PdAt w p s a x g false) (ha : a < s.size) (hs : s.size ≤ 600) (hg : g ≤ 9) (hm : s.size - a ≤ m + 1) (d : UInt8) (b0 : a < s.size) (e0 : s[a] = d) (hX : hasX s a false (openT x) = false) (h10 : d.toNat ≠ 10) (h92 : d.toNat ≠ 92) (h91 : d.toNat ≠ 91) (h46 : d.toNat ≠ 46) :
  Calls Try.prog 107 #[.pointer (some ⟨p, 0, none⟩), .bool β] w fun e w' => ReadR p s x a 0 w w' e := by
 have HS := Lib.hid hs
 have HA := Lib.hid ha
 have HG := Lib.hid hg
 have HMM := Lib.hid hm
 have HWH := Lib.hid HW
 have HMH := Lib.hid HM
 have hl := hb.lt
 have i0 : (0 : Int) ≤ (a : Int) := by omega
 have i1 : (a : Int) < (s.size : Int) := by omega
 have HX := Lib.hid hX
 clear hX
 have HDD : Hid (d.toNat ≠ 10 ∧ d.toNat ≠ 92 ∧ d.toNat ≠ 91 ∧ d.toNat ≠ 46) := Lib.hid ⟨h10, h92, h91, h46⟩
 clear h10 h92 h91 h46
 clear HW HM hs ha hg hm
 go_enter Try.func107, Try.ntmps107
 go_upto_region 1 with fail
 have hb1 : PdAt (w.alloc (.cells zeroNode 27)) p s a x g false := hb.alloc _
 have hr1 : Blk (w.alloc (.cells zeroNode 27)) w.heap.size zeroNode 27 := Blk.new w _ _
 have hk1 : Keep Nb w (w.alloc (.cells zeroNode 27)) := Keep.alloc (Keep.refl _ _) _
 have hsz : (w.alloc (.cells zeroNode 27)).heap.size = w.heap.size + 1 := by simp
 have hx : w.alloc (.cells #[.int .i64 0, .int .u8 0, .int .u64 0, .int .u64 0, .int .u64 0, .int .u64 0, .int .i64 0, .int .i64 0, .int .i64 0, .slice none 0 0] 27) = w.alloc (.cells zeroNode 27) := rfl
 rw [hx]; clear hx
 generalize w.alloc (.cells zeroNode 27) = w1 at hb1 hr1 hk1 hsz ⊢
 have c0 := hb1.cell 0 (u := .string s) rfl
 have c1 := hb1.cell 1 (u := .int .i64 (a : Int)) rfl
 have hl1 := hb1.lt
 have hne : p ≠ w.heap.size := by omega
 have HNE := Lib.hid hne
 have nn : ¬ Nb p := fun h => h
 go_wp2_with fail
 (refine wp_region_f [9] (InX Nb _) (by kernel_rfl) (InX.mk (Keep.drew (Keep.refl _ _))) (fun hI => ?_))
 have xx : ∀ k, ¬ Nb k := fun _ h => h
 replace hb1 := hb1.drew
 replace hr1 := hr1.drew
 replace hk1 := hk1.drew
 have s1 : w1.drew.heap.size = w.heap.size + 1 := hsz
 generalize w1.drew = x0 at hI hb1 hr1 hk1 s1 ⊢
 (refine wpI_from 0 ?_; (iterate 9 ((first | (refine wpI_take (v := ?_) rfl (by kernel_rfl) (fun _ _ _ h => h) hI rfl ?_ ?_; rotate_left; (focus (rintro _ ⟨E, rfl⟩; go_simp; (try with_reducible rfl)))) | refine wpI_skip rfl (by kernel_rfl) (fun _ _ _ h => h) hI rfl ?_); simp only [Act.put, tk, Nat.reduceAdd])); refine wpI_till ?_)
 (refine wpF_one 9 rfl (by kernel_rfl) rfl (fun K hK => ?_))
 go_simp
 (refine hK _ _ (fun h => absurd (by simp) h) (fun _ => ?_); clear hK K; try simp only [Act.put, tk])
 (refine wpF_done (by kernel_rfl) ?_ _)
 clear hI xx c0 c1 hl1 hsz i0 i1 b0 e0 hb
 have hl1 := hb1.lt
 go_wp2_with fail
 refine (popen_x p s a x g false x0 hb1).mono ?_
 rintro e y0 ⟨rfl, rfl⟩
 go_wp2_with fail
 refine (phas_x p s a x g false (openT x) y0 hb1 (Nat.le_of_lt HA.out) HS.out (by have := openT_size x; omega)).mono ?_
 rintro e w2 ⟨rfl, kd⟩
 have hb2 := hb1.keep kd nn
 have hr2 := hr1.keep kd (fun h => h)
 have hk2 := Keep.trans hk1 kd (fun _ _ h => h)
 have s2 : w.heap.size + 1 ≤ w2.heap.size := by have := kd.size; omega
 have hl2 := hb2.lt
 clear kd hb1 hr1 hk1 hl1 s1 hne
 simp only [HX.out]
 obtain ⟨h10, h92, h91, h46⟩ := HDD.out
 have n10 : ((d.toNat : Int) == 10) = false := beq_eq_false_iff_ne.2 (by omega)
 have n92 : ((d.toNat : Int) == 92) = false := beq_eq_false_iff_ne.2 (by omega)
 have n91 : ((d.toNat : Int) == 91) = false := beq_eq_false_iff_ne.2 (by omega)
 have n46 : ((d.toNat : Int) == 46) = false := beq_eq_false_iff_ne.2 (by omega)
 have c2 := hb2.cell 2 (u := .bool x) rfl
 clear h10 h92 h91 h46
 go_upto_region 29 with fail
 go_cut [131] (fun y wx => ∃ β1 : Bool, y = .bool β1 ∧ wx = w2)
 case first =>
  by_cases h94 : d.toNat = 94
  ·have n94 : ((d.toNat : Int) == 94) = true := by simp [h94]
   clear h94
   cases x with
   | true =>
    go_wp2_with fail
    go_meet
    exact ⟨_, rfl, rfl⟩
   | false =>
    go_wp2_with fail
    go_meet
    exact ⟨_, rfl, rfl⟩
  ·have n94 : ((d.toNat : Int) == 94) = false := beq_eq_false_iff_ne.2 (by omega)
   clear h94
   go_wp2_with fail
   go_meet
   exact ⟨_, rfl, rfl⟩
 case rest =>
 obtain ⟨β1, rfl, rfl⟩ := hcut
 cases β1 with
 | true =>
  clear c2
  have W1 : IntKind.i64.wrap ((a : Int) + 1) = (a : Int) + 1 := wr_small (by omega) (by have := HA.out; have := HS.out; omega)
  have c1 := hb2.cell 1 (u := .int .i64 (a : Int)) rfl
  have f1 := hb2.frozen 1
  have HBL : Hid (PdAt (wc.setCell ⟨p, 1, none⟩ (.int .i64 ((a : Int) + 1))) p s (a + 1) x g false) := Lib.hid (hb2.set 1 (.int .i64 ((a : Int) + 1)))
  have HRL := Lib.hid (hr2.setOther (p := ⟨p, 1, none⟩) HNE.out (.int .i64 ((a : Int) + 1)))
  have HKL := Lib.hid (Keep.trans hk2.ob (Keep.setOb wc p 1 (.int .i64 ((a : Int) + 1))) (fun _ _ h => h))
  have hll := hb2.lt
  have HAL : Hid (a + 1 ≤ s.size) := Lib.hid (by have := HA.out; omega)
  clear hb2 hr2 hk2
  go_wp2_with (refine wpList_store_row rfl 27 (.tmp 4) (.tmp _) rfl w.heap.size _ rfl rfl 27 _ HRL.out size27 rfl (by simp [Nd.row, Value.oneCell']) ?_)
  exact bodyPost_ret (results_cell_row Try.results107 _ _ w.heap.size 27 _ (0, 0) _ rfl (HRL.out.setRow (Nd.row (.mk ⟨4, 0, 0, 0, 0, 0, 0, 0, 0⟩ []) (.slice none 0 0))) Try.underlying27 rfl size27) rfl (ReadR.leaf ⟨4, 0, 0, 0, 0, 0, 0, 0, 0⟩ rfl (HBL.out.setRowOther HNE.out _) (Keep.setRow HKL.out (Or.inl (Nat.le_refl _)) _) ⟨by omega, HAL.out, HG.out⟩)
 | false =>
 clear c2 n10 n92 n91 n46
 go_upto_region 32 with fail
 go_cut [151] (fun y wx => ∃ β1 : Bool, y = .bool β1 ∧ PdAt wx p s a x g false ∧ Blk wx w.heap.size zeroNode 27 ∧ Keep Nb w wx)
 case first =>
  have c0 := hb2.cell 0 (u := .string s) rfl
  have c1 := hb2.cell 1 (u := .int .i64 (a : Int)) rfl
  have c2 := hb2.cell 2 (u := .bool x) rfl
  by_cases h36 : d.toNat = 36
  ·have n36 : ((d.toNat : Int) == 36) = true := by simp [h36]
   clear h36
   cases x with
   | true =>
    clear c0 c1
    go_wp2_with fail
    refine wp_region_x (by kernel_rfl) (by kernel_rfl) ?_; (repeat (go_big_quiet_step ((fail)))); refine wpQuiet_nil ?_; rintro x5 ⟨⟨_, kx⟩, rfl⟩
    have hb3 := hb2.keep kx nn
    have hr3 := hr2.keep kx (fun h => h)
    have hk3 := Keep.trans hk2 kx (fun _ _ h => h)
    go_wp2_with fail
    go_meet
    exact ⟨_, rfl, hb3, hr3, hk3⟩
   | false =>
    have W1 : IntKind.i64.wrap ((a : Int) + 1) = (a : Int) + 1 := wr_small (by omega) (by have := HA.out; have := HS.out; omega)
    have W3 : IntKind.i64.wrap ((a : Int) + 3) = (a : Int) + 3 := wr_small (by omega) (by have := HA.out; have := HS.out; omega)
    by_cases he : a + 1 = s.size
    ·have m1 : ((a : Int) + 1 == (s.size : Int)) = true := by simp; omega
     clear he
     go_wp2_with fail
     refine wp_region_x (by kernel_rfl) (by kernel_rfl) ?_; (repeat (go_big_quiet_step ((fail)))); refine wpQuiet_nil ?_; rintro x5 ⟨⟨_, kx⟩, rfl⟩
     have hb3 := hb2.keep kx nn
     have hr3 := hr2.keep kx (fun h => h)
     have hk3 := Keep.trans hk2 kx (fun _ _ h => h)
     go_wp2_with fail
     go_meet
     exact ⟨_, rfl, hb3, hr3, hk3⟩
    ·have m1 : ((a : Int) + 1 == (s.size : Int)) = false := beq_eq_false_iff_ne.2 (by omega)
     have j0 : (0 : Int) ≤ (a : Int) + 1 := by omega
     by_cases hm : s.size < a + 3
     ·have j1 : (s.size : Int) < (a : Int) + 3 := by omega
      have j2 : (a : Int) + 1 ≤ (s.size : Int) := by have := HA.out; omega
      have j3 : (0 : Int) ≤ (s.size : Int) := by omega
      clear he hm
      go_wp2_with fail
      refine wp_region_x (by kernel_rfl) (by kernel_rfl) ?_; (repeat (go_big_quiet_step ((fail)))); refine wpQuiet_nil ?_; rintro x5 ⟨⟨_, kx⟩, rfl⟩
      have hb3 := hb2.keep kx nn
      have hr3 := hr2.keep kx (fun h => h)
      have hk3 := Keep.trans hk2 kx (fun _ _ h => h)
      go_wp2_with fail
      go_meet
      exact ⟨_, rfl, hb3, hr3, hk3⟩
     ·have j1 : ¬ ((s.size : Int) < (a : Int) + 3) := by omega
      have j2 : (a : Int) + 1 ≤ (a : Int) + 3 := by omega
      have j3 : (0 : Int) ≤ (a : Int) + 3 := by omega
      have j4 : (a : Int) + 3 ≤ (s.size : Int) := by omega
      clear he hm
      go_wp2_with fail
      refine wp_region_x (by kernel_rfl) (by kernel_rfl) ?_; (repeat (go_big_quiet_step ((fail)))); refine wpQuiet_nil ?_; rintro x5 ⟨⟨_, kx⟩, rfl⟩
      have hb3 := hb2.keep kx nn
      have hr3 := hr2.keep kx (fun h => h)
      have hk3 := Keep.trans hk2 kx (fun _ _ h => h)
      go_wp2_with fail
      go_meet
      exact ⟨_, rfl, hb3, hr3, hk3⟩
  ·have n36 : ((d.toNat : Int) == 36) = false := beq_eq_false_iff_ne.2 (by omega)
   clear h36 c0 c1 c2
   go_wp2_with fail
   refine wp_region_x (by kernel_rfl) (by kernel_rfl) ?_; (repeat (go_big_quiet_step ((fail)))); refine wpQuiet_nil ?_; rintro x5 ⟨⟨_, kx⟩, rfl⟩
   have hb3 := hb2.keep kx nn
   have hr3 := hr2.keep kx (fun h => h)
   have hk3 := Keep.trans hk2 kx (fun _ _ h => h)
   go_wp2_with fail
   go_meet
   exact ⟨_, rfl, hb3, hr3, hk3⟩
 case rest =>
 obtain ⟨β1, rfl, hb3, hr3, hk3⟩ := hcut
 clear hb2 hr2 hk2 hl2
 cases β1 with
 | true =>
  have W1 : IntKind.i64.wrap ((a : Int) + 1) = (a : Int) + 1 := wr_small (by omega) (by have := HA.out; have := HS.out; omega)
  have c1 := hb3.cell 1 (u := .int .i64 (a : Int)) rfl
  have f1 := hb3.frozen 1
  have HBL : Hid (PdAt (wc.setCell ⟨p, 1, none⟩ (.int .i64 ((a : Int) + 1))) p s (a + 1) x g false) := Lib.hid (hb3.set 1 (.int .i64 ((a : Int) + 1)))
  have HRL := Lib.hid (hr3.setOther (p := ⟨p, 1, none⟩) HNE.out (.int .i64 ((a : Int) + 1)))
  have HKL := Lib.hid (Keep.trans hk3.ob (Keep.setOb wc p 1 (.int .i64 ((a : Int) + 1))) (fun _ _ h => h))
  have hll := hb3.lt
  have HAL : Hid (a + 1 ≤ s.size) := Lib.hid (by have := HA.out; omega)
  clear hb3 hr3 hk3
  go_wp2_with (refine wpList_store_row rfl 27 (.tmp 4) (.tmp _) rfl w.heap.size _ rfl rfl 27 _ HRL.out size27 rfl (by simp [Nd.row, Value.oneCell']) ?_)
  exact bodyPost_ret (results_cell_row Try.results107 _ _ w.heap.size 27 _ (0, 0) _ rfl (HRL.out.setRow (Nd.row (.mk ⟨5, 0, 0, 0, 0, 0, 0, 0, 0⟩ []) (.slice none 0 0))) Try.underlying27 rfl size27) rfl (ReadR.leaf ⟨5, 0, 0, 0, 0, 0, 0, 0, 0⟩ rfl (HBL.out.setRowOther HNE.out _) (Keep.setRow HKL.out (Or.inl (Nat.le_refl _)) _) ⟨by omega, HAL.out, HG.out⟩)
 | false =>
  have vd := d.toNat_lt
  have W1 : IntKind.i64.wrap ((a : Int) + 1) = (a : Int) + 1 := wr_small (by omega) (by have := HA.out; have := HS.out; omega)
  have c1 := hb3.cell 1 (u := .int .i64 (a : Int)) rfl
  have f1 := hb3.frozen 1
  have HBL : Hid (PdAt (wc.setCell ⟨p, 1, none⟩ (.int .i64 ((a : Int) + 1))) p s (a + 1) x g false) := Lib.hid (hb3.set 1 (.int .i64 ((a : Int) + 1)))
  have HRL := Lib.hid (hr3.setOther (p := ⟨p, 1, none⟩) HNE.out (.int .i64 ((a : Int) + 1)))
  have HKL := Lib.hid (Keep.trans hk3.ob (Keep.setOb wc p 1 (.int .i64 ((a : Int) + 1))) (fun _ _ h => h))
  have hll := hb3.lt
  have HAL : Hid (a + 1 ≤ s.size) := Lib.hid (by have := HA.out; omega)
  clear hb3 hr3 hk3
  go_wp2_with (refine wpList_store_row rfl 27 (.tmp 4) (.tmp _) rfl w.heap.size _ rfl rfl 27 _ HRL.out size27 rfl (by simp [Nd.row, Value.oneCell']) ?_)
  exact bodyPost_ret (results_cell_row Try.results107 _ _ w.heap.size 27 _ (0, 0) _ rfl (HRL.out.setRow (Nd.row (.mk ⟨1, d.toNat, 0, 0, 0, 0, 0, 0, 0⟩ []) (.slice none 0 0))) Try.underlying27 rfl size27) rfl (ReadR.leaf ⟨1, d.toNat, 0, 0, 0, 0, 0, 0, 0⟩ rfl (HBL.out.setRowOther HNE.out _) (Keep.setRow HKL.out (Or.inl (Nat.le_refl _)) _) ⟨by omega, HAL.out, HG.out⟩)
theorem patom_h (p : Nat) (s : ByteArray) (x : Bool) (m : Nat) (HW : WholeSays p s x m) (HM : MemberSays s) (a g : Nat) (β : Bool) (w : World) (hb : PdAt w p s a x g false) (ha : a < s.size) (hs : s.size ≤ 600) (hg : g ≤ 9) (hm : s.size - a ≤ m + 1) :
  Calls Try.prog 107 #[.pointer (some ⟨p, 0, none⟩), .bool β] w fun e w' => ReadR p s x a 0 w w' e := by
 cases hX : hasX s a false (openT x) with
 | true => exact patom_g p s x m HW HM a g β w hb ha hs hg hm hX
 | false =>
  obtain ⟨d, b0, e0⟩ := byte_of ha
  by_cases hd : d.toNat = 10 ∨ d.toNat = 92 ∨ d.toNat = 91 ∨ d.toNat = 46
  ·exact patom_b p s x m HW HM a g β w hb ha hs hg hm d b0 e0 hX hd
  ·exact patom_c p s x m HW HM a g β w hb ha hs hg hm d b0 e0 hX (fun h => hd (.inl h)) (fun h => hd (.inr (.inl h))) (fun h => hd (.inr (.inr (.inl h)))) (fun h => hd (.inr (.inr (.inr h))))
end Go.Proofs.Ytkidjbfapldmbaa
