import Derived.Test.YtkidjbfapldmbaaZLawPut
import Derived.Test.YtkidjbfapldmbaaZRn
set_option linter.unusedVariables false
set_option linter.unusedSimpArgs false
namespace Go.Proofs.Ytkidjbfapldmbaa
open Go.RowKit P8
set_option maxRecDepth 100000 in
set_option maxHeartbeats 2000000 in
theorem sub_big (s : ByteArray) (x : Bool) (r : ByteArray) (nth : Int) (all : Bool) (T : ByteArray) (w : World) (h : 500 < s.size ∨ 500 < r.size) :
  Calls Try.prog 15 #[.string s, .bool x, .string r, .int .i64 nth, .bool all, .string T] w fun e w' => e = .returned (.bool true) ∧ Keep Nb w w' := by
 by_cases h1 : 500 < s.size
 ·have m1 : decide ((500 : Int) < (s.size : Int)) = true := by simp; omega
  clear h h1
  go_enter Try.func15, Try.ntmps15
  go_wp2_with fail
  refine (awake18 _).mono ?_
  rintro e w2 ⟨rfl, hk2⟩
  go_wp2_with fail
  refine (awake18 _).mono ?_
  rintro e w3 ⟨rfl, hk3⟩
  go_wp2_with fail
  go_ret
  exact ⟨rfl, hk2.trans hk3 (fun _ _ h => h)⟩
 have m1 : decide ((500 : Int) < (s.size : Int)) = false := by simp; omega
 ·have m2 : decide ((500 : Int) < (r.size : Int)) = true := by simp; omega
  clear h h1
  go_enter Try.func15, Try.ntmps15
  go_wp2_with fail
  refine (awake18 _).mono ?_
  rintro e w2 ⟨rfl, hk2⟩
  go_wp2_with fail
  refine (awake18 _).mono ?_
  rintro e w3 ⟨rfl, hk3⟩
  go_wp2_with fail
  go_ret
  exact ⟨rfl, hk2.trans hk3 (fun _ _ h => h)⟩
set_option maxRecDepth 100000 in
set_option maxHeartbeats 4000000 in
theorem sub_small (s : ByteArray) (x : Bool) (r : ByteArray) (nth : Int) (all : Bool) (T : ByteArray) (w : World) (hs : s.size ≤ 500) (hr : r.size ≤ 500) :
  Calls Try.prog 15 #[.string s, .bool x, .string r, .int .i64 nth, .bool all, .string T] w fun e w' => e = .returned (.bool true) ∧ Keep Nb w w' := by
 have m1 : decide ((500 : Int) < (s.size : Int)) = false := by simp; omega
 have m2 : decide ((500 : Int) < (r.size : Int)) = false := by simp; omega
 have HS : Hid (s.size ≤ 600) := Lib.hid (by omega)
 have HRP := Lib.hid (fun wx => rparts_any r hr wx)
 clear hs hr
 go_enter Try.func15, Try.ntmps15
 go_wp2_with fail
 refine (awake18 _).mono ?_
 rintro e w1 ⟨rfl, hk1⟩
 go_wp2_with fail
 refine (parse_any s x HS.out _).mono ?_
 rintro e w2 ⟨N, A0, n0, c0, at_, err, rfl, hL, hk2⟩
 have HK2 := Lib.hid (Keep.trans hk1 hk2 (fun _ _ h => h))
 clear hk1 hk2 m1 m2
 have hq : Blk (w2.alloc (.cells zeroNode 27)) w2.heap.size zeroNode 27 := Blk.new w2 _ _
 have hk : Keep Nb w2 ((w2.alloc (.cells zeroNode 27)).setRow w2.heap.size (Nd.row N (.slice A0 n0 c0))) := Keep.setRow (Keep.alloc (Keep.refl _ _) _) (Or.inl (Nat.le_refl _)) _
 have HK3 := Lib.hid (Keep.trans HK2.out hk (fun _ _ h => h))
 by_cases he : err = 0
 ·have HL := Lib.hid (Lies_keep hk (hL he))
  subst he
  obtain ⟨A1, c1, hs, z1, z2, z3⟩ := LiesP_def.1 (hL rfl)
  injection hs with e1 e2 e3
  subst e1 e2 e3
  clear z1 z2 z3 hL hk HK2
  have hq' := hq.setRow (Nd.row N (.slice A0 N.l.length c0))
  go_upto_region 4 with (refine wpList_store_row rfl 27 (.tmp 13) (.tmp 33) rfl w2.heap.size _ rfl rfl 27 _ hq (by kernel_rfl) rfl (by simp [Nd.row, Value.oneCell']) ?_)
  have hx : ∀ V : Array Value, (w2.alloc (.cells #[.int .i64 0, .int .u8 0, .int .u64 0, .int .u64 0, .int .u64 0, .int .u64 0, .int .i64 0, .int .i64 0, .int .i64 0, .slice none 0 0] 27)).setRow w2.heap.size V = (w2.alloc (.cells zeroNode 27)).setRow w2.heap.size V := fun _ => rfl
  rw [hx]
  clear hx hq
  generalize ((w2.alloc (.cells zeroNode 27)).setRow w2.heap.size (Nd.row N (.slice A0 N.l.length c0))) = w3 at HK3 HL hq' ⊢
  generalize w2.heap.size = q at hq' ⊢
  have HQ := Lib.hid hq'
  clear hq'
  go_wp2_with fail
  (refine wp_region_f [7] (InX Nb _) (by kernel_rfl) (InX.mk (Keep.drew (Keep.refl _ _))) (fun hI => ?_))
  have xx : ∀ k, ¬ Nb k := fun _ h => h
  have hD : Keep Nb w3 w3.drew := (Keep.refl _ _).drew
  generalize w3.drew = x0 at hI hD ⊢
  (refine wpF_row3 0 rfl (by kernel_rfl) (fun _ _ _ _ h => h) hI rfl 27 (.tmp 13) rfl q rfl 27 _ (0, 0) _ (fun _ hS => InX.bk hS HQ.out (fun h => h)) Try.underlying27 rfl (by kernel_rfl) ?_; simp only [Act.put, tk])
  (refine wpI_from 1 ?_; (iterate 1 ((first | (refine wpI_take3' (v := ?_) rfl (by kernel_rfl) (fun _ _ _ h => h) hI rfl ?_ ?_; rotate_left; (focus (rintro _ ⟨E, rfl⟩; go_simp; (try with_reducible rfl)))) | refine wpI_skip3' rfl (by kernel_rfl) (fun _ _ _ h => h) hI rfl ?_); simp only [Act.put, tk, Nat.reduceAdd])); refine wpI_till ?_)
  (refine wpI_from 3 ?_; (iterate 3 ((first | (refine wpI_take3' (v := ?_) rfl (by kernel_rfl) (fun _ _ _ h => h) hI rfl ?_ ?_; rotate_left; (focus (rintro _ ⟨E, rfl⟩; go_simp; (try with_reducible rfl)))) | refine wpI_skip3' rfl (by kernel_rfl) (fun _ _ _ h => h) hI rfl ?_); simp only [Act.put, tk, Nat.reduceAdd])); refine wpI_till ?_)
  (refine wpF_one 2 rfl (by kernel_rfl) rfl (fun K hK => ?_))
  go_simp
  refine (HRP.out x0).mono ?_
  rintro e x2 ⟨ps, A6, c6, rfl, hp2, hsz, kd⟩
  replace hD := hD.trans kd (fun _ _ h => h)
  have HSZ : Hid (∀ y ∈ ps, y.2.size ≤ 9223372036854775807) := Lib.hid (fun y hy => Nat.le_trans (hsz y hy) (by omega))
  have HP2 := Lib.hid hp2
  clear kd hsz hp2
  (refine hK _ _ (fun _ => InX.mk hD) (fun hI => ?_); have hI := hI (by simp); clear hK K; try simp only [Act.put, tk])
  (refine wpF_one 6 rfl (by kernel_rfl) rfl (fun K hK => ?_))
  go_simp
  refine (puts_any N (.slice A0 N.l.length c0) ps HSZ.out A6 c6 nth all T x2 (Lies_keep hD HL.out) HP2.out).mono ?_
  rintro e x3 ⟨rfl, kd⟩
  replace hD := hD.trans kd (fun _ _ h => h)
  clear kd
  (refine hK _ _ (fun _ => InX.mk hD) (fun hI => ?_); have hI := hI (by simp); clear hK K; try simp only [Act.put, tk])
  (refine wpF_one 7 rfl (by kernel_rfl) rfl (fun K hK => ?_))
  go_simp
  (refine hK _ _ (fun h => absurd (by simp) h) (fun _ => ?_); clear hK K; try simp only [Act.put, tk])
  (refine wpF_done (by kernel_rfl) ?_ _)
  have HK4 := Lib.hid (HK3.out.trans hD (fun _ _ h => h))
  clear hD
  go_wp2_with fail
  go_ret
  exact ⟨rfl, HK4.out⟩
 ·have m3 : (err == 0) = false := beq_eq_false_iff_ne.2 he
  clear he hL hk HK2
  go_wp2_with (refine wpList_store_row rfl 27 (.tmp 13) (.tmp 33) rfl w2.heap.size _ rfl rfl 27 _ hq (by kernel_rfl) rfl (by simp [Nd.row, Value.oneCell']) ?_)
  go_ret
  exact ⟨rfl, HK3.out⟩
theorem sub_any (s : ByteArray) (x : Bool) (r : ByteArray) (nth : Int) (all : Bool) (T : ByteArray) (w : World) :
  Calls Try.prog 15 #[.string s, .bool x, .string r, .int .i64 nth, .bool all, .string T] w fun e w' => e = .returned (.bool true) ∧ Keep Nb w w' := by
 by_cases h : 500 < s.size ∨ 500 < r.size
 ·exact sub_big s x r nth all T w h
 ·exact sub_small s x r nth all T w (by omega) (by omega)
end Go.Proofs.Ytkidjbfapldmbaa
