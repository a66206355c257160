import Derived.Test.YtkidjbfapldmbaaZBase
import Derived.Test.YtkidjbfapldmbaaZCount
import Derived.Deep.RegionHeld3
import Derived.Deep.QuietTactic
import Derived.BigQuiet
set_option linter.unusedVariables false
set_option linter.unusedSimpArgs false
namespace Go.Proofs.Ytkidjbfapldmbaa
open Go.RowKit P8
def neededH (h : Hd) : Hd :=
 if h.k = 1 then ⟨h.k, h.c, 0, 0, 0, 0, 0, 0, 0⟩ else if h.k = 3 then ⟨h.k, 0, h.s0, h.s1, h.s2, h.s3, 0, 0, 0⟩ else if h.k = 6 then ⟨h.k, 0, 0, 0, 0, 0, h.n, 0, 0⟩
 else if h.k = 7 then ⟨h.k, 0, 0, 0, 0, 0, h.n, 0, 0⟩ else if h.k = 8 then ⟨h.k, 0, 0, 0, 0, 0, 0, 0, 0⟩ else if h.k = 9 then ⟨h.k, 0, 0, 0, 0, 0, 0, 0, 0⟩
 else if h.k = 10 then ⟨h.k, 0, 0, 0, 0, 0, 0, h.mn, h.mx⟩ else ⟨h.k, 0, 0, 0, 0, 0, 0, 0, 0⟩
def kidsOf (k : Int) : Int := if k = 6 then 1 else if k = 8 then -1 else if k = 9 then -1 else if k = 10 then 1 else 0
def zeroHead : Array Value := #[.int .i64 0, .int .u8 0, .int .u64 0, .int .u64 0, .int .u64 0, .int .u64 0, .int .i64 0, .int .i64 0, .int .i64 0]
theorem size90 : (Try.prog.info? 90).map (·.size) = some 9 := by kernel_rfl
set_option maxRecDepth 100000 in
set_option maxHeartbeats 4000000 in
theorem needed_any (T : Nd) (v : Value) (w : World) :
  Calls Try.prog 97 #[.agg (Nd.row T v)] w fun e w' => e = .returned (.tuple #[.agg #[.int .i64 (neededH T.h).k, .int .u8 (neededH T.h).c, .int .u64 (neededH T.h).s0, .int .u64 (neededH T.h).s1, .int .u64 (neededH T.h).s2, .int .u64 (neededH T.h).s3, .int .i64 (neededH T.h).n, .int .i64 (neededH T.h).mn, .int .i64 (neededH T.h).mx], .int .i64 (kidsOf T.h.k)]) ∧ Keep Nb w w' := by
 obtain ⟨h, l⟩ := T
 simp only [Nd.row, Nd.h]
 by_cases e0 : h.k = 1
 ·skip
  have b0 : (h.k == 1) = true := by simpa using e0
  have hn : neededH h = ⟨h.k, h.c, 0, 0, 0, 0, 0, 0, 0⟩ := by unfold neededH; simp [e0]
  have hk : kidsOf h.k = 0 := by unfold kidsOf; simp [e0]
  rw [hn, hk]
  clear e0
  clear hn hk
  go_enter Try.func97, Try.ntmps97
  go_wp2_with (refine wpList_store_row rfl 90 (.tmp 2) (.tmp 44) rfl (w.heap.size + 1) _ rfl rfl 90 zeroHead (Blk.alloc (Blk.new' (by simp) _ _) _) size90 rfl (by simp [Value.oneCell']) ?_)
  exact bodyPost_ret (results_row_tmp Try.results97 _ _ (w.heap.size + 1) 90 _ (0, 0) _ rfl (Blk.setRow (Blk.alloc (Blk.new' (by simp) zeroHead _) _) _) Try.underlying90 rfl size90) rfl ⟨rfl, kp⟩
 ·skip
  by_cases e1 : h.k = 3
  ·skip
   have b0 : (h.k == 1) = false := by simpa using e0
   have b1 : (h.k == 3) = true := by simpa using e1
   have hn : neededH h = ⟨h.k, 0, h.s0, h.s1, h.s2, h.s3, 0, 0, 0⟩ := by unfold neededH; simp [e0, e1]
   have hk : kidsOf h.k = 0 := by unfold kidsOf; simp [e0, e1]
   rw [hn, hk]
   clear e0
   clear e1
   clear hn hk
   go_enter Try.func97, Try.ntmps97
   go_wp2_with (refine wpList_store_row rfl 90 (.tmp 2) (.tmp 44) rfl (w.heap.size + 1) _ rfl rfl 90 zeroHead (Blk.alloc (Blk.new' (by simp) _ _) _) size90 rfl (by simp [Value.oneCell']) ?_)
   exact bodyPost_ret (results_row_tmp Try.results97 _ _ (w.heap.size + 1) 90 _ (0, 0) _ rfl (Blk.setRow (Blk.alloc (Blk.new' (by simp) zeroHead _) _) _) Try.underlying90 rfl size90) rfl ⟨rfl, kp⟩
  ·skip
   by_cases e2 : h.k = 6
   ·skip
    have b0 : (h.k == 1) = false := by simpa using e0
    have b1 : (h.k == 3) = false := by simpa using e1
    have b2 : (h.k == 6) = true := by simpa using e2
    have hn : neededH h = ⟨h.k, 0, 0, 0, 0, 0, h.n, 0, 0⟩ := by unfold neededH; simp [e0, e1, e2]
    have hk : kidsOf h.k = 1 := by unfold kidsOf; simp [e0, e1, e2]
    rw [hn, hk]
    clear e0
    clear e1
    clear e2
    clear hn hk
    go_enter Try.func97, Try.ntmps97
    go_wp2_with (refine wpList_store_row rfl 90 (.tmp 2) (.tmp 25) rfl (w.heap.size + 1) _ rfl rfl 90 zeroHead (Blk.alloc (Blk.new' (by simp) _ _) _) size90 rfl (by simp [Value.oneCell']) ?_)
    exact bodyPost_ret (results_row_tmp Try.results97 _ _ (w.heap.size + 1) 90 _ (0, 0) _ rfl (Blk.setRow (Blk.alloc (Blk.new' (by simp) zeroHead _) _) _) Try.underlying90 rfl size90) rfl ⟨rfl, kp⟩
   ·skip
    by_cases e3 : h.k = 7
    ·skip
     have b0 : (h.k == 1) = false := by simpa using e0
     have b1 : (h.k == 3) = false := by simpa using e1
     have b2 : (h.k == 6) = false := by simpa using e2
     have b3 : (h.k == 7) = true := by simpa using e3
     have hn : neededH h = ⟨h.k, 0, 0, 0, 0, 0, h.n, 0, 0⟩ := by unfold neededH; simp [e0, e1, e2, e3]
     have hk : kidsOf h.k = 0 := by unfold kidsOf; simp [e0, e1, e2, e3]
     rw [hn, hk]
     clear e0
     clear e1
     clear e2
     clear e3
     clear hn hk
     go_enter Try.func97, Try.ntmps97
     go_wp2_with (refine wpList_store_row rfl 90 (.tmp 2) (.tmp 44) rfl (w.heap.size + 1) _ rfl rfl 90 zeroHead (Blk.alloc (Blk.new' (by simp) _ _) _) size90 rfl (by simp [Value.oneCell']) ?_)
     exact bodyPost_ret (results_row_tmp Try.results97 _ _ (w.heap.size + 1) 90 _ (0, 0) _ rfl (Blk.setRow (Blk.alloc (Blk.new' (by simp) zeroHead _) _) _) Try.underlying90 rfl size90) rfl ⟨rfl, kp⟩
    ·skip
     by_cases e4 : h.k = 8
     ·skip
      have b0 : (h.k == 1) = false := by simpa using e0
      have b1 : (h.k == 3) = false := by simpa using e1
      have b2 : (h.k == 6) = false := by simpa using e2
      have b3 : (h.k == 7) = false := by simpa using e3
      have b4 : (h.k == 8) = true := by simpa using e4
      have hn : neededH h = ⟨h.k, 0, 0, 0, 0, 0, 0, 0, 0⟩ := by unfold neededH; simp [e0, e1, e2, e3, e4]
      have hk : kidsOf h.k = -1 := by unfold kidsOf; simp [e0, e1, e2, e3, e4]
      rw [hn, hk]
      clear e0
      clear e1
      clear e2
      clear e3
      clear e4
      clear hn hk
      go_enter Try.func97, Try.ntmps97
      go_wp2_with (refine wpList_store_row rfl 90 (.tmp 2) (.tmp 34) rfl (w.heap.size + 1) _ rfl rfl 90 zeroHead (Blk.alloc (Blk.new' (by simp) _ _) _) size90 rfl (by simp [Value.oneCell']) ?_)
      exact bodyPost_ret (results_row_tmp Try.results97 _ _ (w.heap.size + 1) 90 _ (0, 0) _ rfl (Blk.setRow (Blk.alloc (Blk.new' (by simp) zeroHead _) _) _) Try.underlying90 rfl size90) rfl ⟨rfl, kp⟩
     ·skip
      by_cases e5 : h.k = 9
      ·skip
       have b0 : (h.k == 1) = false := by simpa using e0
       have b1 : (h.k == 3) = false := by simpa using e1
       have b2 : (h.k == 6) = false := by simpa using e2
       have b3 : (h.k == 7) = false := by simpa using e3
       have b4 : (h.k == 8) = false := by simpa using e4
       have b5 : (h.k == 9) = true := by simpa using e5
       have hn : neededH h = ⟨h.k, 0, 0, 0, 0, 0, 0, 0, 0⟩ := by unfold neededH; simp [e0, e1, e2, e3, e4, e5]
       have hk : kidsOf h.k = -1 := by unfold kidsOf; simp [e0, e1, e2, e3, e4, e5]
       rw [hn, hk]
       clear e0
       clear e1
       clear e2
       clear e3
       clear e4
       clear e5
       clear hn hk
       go_enter Try.func97, Try.ntmps97
       go_wp2_with (refine wpList_store_row rfl 90 (.tmp 2) (.tmp 34) rfl (w.heap.size + 1) _ rfl rfl 90 zeroHead (Blk.alloc (Blk.new' (by simp) _ _) _) size90 rfl (by simp [Value.oneCell']) ?_)
       exact bodyPost_ret (results_row_tmp Try.results97 _ _ (w.heap.size + 1) 90 _ (0, 0) _ rfl (Blk.setRow (Blk.alloc (Blk.new' (by simp) zeroHead _) _) _) Try.underlying90 rfl size90) rfl ⟨rfl, kp⟩
      ·skip
       by_cases e6 : h.k = 10
       ·skip
        have b0 : (h.k == 1) = false := by simpa using e0
        have b1 : (h.k == 3) = false := by simpa using e1
        have b2 : (h.k == 6) = false := by simpa using e2
        have b3 : (h.k == 7) = false := by simpa using e3
        have b4 : (h.k == 8) = false := by simpa using e4
        have b5 : (h.k == 9) = false := by simpa using e5
        have b6 : (h.k == 10) = true := by simpa using e6
        have hn : neededH h = ⟨h.k, 0, 0, 0, 0, 0, 0, h.mn, h.mx⟩ := by unfold neededH; simp [e0, e1, e2, e3, e4, e5, e6]
        have hk : kidsOf h.k = 1 := by unfold kidsOf; simp [e0, e1, e2, e3, e4, e5, e6]
        rw [hn, hk]
        clear e0
        clear e1
        clear e2
        clear e3
        clear e4
        clear e5
        clear e6
        clear hn hk
        go_enter Try.func97, Try.ntmps97
        go_wp2_with fail
        (refine wp_region_f [7] (InX (Ob (w.heap.size + 1 + 1)) _) (by kernel_rfl) (InX.mk (Keep.drew (Keep.refl _ _))) (fun hI => ?_))
        have x0 : ¬ Ob (w.heap.size + 1 + 1) w.heap.size := by simp only [Ob]; omega
        (refine wpI_from 0 ?_; (iterate 5 ((first | (refine wpI_take (v := ?_) rfl (by kernel_rfl) (fun _ _ _ h => h) hI rfl ?_ ?_; rotate_left; (focus (rintro _ ⟨E, rfl⟩; go_simp; (try with_reducible rfl)))) | refine wpI_skip rfl (by kernel_rfl) (fun _ _ _ h => h) hI rfl ?_); simp only [Act.put, tk, Nat.reduceAdd])); refine wpI_till ?_)
        (refine wpF_one 5 rfl (by kernel_rfl) rfl (fun K hK => ?_))
        go_simp
        (refine hK _ _ (fun _ => InX.mk (Keep.drew (Keep.relit (by simp) _ _))) (fun hI => ?_); have hI := hI (by simp); clear hK K; try simp only [Act.put, tk])
        (refine wpF_take2 (v := ?_) 6 rfl (by kernel_rfl) (fun _ _ _ h => h) hI rfl ?_ ?_; rotate_left; (focus (rintro _ ⟨E, rfl⟩; go_simp; (try with_reducible rfl))); simp only [Act.put, tk])
        (refine wpF_one 7 rfl (by kernel_rfl) rfl (fun K hK => ?_))
        go_simp
        (refine hK _ _ (fun h => absurd (by simp) h) (fun _ => ?_); clear hK K; try simp only [Act.put, tk])
        (refine wpF_done (by kernel_rfl) ?_ _)
        go_wp2_with (refine wpList_store_row rfl 90 (.tmp 2) (.tmp 43) rfl (w.heap.size + 1) _ rfl rfl 90 zeroHead (Blk.alloc (Blk.new' (by simp) _ _) _) size90 rfl (by simp [Value.oneCell']) ?_)
        exact bodyPost_ret (results_row_tmp Try.results97 _ _ (w.heap.size + 1) 90 _ (0, 0) _ rfl (Blk.setRow (Blk.alloc (Blk.new' (by simp) zeroHead _) _) _) Try.underlying90 rfl size90) rfl ⟨rfl, kp⟩
       ·skip
        have b0 : (h.k == 1) = false := by simpa using e0
        have b1 : (h.k == 3) = false := by simpa using e1
        have b2 : (h.k == 6) = false := by simpa using e2
        have b3 : (h.k == 7) = false := by simpa using e3
        have b4 : (h.k == 8) = false := by simpa using e4
        have b5 : (h.k == 9) = false := by simpa using e5
        have b6 : (h.k == 10) = false := by simpa using e6
        have hn : neededH h = ⟨h.k, 0, 0, 0, 0, 0, 0, 0, 0⟩ := by unfold neededH; simp [e0, e1, e2, e3, e4, e5, e6]
        have hk : kidsOf h.k = 0 := by unfold kidsOf; simp [e0, e1, e2, e3, e4, e5, e6]
        rw [hn, hk]
        clear e0
        clear e1
        clear e2
        clear e3
        clear e4
        clear e5
        clear e6
        clear hn hk
        go_enter Try.func97, Try.ntmps97
        go_wp2_with (refine wpList_store_row rfl 90 (.tmp 2) (.tmp 44) rfl (w.heap.size + 1) _ rfl rfl 90 zeroHead (Blk.alloc (Blk.new' (by simp) _ _) _) size90 rfl (by simp [Value.oneCell']) ?_)
        exact bodyPost_ret (results_row_tmp Try.results97 _ _ (w.heap.size + 1) 90 _ (0, 0) _ rfl (Blk.setRow (Blk.alloc (Blk.new' (by simp) zeroHead _) _) _) Try.underlying90 rfl size90) rfl ⟨rfl, kp⟩
def Hd.row (h : Hd) : Array Value :=
 #[.int .i64 h.k, .int .u8 h.c, .int .u64 h.s0, .int .u64 h.s1, .int .u64 h.s2, .int .u64 h.s3, .int .i64 h.n, .int .i64 h.mn, .int .i64 h.mx]
set_option maxHeartbeats 1000000 in
theorem top_any (T : Nd) (v : Value) (w : World) :
  Calls Try.prog 59 #[.agg (Nd.row T v)] w fun e w' => e = .returned (.agg (Hd.row T.h)) ∧ Keep Nb w w' := by
 rw [Nd.row, Hd.row]
 go_enter Try.func59, Try.ntmps59
 go_wp2_with fail
 exact bodyPost_ret (v := .agg (Hd.row T.h)) (by simp [results, Try.results59, go_sem, Hd.row]) rfl ⟨rfl, kp⟩
theorem top_lit (T : Nd) (v : Value) (w : World) :
  Calls Try.prog 59 #[.agg (Nd.row T v)] w fun e w' => e = .returned (.agg #[.int .i64 T.h.k, .int .u8 T.h.c, .int .u64 T.h.s0, .int .u64 T.h.s1, .int .u64 T.h.s2, .int .u64 T.h.s3, .int .i64 T.h.n, .int .i64 T.h.mn, .int .i64 T.h.mx]) ∧ Keep Nb w w' := top_any T v w
end Go.Proofs.Ytkidjbfapldmbaa
