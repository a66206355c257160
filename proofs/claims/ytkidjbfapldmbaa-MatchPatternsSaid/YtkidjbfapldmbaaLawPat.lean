/- MatchPatterns. -/
import Derived.Test.YtkidjbfapldmbaaLawFnd
import Derived.Test.YtkidjbfapldmbaaRn
namespace Go.Proofs.Ytkidjbfapldmbaa
set_option linter.unusedVariables false
set_option linter.unusedSimpArgs false
open Go.RowKit P8

set_option maxRecDepth 100000 in
set_option maxHeartbeats 2000000 in
theorem pat_any (s : ByteArray) (x : Bool) (T : ByteArray) (a : Int) (bd : Bool) (w : World) :
    Calls Try.prog 8 #[.string s, .bool x, .string T, .int .i64 a, .bool bd] w fun e w' => e = .returned (.bool true) ∧ Keep Nb w w' := by
  by_cases hs : s.size ≤ 600
  · have m1 : decide ((600 : Int) < (s.size : Int)) = false := by simp; omega
    have HS := Lib.hid hs
    clear hs
    go_enter Try.func8, Try.ntmps8
    go_wp2_with fail
    refine (awake12 _).mono ?_
    rintro e w1 ⟨rfl, hk1⟩
    go_wp2_with fail
    refine (parse_any s x HS.out _).mono ?_
    rintro e w2 ⟨N, A0, n0, c0, at_, err, rfl, hL, hk2⟩
    have HK2 := Lib.hid (Keep.trans hk1 hk2 (fun _ _ h => h))
    clear hk1 hk2
    have hq : Blk (w2.alloc (.cells zeroNode 27)) w2.heap.size zeroNode 27 := Blk.new w2 _ _
    have hk : Keep Nb w2 ((w2.alloc (.cells zeroNode 27)).setRow w2.heap.size (Nd.row N (.slice A0 n0 c0))) := Keep.setRow (Keep.alloc (Keep.refl _ _) _) (Or.inl (Nat.le_refl _)) _
    have HK3 := Lib.hid (Keep.trans HK2.out hk (fun _ _ h => h))
    by_cases he : err = 0
    · have HL := Lib.hid (Lies_keep hk (hL he))
      subst he
      obtain ⟨A1, c1, hs, z1, z2, z3⟩ := LiesP_def.1 (hL rfl)
      injection hs with e1 e2 e3
      subst e1 e2 e3
      clear z1 z2 z3 hL hk HK2
      have hq' := hq.setRow (Nd.row N (.slice A0 N.l.length c0))
      go_upto_region 4 with (refine wpList_store_row rfl 27 (.tmp 11) (.tmp _) rfl w2.heap.size _ rfl rfl 27 _ hq size27 rfl (by simp [Nd.row, Value.oneCell']) ?_)
      have hx : ∀ V : Array Value, (w2.alloc (.cells #[.int .i64 0, .int .u8 0, .int .u64 0, .int .u64 0, .int .u64 0, .int .u64 0, .int .i64 0, .int .i64 0, .int .i64 0, .slice none 0 0] 27)).setRow w2.heap.size V = (w2.alloc (.cells zeroNode 27)).setRow w2.heap.size V := fun _ => rfl
      rw [hx]
      clear hx hq
      generalize ((w2.alloc (.cells zeroNode 27)).setRow w2.heap.size (Nd.row N (.slice A0 N.l.length c0))) = w3 at HK3 HL hq' ⊢
      go_wp2_with (refine wpList_load_row rfl 27 (.tmp 11) rfl w2.heap.size rfl 27 _ (0, 0) _ hq' Try.underlying27 rfl size27 ?_)
      refine (fnd_any N (.slice A0 N.l.length c0) T a bd w3 HL.out).mono ?_
      rintro e w4 ⟨rfl, hk4⟩
      go_wp2_with fail
      go_ret
      exact ⟨rfl, HK3.out.trans hk4 (fun _ _ h => h)⟩
    · have m2 : (err == 0) = false := beq_eq_false_iff_ne.2 he
      clear he hL hk HK2
      go_wp2_with (refine wpList_store_row rfl 27 (.tmp 11) (.tmp 26) rfl w2.heap.size _ rfl rfl 27 _ hq size27 rfl (by simp [Nd.row, Value.oneCell']) ?_)
      go_ret
      exact ⟨rfl, HK3.out⟩
  · have m1 : decide ((600 : Int) < (s.size : Int)) = true := by simp; omega
    clear hs
    go_enter Try.func8, Try.ntmps8
    go_wp2_with fail
    refine (awake12 _).mono ?_
    rintro e w1 ⟨rfl, hk1⟩
    go_wp2_with fail
    refine (awake12 _).mono ?_
    rintro e w2 ⟨rfl, hk2⟩
    go_wp2_with fail
    go_ret
    exact ⟨rfl, hk1.trans hk2 (fun _ _ h => h)⟩

end Go.Proofs.Ytkidjbfapldmbaa
