import Derived.Test.YtkidjbfapldmbaaZLawFir
set_option linter.unusedVariables false
set_option linter.unusedSimpArgs false
namespace Go.Proofs.Ytkidjbfapldmbaa
open Go.RowKit P8
set_option maxRecDepth 100000 in
set_option maxHeartbeats 4000000 in
theorem rtext_any (T : ByteArray) (a b : Nat) (hab : a ≤ b) (hb : b ≤ T.size) (hT : T.size ≤ 600) (w : World) :
  Calls Try.prog 46 #[.string T, .complex .f64 (F a) (F b)] w fun e w' => e = .returned (.string (T.extract a b)) ∧ w = w' := by
 have H6 := Lib.hid hT
 have HAB := Lib.hid hab
 have HB := Lib.hid hb
 clear hT hab hb
 go_enter Try.func46, Try.ntmps46
 go_wp2_with fail
 go_loopw [7] (fun o wr => ∃ i : Nat, o = .int .i64 (i : Int) ∧ Hid (i ≤ a) ∧ w = wr) (fun o _ => T.size + 2 - (intOf o).toNat)
 case atStart => exact ⟨0, rfl, Lib.hid (Nat.zero_le _), rfl⟩
 case round =>
  obtain ⟨i, rfl, hi, rfl⟩ := hrel
  have hle : i ≤ T.size := by have := hi.out; have := HAB.out; have := HB.out; omega
  have g1 : decide ((i : Int) ≤ (T.size : Int)) = true := by simp; omega
  have g2 : decide (i ≤ T.size) = true := by simp; omega
  have f1 := F_of i
  have W1 : IntKind.i64.wrap ((i : Int) + 1) = ((i + 1 : Nat) : Int) := by rw [IntKind.wrap_i64]; have := H6.out; omega
  have HLE := Lib.hid hle
  have HW1 := Lib.hid W1
  clear hle W1
  go_wp2_with fail
  clear g1 g2
  go_loopw [8] (fun o wr => ∃ k : Nat, o = .int .i64 (k : Int) ∧ Hid (i ≤ k ∧ (i = a → k ≤ b) ∧ (i ≠ a → k = i)) ∧ w = wr) (fun o _ => T.size + 2 - (intOf o).toNat)
  case atStart => exact ⟨i, rfl, Lib.hid ⟨Nat.le_refl _, fun h => by have := HAB.out; omega, fun _ => rfl⟩, rfl⟩
  case round =>
   obtain ⟨k, rfl, hk, rfl⟩ := hrel
   have hkle : k ≤ T.size := by
    have h1 := hk.out
    have h2 := HLE.out
    have h3 := HB.out
    by_cases e : i = a
    ·have := h1.2.1 e; omega
    ·have := h1.2.2 e; omega
   have g1 : decide ((k : Int) ≤ (T.size : Int)) = true := by simp; omega
   have g2 : decide (k ≤ T.size) = true := by simp; omega
   have f2 := F_of k
   have i7 : i < 701 := by have := HLE.out; have := H6.out; omega
   have k7 : k < 701 := by have := H6.out; omega
   have a7 : a < 701 := by have := HAB.out; have := HB.out; have := H6.out; omega
   have b7 : b < 701 := by have := HB.out; have := H6.out; omega
   have W2 : IntKind.i64.wrap ((k : Int) + 1) = ((k + 1 : Nat) : Int) := by rw [IntKind.wrap_i64]; omega
   by_cases hx : i = a
   ·have e1 : (FloatKind.f64.format.order (F i) (F a) == some .eq) = true := by rw [F_eq i7 a7]; simp [hx]
    by_cases hy : k = b
    ·have e2 : (FloatKind.f64.format.order (F k) (F b) == some .eq) = true := by rw [F_eq k7 b7]; simp [hy]
     have g4 : (0 : Int) ≤ (i : Int) := by omega
     have g5 : (i : Int) ≤ (k : Int) := by have := hk.out; omega
     have g6 : (k : Int) ≤ (T.size : Int) := by omega
     have HX := Lib.hid hx
     have HY := Lib.hid hy
     clear hx hy hkle i7 k7 a7 b7 W2
     go_wp2_with fail
     go_ret
     exact ⟨by rw [← HX.out, ← HY.out]; rfl, rfl⟩
    ·have e2 : (FloatKind.f64.format.order (F k) (F b) == some .eq) = false := by rw [F_eq k7 b7]; simp [hy]
     have HN : Hid (i ≤ k + 1 ∧ (i = a → k + 1 ≤ b) ∧ (i ≠ a → k + 1 = i)) := Lib.hid ⟨by have := hk.out; omega, fun h => by have := hk.out.2.1 h; omega, fun h => absurd hx h⟩
     have HKL := Lib.hid hkle
     clear hx hy hkle i7 k7 a7 b7
     go_wp2_with fail
     go_roundw
     case rel => exact ⟨k + 1, by first | rfl | go_num, HN, by first | rfl | trivial⟩
     case measure => simp [intOf]; have := HKL.out; omega
   ·have e1 : (FloatKind.f64.format.order (F i) (F a) == some .eq) = false := by rw [F_eq i7 a7]; simp [hx]
    have HN : Hid (i + 1 ≤ a) := Lib.hid (by have := hi.out; omega)
    clear hx hkle i7 k7 a7 b7 W2
    have W1 := HW1.out
    go_wp2_with fail
    go_roundw
    case rel => exact ⟨i + 1, by first | rfl | go_num, HN, by first | rfl | trivial⟩
    case measure => simp [intOf]; have := HLE.out; omega
set_option maxRecDepth 100000 in
set_option maxHeartbeats 4000000 in
theorem rfill_any (T : ByteArray) (hT : T.size ≤ 600) (s : St) (hc : CapsOk T.size (bestC s)) (ps : List (Int × ByteArray)) (hz : sizeP ps ≤ 1000000) (pv : Value) (w : World) (hp : PartsAt w pv ps) :
  Calls Try.prog 94 #[pv, .string T, .agg (fLit s)] w fun e w' => ∃ O : ByteArray, e = .returned (.string O) ∧ O.toList = fillF T.toList ps (bestC s) ∧ Keep Nb w w' := by
 have HT := Lib.hid hT
 have HC := Lib.hid hc
 have HZ := Lib.hid hz
 have HP := Lib.hid hp
 obtain ⟨A, cap, rfl, hn1, hn2, hcell⟩ := hp
 have HCE := Lib.hid hcell
 have hn3 : ps.length ≤ 9223372036854775807 := by unfold maxLen at hn2; omega
 clear hT hc hz hcell hn1 hn2
 go_enter Try.func94, Try.ntmps94
 go_upto_region 1 with fail
 have HF1 : Hid (Blk (w.alloc (.cells (fLit s) 53)) w.heap.size (fLit s) 53 ∧ Keep Nb w (w.alloc (.cells (fLit s) 53))) := Lib.hid ⟨Blk.new w _ _, Keep.alloc (Keep.refl _ _) _⟩
 generalize w.alloc (.cells (fLit s) 53) = w1 at HF1 ⊢
 go_wp2_with fail
 go_loopw [7, 12] (fun o i wr => ∃ (k : Nat) (O : ByteArray), k ≤ ps.length ∧ i = .int .i64 (k : Int) ∧ o = .string O ∧ Hid (O.toList = fillF T.toList (ps.take k) (bestC s)) ∧ wr = w1) (fun _ i _ => ps.length - (intOf i).toNat)
 case atStart => exact ⟨0, ⟨#[]⟩, Nat.zero_le _, rfl, rfl, Lib.hid (by rw [ByteArray.toList_eq]; rfl), rfl⟩
 case round =>
  obtain ⟨k, O, hk, rfl, rfl, HO, rfl⟩ := hrel
  have hlen : O.size ≤ 1000000 := by
   rw [← toList_len, HO.out]
   have h1 := fillF_len (L := T.toList) (by rw [toList_len]; exact HT.out) (bestC s) (ps.take k)
   have h2 : sizeP (ps.take k) ≤ sizeP ps := by
    rcases Nat.lt_or_ge k ps.length with h | h
    ·have := sizeP_take ps k h; omega
    ·rw [List.take_of_length_le h]; exact Nat.le_refl _
   have := HZ.out
   omega
  have HLE := Lib.hid hlen
  clear hlen
  rcases Nat.lt_or_ge k ps.length with hlt | hge
  ·obtain ⟨b, off, rfl, c0, c1⟩ := HCE.out k hlt
   have d0 := HF1.out.2.cell c0 (fun h => h)
   have d1 := HF1.out.2.cell c1 (fun h => h)
   have lb := Nat.lt_of_lt_of_le (cell_lt c0) HF1.out.2.size
   clear c0 c1
   have hstep := fillF_take T.toList (bestC s) ps k hlt
   have hsz := sizeP_take ps k hlt
   generalize hx : ps[k] = x at d0 d1 hstep hsz
   obtain ⟨g, tx⟩ := x
   have hts : tx.size ≤ 1000000 := by have := HZ.out; simp only [] at hsz; omega
   have HST := Lib.hid hstep
   have HTS := Lib.hid hts
   clear hx hstep hsz hts
   simp only [] at d0 d1
   have i0 : (0 : Int) ≤ (k : Int) := by omega
   have i1 : (k : Int) < (ps.length : Int) := by omega
   by_cases g1 : g = -1
   ·subst g1
    have HQ : Hid (partF T.toList (bestC s) (-1, tx) = tx.toList) := Lib.hid (by simp [partF])
    have hs1 : ¬ 9223372036854775807 < O.size + tx.size := by have := HLE.out; have := HTS.out; omega
    have HN : Hid ((O ++ tx).toList = fillF T.toList (ps.take (k + 1)) (bestC s)) := Lib.hid (by rw [ba_append, HO.out, HST.out, HQ.out])
    go_wp2_with fail
    go_roundw
    case rel => exact ⟨k + 1, _, by omega, by go_num, rfl, HN, by first | rfl | trivial⟩
    case measure => simp [intOf]; omega
   ·have m0 : (g == -1) = false := beq_eq_false_iff_ne.2 g1
    by_cases g2 : 0 ≤ g
    ·by_cases g3 : g ≤ 9
     ·have m1 : decide (0 ≤ g) = true := by simpa using g2
      have m2 : decide (g ≤ 9) = true := by simpa using g3
      have lf := HF1.out.1.lt
      have h11 := HF1.out.1.cell (11 + g.toNat) (fLit_has s g g2 g3)
      have h1 := HF1.out.1.cell (1 + g.toNat) (fLit_grp s g g2 g3)
      cases hcg : bestC s g.toNat with
      | none =>
       have HQ : Hid (partF T.toList (bestC s) (g, tx) = []) := Lib.hid (by simp only [partF]; rw [if_neg g1, if_pos ⟨g2, g3⟩, hcg])
       have HN : Hid (O.toList = fillF T.toList (ps.take (k + 1)) (bestC s)) := Lib.hid (by rw [HO.out, HST.out, HQ.out, List.append_nil])
       rw [hcg] at h11 h1
       simp only [reV, imV, Option.isSome_none] at h1 h11
       have i0' : (0 : Int) ≤ g := g2
       have i1' : g < 10 := by omega
       clear hcg g1 g2 g3
       go_wp2_with fail
       go_roundw
       case rel => exact ⟨k + 1, O, by omega, by go_num, rfl, HN, by first | rfl | trivial⟩
       case measure => simp [intOf]; omega
      | some o =>
       obtain ⟨a, b⟩ := o
       have hab := HC.out _ _ _ hcg
       have HQ : Hid (partF T.toList (bestC s) (g, tx) = seg T.toList a b) := Lib.hid (by simp only [partF]; rw [if_neg g1, if_pos ⟨g2, g3⟩, hcg])
       rw [hcg] at h11 h1
       simp only [reV, imV, Option.isSome_some] at h1 h11
       have HAB := Lib.hid hab
       have i0' : (0 : Int) ≤ g := g2
       have i1' : g < 10 := by omega
       have hs1 : ¬ 9223372036854775807 < O.size + (T.extract a b).size := by have := HLE.out; have := HT.out; simp; omega
       have HN : Hid ((O ++ T.extract a b).toList = fillF T.toList (ps.take (k + 1)) (bestC s)) := Lib.hid (by rw [ba_append, ba_seg, HO.out, HST.out, HQ.out])
       obtain ⟨X, hX⟩ : ∃ X, X = T.extract a b := ⟨_, rfl⟩
       have HRT := Lib.hid (rtext_any T a b HAB.out.1 HAB.out.2 HT.out wr)
       rw [← hX] at hs1 HN HRT
       clear hX hab hcg g1 g2 g3
       go_wp2_with fail
       refine HRT.out.mono ?_
       rintro e wx ⟨rfl, rfl⟩
       go_wp2_with fail
       go_roundw
       case rel => exact ⟨k + 1, _, by omega, by go_num, rfl, HN, by first | rfl | trivial⟩
       case measure => simp [intOf]; omega
     ·have m1 : decide (0 ≤ g) = true := by simpa using g2
      have m2 : decide (g ≤ 9) = false := by simpa using g3
      have HQ : Hid (partF T.toList (bestC s) (g, tx) = []) := Lib.hid (by simp only [partF]; rw [if_neg g1, if_neg (fun h => g3 h.2)])
      have HN : Hid (O.toList = fillF T.toList (ps.take (k + 1)) (bestC s)) := Lib.hid (by rw [HO.out, HST.out, HQ.out, List.append_nil])
      clear g1 g2 g3
      go_wp2_with fail
      go_roundw
      case rel => exact ⟨k + 1, O, by omega, by go_num, rfl, HN, by first | rfl | trivial⟩
      case measure => simp [intOf]; omega
    ·have m1 : decide (0 ≤ g) = false := by simpa using g2
     have HQ : Hid (partF T.toList (bestC s) (g, tx) = []) := Lib.hid (by simp only [partF]; rw [if_neg g1, if_neg (fun h => g2 h.1)])
     have HN : Hid (O.toList = fillF T.toList (ps.take (k + 1)) (bestC s)) := Lib.hid (by rw [HO.out, HST.out, HQ.out, List.append_nil])
     clear g1 g2
     go_wp2_with fail
     go_roundw
     case rel => exact ⟨k + 1, O, by omega, by go_num, rfl, HN, by first | rfl | trivial⟩
     case measure => simp [intOf]; omega
  ·obtain rfl : k = ps.length := by omega
   have HN : Hid (O.toList = fillF T.toList ps (bestC s)) := Lib.hid (by rw [HO.out, List.take_length])
   go_wp2_with fail
   go_ret
   exact ⟨_, rfl, HN.out, HF1.out.2⟩
end Go.Proofs.Ytkidjbfapldmbaa
