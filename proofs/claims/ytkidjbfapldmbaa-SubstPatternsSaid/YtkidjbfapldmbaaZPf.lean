import Derived.Test.YtkidjbfapldmbaaZFna
import Derived.Test.YtkidjbfapldmbaaZWit
import Derived.Laws.StructEq
import Derived.ChangeKeysEq
import Derived.Test.YtkidjbfapldmbaaZPs
set_option linter.unusedVariables false
set_option linter.unusedSimpArgs false
namespace Go.Proofs.Ytkidjbfapldmbaa
open Go.RowKit P8
def reV : Option (Nat × Nat) → Nat
 | none => 0
 | some (a, _) => F a
def imV : Option (Nat × Nat) → Nat
 | none => 0
 | some (_, b) => F b
theorem grpV_eq (o : Option (Nat × Nat)) : grpV o = .complex .f64 (reV o) (imV o) := by cases o <;> rfl
def fLit (s : St) : Array Value := #[.complex .f64 (reV (bestC s 0)) (imV (bestC s 0)), .complex .f64 (reV (bestC s 0)) (imV (bestC s 0)), .complex .f64 (reV (bestC s 1)) (imV (bestC s 1)), .complex .f64 (reV (bestC s 2)) (imV (bestC s 2)), .complex .f64 (reV (bestC s 3)) (imV (bestC s 3)), .complex .f64 (reV (bestC s 4)) (imV (bestC s 4)), .complex .f64 (reV (bestC s 5)) (imV (bestC s 5)), .complex .f64 (reV (bestC s 6)) (imV (bestC s 6)), .complex .f64 (reV (bestC s 7)) (imV (bestC s 7)), .complex .f64 (reV (bestC s 8)) (imV (bestC s 8)), .complex .f64 (reV (bestC s 9)) (imV (bestC s 9)), .bool (bestC s 0).isSome, .bool (bestC s 1).isSome, .bool (bestC s 2).isSome, .bool (bestC s 3).isSome, .bool (bestC s 4).isSome, .bool (bestC s 5).isSome, .bool (bestC s 6).isSome, .bool (bestC s 7).isSome, .bool (bestC s 8).isSome, .bool (bestC s 9).isSome, .int .i64 (s.tries : Int)]
theorem fLit_eq (s : St) : (fndL s).toArray = fLit s := by simp only [fndL, fLit, grpV_eq, hasV]
theorem fLit_one (s : St) : (fLit s).all (·.oneCell') = true := by rw [← fLit_eq]; exact fnd_all s
theorem zero_lit : zeroFnd = fLit ⟨0, false, none⟩ := by simp [zeroFnd, fLit, bestC, reV, imV]
def PartsAt (w : World) (pv : Value) (ps : List (Int × ByteArray)) : Prop :=
 ∃ A cap, pv = .slice A ps.length cap ∧ ps.length ≤ cap ∧ cap ≤ maxLen ∧ ∀ (i : Nat) (h : i < ps.length), ∃ b off, A = some ⟨b, off, none⟩ ∧ w.cell? ⟨b, off + i * 2, none⟩ = some (.int .i64 ps[i].1) ∧ w.cell? ⟨b, off + i * 2 + 1, none⟩ = some (.string ps[i].2)
theorem PartsAt.keep {X : Nat → Prop} {w w' : World} {pv : Value} {ps : List (Int × ByteArray)} (h : PartsAt w pv ps) (hk : Keep X w w') (hx : ∀ k, k < w.heap.size → ¬ X k) : PartsAt w' pv ps := by
 obtain ⟨A, cap, h1, h2, h3, h4⟩ := h
 refine ⟨A, cap, h1, h2, h3, fun i hi => ?_⟩
 obtain ⟨b, off, e, c0, c1⟩ := h4 i hi
 exact ⟨b, off, e, hk.cell c0 (hx b (cell_lt c0)), hk.cell c1 (hx b (cell_lt c1))⟩
def partF (L : List UInt8) (c : Caps) (x : Int × ByteArray) : List UInt8 :=
 if x.1 = -1 then x.2.toList else if 0 ≤ x.1 ∧ x.1 ≤ 9 then (match c x.1.toNat with | some (a, b) => seg L a b | none => []) else []
def fillF (L : List UInt8) (ps : List (Int × ByteArray)) (c : Caps) : List UInt8 := ps.flatMap (partF L c)
def sizeP (ps : List (Int × ByteArray)) : Nat := (ps.map fun x => x.2.size + 600).sum
theorem seg_le (L : List UInt8) (i j : Nat) : (seg L i j).length ≤ L.length := by unfold seg; simp; omega
theorem partF_len {L : List UInt8} (hL : L.length ≤ 600) (c : Caps) (x : Int × ByteArray) : (partF L c x).length ≤ x.2.size + 600 := by
 unfold partF
 split
 ·rw [toList_len]; omega
 ·split
  ·split
   ·rename_i a b _; have := seg_le L a b; omega
   ·simp
  ·simp
theorem fillF_len {L : List UInt8} (hL : L.length ≤ 600) (c : Caps) : ∀ ps : List (Int × ByteArray), (fillF L ps c).length ≤ sizeP ps
 | [] => by simp [fillF, sizeP]
 | x :: r => by
  have h1 := fillF_len hL c r
  have h2 := partF_len hL c x
  simp only [fillF, sizeP, List.flatMap_cons, List.length_append, List.map_cons, List.sum_cons] at h1 ⊢
  omega
theorem fillF_take (L : List UInt8) (c : Caps) (ps : List (Int × ByteArray)) (k : Nat) (h : k < ps.length) : fillF L (ps.take (k + 1)) c = fillF L (ps.take k) c ++ partF L c ps[k] := by
 rw [List.take_succ_eq_append_getElem h, fillF, List.flatMap_append]; simp [fillF]
theorem sizeP_append (a b : List (Int × ByteArray)) : sizeP (a ++ b) = sizeP a + sizeP b := by simp [sizeP]
theorem sizeP_take (ps : List (Int × ByteArray)) (k : Nat) (h : k < ps.length) : sizeP (ps.take k) + ps[k].2.size + 600 ≤ sizeP ps := by
 have e : ps = ps.take k ++ ps[k] :: ps.drop (k + 1) := (List.take_append_drop k ps).symm.trans (by rw [List.drop_eq_getElem_cons h])
 have : sizeP ps = sizeP (ps.take k) + (ps[k].2.size + 600 + sizeP (ps.drop (k + 1))) := by
  have h1 := sizeP_append (ps.take k) (ps[k] :: ps.drop (k + 1))
  rw [← e] at h1
  rw [h1]
  simp only [sizeP, List.map_cons, List.sum_cons]
 omega
theorem lies_bu : LiesB 130 2 0 := ⟨by decide, by kernel_rfl, by decide⟩
theorem fLit_has (s : St) (g : Int) (h0 : 0 ≤ g) (h1 : g ≤ 9) : (fLit s)[11 + g.toNat]? = some (.bool ((bestC s g.toNat).isSome)) := by
 have : g = 0 ∨ g = 1 ∨ g = 2 ∨ g = 3 ∨ g = 4 ∨ g = 5 ∨ g = 6 ∨ g = 7 ∨ g = 8 ∨ g = 9 := by omega
 rcases this with rfl | rfl | rfl | rfl | rfl | rfl | rfl | rfl | rfl | rfl <;> rfl
theorem fLit_grp (s : St) (g : Int) (h0 : 0 ≤ g) (h1 : g ≤ 9) : (fLit s)[1 + g.toNat]? = some (.complex .f64 (reV (bestC s g.toNat)) (imV (bestC s g.toNat))) := by
 have : g = 0 ∨ g = 1 ∨ g = 2 ∨ g = 3 ∨ g = 4 ∨ g = 5 ∨ g = 6 ∨ g = 7 ∨ g = 8 ∨ g = 9 := by omega
 rcases this with rfl | rfl | rfl | rfl | rfl | rfl | rfl | rfl | rfl | rfl <;> rfl
def FillAt (w : World) (T : ByteArray) (s : St) (ps : List (Int × ByteArray)) (k : Nat) (wr : World) : Prop :=
 Blk wr w.heap.size (fLit s) 49 ∧ Keep Nb w wr ∧ ∃ q v, BoAt (w.heap.size + 1) (w.heap.size + 1) 0 #[q, v] 130 q v (Lib.byteCells (fillF T.toList (ps.take k) (bestC s))) wr
theorem FillAt.next {w : World} {T : ByteArray} {s : St} {ps : List (Int × ByteArray)} {k : Nat} {wr w2 : World} (h1 : Blk wr w.heap.size (fLit s) 49) (h2 : Keep Nb w wr)
  {q v : Value} {bs : List UInt8} (h3 : BoAt (w.heap.size + 1) (w.heap.size + 1) 0 #[q, v] 130 q v (Lib.byteCells bs) w2) (hk : KeepU (w.heap.size + 1) (w.heap.size + 1) wr w2) (e : fillF T.toList (ps.take k) (bestC s) = bs) : FillAt w T s ps k w2 :=
 ⟨hk.blk h1 (by omega) (by decide), h2.trans hk.low (fun b hb h => by omega), q, v, e ▸ h3⟩
set_option maxRecDepth 100000 in
set_option maxHeartbeats 4000000 in
theorem fill_any (T : ByteArray) (hT : T.size ≤ 600) (s : St) (hc : CapsOk T.size (bestC s)) (ps : List (Int × ByteArray)) (hz : sizeP ps ≤ 1000000) (pv : Value) (w : World) (hp : PartsAt w pv ps) :
  Calls Try.prog 54 #[pv, .string T, .agg (fLit s)] w fun e w' => e = .returned (.string ⟨(fillF T.toList ps (bestC s)).toArray⟩) ∧ Keep Nb w w' := by
 have HT := Lib.hid hT
 have HC := Lib.hid hc
 have HZ := Lib.hid hz
 have HP := Lib.hid hp
 obtain ⟨A, cap, rfl, hn1, hn2, hcell⟩ := hp
 have HCE := Lib.hid hcell
 have hn3 : ps.length ≤ 9223372036854775807 := by unfold maxLen at hn2; omega
 clear hT hc hz hcell hn1 hn2
 simp only [fLit]
 go_enter Try.func54, Try.ntmps54
 go_upto_region 2 with fail
 have e0 : #[.complex .f64 (reV (bestC s 0)) (imV (bestC s 0)), .complex .f64 (reV (bestC s 0)) (imV (bestC s 0)), .complex .f64 (reV (bestC s 1)) (imV (bestC s 1)), .complex .f64 (reV (bestC s 2)) (imV (bestC s 2)), .complex .f64 (reV (bestC s 3)) (imV (bestC s 3)), .complex .f64 (reV (bestC s 4)) (imV (bestC s 4)), .complex .f64 (reV (bestC s 5)) (imV (bestC s 5)), .complex .f64 (reV (bestC s 6)) (imV (bestC s 6)), .complex .f64 (reV (bestC s 7)) (imV (bestC s 7)), .complex .f64 (reV (bestC s 8)) (imV (bestC s 8)), .complex .f64 (reV (bestC s 9)) (imV (bestC s 9)), .bool (bestC s 0).isSome, .bool (bestC s 1).isSome, .bool (bestC s 2).isSome, .bool (bestC s 3).isSome, .bool (bestC s 4).isSome, .bool (bestC s 5).isSome, .bool (bestC s 6).isSome, .bool (bestC s 7).isSome, .bool (bestC s 8).isSome, .bool (bestC s 9).isSome, .int .i64 (s.tries : Int)] = fLit s := rfl
 rw [e0]
 clear e0
 have HF1 : Hid (FillAt w T s ps 0 ((w.alloc (.cells (fLit s) 49)).alloc (.cells #[.pointer none, .slice none 0 0] 130))) := Lib.hid
  ⟨(Blk.new w _ _).alloc _, Keep.alloc (Keep.alloc (Keep.refl _ _) _) _, _, _, Blk.new' (by simp) _ _, rfl, rfl, .inl rfl, ⟨by simp [fillF, Lib.byteCells], .inl ⟨rfl, by simp [fillF, Lib.byteCells]⟩⟩, by simp [Value.ownBlock], Nat.le_refl _⟩
 generalize (w.alloc (.cells (fLit s) 49)).alloc (.cells #[.pointer none, .slice none 0 0] 130) = w1 at HF1 ⊢
 go_wp2_with fail
 go_loopw [12] (fun i wr => ∃ k : Nat, k ≤ ps.length ∧ i = .int .i64 (k : Int) ∧ Hid (FillAt w T s ps k wr)) (fun i _ => ps.length - (intOf i).toNat)
 case atStart => exact ⟨0, Nat.zero_le _, rfl, HF1⟩
 case round =>
  clear HF1
  obtain ⟨k, hk, rfl, HF⟩ := hrel
  have hlen : (fillF T.toList (ps.take k) (bestC s)).length ≤ 1000000 := by
   have h1 := fillF_len (L := T.toList) (by rw [toList_len]; exact HT.out) (bestC s) (ps.take k)
   have h2 : sizeP (ps.take k) ≤ sizeP ps := by
    rcases Nat.lt_or_ge k ps.length with h | h
    ·have := sizeP_take ps k h; omega
    ·rw [List.take_of_length_le h]; exact Nat.le_refl _
   have := HZ.out
   omega
  have HLE := Lib.hid hlen
  clear hlen
  rcases Nat.lt_or_ge k ps.length with hlt | hge
  ·obtain ⟨b, off, rfl, c0, c1⟩ := HCE.out k hlt
   have HB := HF.out.1
   have HK := Lib.hid HF.out.2.1
   have d0 := HK.out.cell c0 (fun h => h)
   have d1 := HK.out.cell c1 (fun h => h)
   have lb := Nat.lt_of_lt_of_le (cell_lt c0) HK.out.size
   clear c0 c1
   obtain ⟨q, v, hBo⟩ := HF.out.2.2
   have HBO := Lib.hid hBo
   clear hBo HF
   have hstep := fillF_take T.toList (bestC s) ps k hlt
   have hsz := sizeP_take ps k hlt
   generalize hx : ps[k] = x at d0 d1 hstep hsz
   obtain ⟨g, tx⟩ := x
   have hts : tx.size ≤ 1000000 := by have := HZ.out; simp only [] at hsz; omega
   have HST := Lib.hid hstep
   have HTS := Lib.hid hts
   clear hx hstep hsz hts
   simp only [] at d0 d1
   have kA : ∀ wr' : World, Keep Nb wr' (wr'.alloc (.cells #[.int .i64 g, .string tx] 138)) := fun _ => Keep.alloc (Keep.refl _ _) _
   have KA := Lib.hid kA
   clear kA
   by_cases g1 : g = -1
   ·subst g1
    have HQ : Hid (partF T.toList (bestC s) (-1, tx) = tx.toList) := Lib.hid (by simp [partF])
    go_wp2_with fail
    refine (writeStringO_any (w.heap.size + 1) (w.heap.size + 1) 0 #[q, v] 130 q v (Lib.byteCells (fillF T.toList (ps.take k) (bestC s))) tx _ (HBO.out.keep (KA.out wr) (fun h => h) (fun _ _ h => h)) lies_bu (by rw [Lib.byteCells_length]; have := HLE.out; have := HTS.out; omega) (by have := HK.out.size; have := HB.lt; simp; omega)).mono ?_
    rintro e w2 ⟨rfl, v', hB2, hk2⟩
    have hB3 : BoAt (w.heap.size + 1) (w.heap.size + 1) 0 #[.pointer (some ⟨w.heap.size + 1, 0, none⟩), v'] 130 (.pointer (some ⟨w.heap.size + 1, 0, none⟩)) v' (Lib.byteCells (fillF T.toList (ps.take k) (bestC s) ++ tx.toList)) w2 := by
     have e : Lib.byteCells (fillF T.toList (ps.take k) (bestC s) ++ tx.toList) = Lib.byteCells (fillF T.toList (ps.take k) (bestC s)) ++ Lib.strCells tx := by
      rw [strCells_toList]; exact List.map_append
     rw [e]; exact hB2
    have HFz : Hid (FillAt w T s ps (k + 1) w2) := Lib.hid (FillAt.next (HB.alloc _) (Keep.trans HK.out (KA.out wr) (fun _ _ h => h)) hB3 hk2 (by rw [HST.out, HQ.out]))
    clear hB2 hB3 hk2
    go_wp2_with fail
    go_roundw
    case rel => exact ⟨k + 1, by omega, by go_num, HFz⟩
    case measure => simp [intOf]; omega
   ·have m0 : (g == -1) = false := beq_eq_false_iff_ne.2 g1
    by_cases g2 : 0 ≤ g
    ·by_cases g3 : g ≤ 9
     ·have m1 : decide (0 ≤ g) = true := by simpa using g2
      have m2 : decide (g ≤ 9) = true := by simpa using g3
      have lf := HB.lt
      have h11 := HB.cell (11 + g.toNat) (fLit_has s g g2 g3)
      have h1 := HB.cell (1 + g.toNat) (fLit_grp s g g2 g3)
      cases hcg : bestC s g.toNat with
      | none =>
       have HQ : Hid (partF T.toList (bestC s) (g, tx) = []) := Lib.hid (by simp only [partF]; rw [if_neg g1, if_pos ⟨g2, g3⟩, hcg])
       have HFz : Hid (FillAt w T s ps (k + 1) (wr.alloc (.cells #[.int .i64 g, .string tx] 138))) := Lib.hid (FillAt.next (HB.alloc _) (Keep.trans HK.out (KA.out wr) (fun _ _ h => h)) (HBO.out.keep (KA.out wr) (fun h => h) (fun _ _ h => h)) ((Keep.refl _ _).u _ _) (by rw [HST.out, HQ.out, List.append_nil]))
       rw [hcg] at h11 h1
       simp only [reV, imV, Option.isSome_none] at h1 h11
       have i0 : (0 : Int) ≤ g := g2
       have i1 : g < 10 := by omega
       clear hcg g1 g2 g3
       go_wp2_with fail
       go_roundw
       case rel => exact ⟨k + 1, by omega, by go_num, HFz⟩
       case measure => simp [intOf]; omega
      | some o =>
       obtain ⟨a, b⟩ := o
       have hab := HC.out _ _ _ hcg
       have HQ : Hid (partF T.toList (bestC s) (g, tx) = seg T.toList a b) := Lib.hid (by simp only [partF]; rw [if_neg g1, if_pos ⟨g2, g3⟩, hcg])
       rw [hcg] at h11 h1
       simp only [reV, imV, Option.isSome_some] at h1 h11
       have HAB := Lib.hid hab
       have i0 : (0 : Int) ≤ g := g2
       have i1 : g < 10 := by omega
       clear hab hcg g1 g2 g3
       go_wp2_with fail
       refine (text_any T a b HAB.out.1 HAB.out.2 HT.out _).mono ?_
       rintro e wx ⟨rfl, rfl⟩
       go_wp2_with fail
       refine (writeStringO_any (w.heap.size + 1) (w.heap.size + 1) 0 #[q, v] 130 q v (Lib.byteCells (fillF T.toList (ps.take k) (bestC s))) (T.extract a b) _ (HBO.out.keep (KA.out wr) (fun h => h) (fun _ _ h => h)) lies_bu (by rw [Lib.byteCells_length]; have := HLE.out; have := HT.out; simp; omega) (by have := HK.out.size; have := HB.lt; simp; omega)).mono ?_
       rintro e w2 ⟨rfl, v', hB2, hk2⟩
       have hB3 : BoAt (w.heap.size + 1) (w.heap.size + 1) 0 #[.pointer (some ⟨w.heap.size + 1, 0, none⟩), v'] 130 (.pointer (some ⟨w.heap.size + 1, 0, none⟩)) v' (Lib.byteCells (fillF T.toList (ps.take k) (bestC s) ++ seg T.toList a b)) w2 := by
        have e : Lib.byteCells (fillF T.toList (ps.take k) (bestC s) ++ seg T.toList a b) = Lib.byteCells (fillF T.toList (ps.take k) (bestC s)) ++ Lib.strCells (T.extract a b) := by
         rw [strCells_seg]; exact List.map_append
        rw [e]; exact hB2
       have HFz : Hid (FillAt w T s ps (k + 1) w2) := Lib.hid (FillAt.next (HB.alloc _) (Keep.trans HK.out (KA.out wr) (fun _ _ h => h)) hB3 hk2 (by rw [HST.out, HQ.out]))
       clear hB2 hB3 hk2
       go_wp2_with fail
       go_roundw
       case rel => exact ⟨k + 1, by omega, by go_num, HFz⟩
       case measure => simp [intOf]; omega
     ·have m1 : decide (0 ≤ g) = true := by simpa using g2
      have m2 : decide (g ≤ 9) = false := by simpa using g3
      have HQ : Hid (partF T.toList (bestC s) (g, tx) = []) := Lib.hid (by simp only [partF]; rw [if_neg g1, if_neg (fun h => g3 h.2)])
      have HFz : Hid (FillAt w T s ps (k + 1) (wr.alloc (.cells #[.int .i64 g, .string tx] 138))) := Lib.hid (FillAt.next (HB.alloc _) (Keep.trans HK.out (KA.out wr) (fun _ _ h => h)) (HBO.out.keep (KA.out wr) (fun h => h) (fun _ _ h => h)) ((Keep.refl _ _).u _ _) (by rw [HST.out, HQ.out, List.append_nil]))
      clear g1 g2 g3
      go_wp2_with fail
      go_roundw
      case rel => exact ⟨k + 1, by omega, by go_num, HFz⟩
      case measure => simp [intOf]; omega
    ·have m1 : decide (0 ≤ g) = false := by simpa using g2
     have HQ : Hid (partF T.toList (bestC s) (g, tx) = []) := Lib.hid (by simp only [partF]; rw [if_neg g1, if_neg (fun h => g2 h.1)])
     have HFz : Hid (FillAt w T s ps (k + 1) (wr.alloc (.cells #[.int .i64 g, .string tx] 138))) := Lib.hid (FillAt.next (HB.alloc _) (Keep.trans HK.out (KA.out wr) (fun _ _ h => h)) (HBO.out.keep (KA.out wr) (fun h => h) (fun _ _ h => h)) ((Keep.refl _ _).u _ _) (by rw [HST.out, HQ.out, List.append_nil]))
     clear g1 g2
     go_wp2_with fail
     go_roundw
     case rel => exact ⟨k + 1, by omega, by go_num, HFz⟩
     case measure => simp [intOf]; omega
  ·obtain rfl : k = ps.length := by omega
   obtain ⟨h1, h2, q, v, h3⟩ := HF.out
   rw [List.take_length] at h3
   have H2 := Lib.hid h2
   have H3 := Lib.hid h3
   clear h1 h2 h3 HF
   go_wp2_with fail
   refine (stringO_any (w.heap.size + 1) (w.heap.size + 1) 0 #[q, v] 130 q v _ wr H3.out (by have := H3.out.blk.lt; omega)).mono ?_
   rintro e w2 ⟨rfl, hk2⟩
   go_wp2_with fail
   go_ret
   exact ⟨rfl, Keep.trans H2.out hk2.low (fun b hb h => by omega)⟩
end Go.Proofs.Ytkidjbfapldmbaa
