import Derived.Test.YtkidjbfapldmbaaZRpf
import Derived.Test.YtkidjbfapldmbaaZQf
import Derived.Test.YtkidjbfapldmbaaZRformed
import Derived.Test.YtkidjbfapldmbaaZLawFnd
set_option linter.unusedVariables false
set_option linter.unusedSimpArgs false
namespace Go.Proofs.Ytkidjbfapldmbaa
open Go.RowKit P8
set_option maxRecDepth 100000 in
set_option maxHeartbeats 4000000 in
theorem rput_wrong (N : Nd) (hcn : count N ≤ 900000) (A : Option Addr) (cap : Nat) (pv : Value) (nth : Int) (all : Bool) (T : ByteArray) (hW : ¬ (formedT N = true ∧ T.size ≤ 600 ∧ 0 ≤ nth)) (w : World) (hl : Lies w N (.slice A N.l.length cap)) :
  Calls Try.prog 72 #[.agg (Nd.row N (.slice A N.l.length cap)), pv, .int .i64 nth, .bool all, .string T] w fun e w' => e = .returned (.tuple #[.string ⟨#[]⟩, .int .i64 0, .int .i64 1]) ∧ Keep Nb w w' := by
 have HFM := Lib.hid (fun wx hx => rformed_any N hcn (.slice A N.l.length cap) wx hx)
 have HL := Lib.hid hl
 clear hcn hl
 simp only [Nd.row]
 go_enter Try.func72, Try.ntmps72
 go_upto_region 1 with fail
 have hb0 : Blk (w.alloc (.cells (Nd.row N (.slice A N.l.length cap)) 27)) w.heap.size (Nd.row N (.slice A N.l.length cap)) 27 := Blk.new w _ _
 have hk0 : Keep Nb w (w.alloc (.cells (Nd.row N (.slice A N.l.length cap)) 27)) := Keep.alloc (Keep.refl _ _) _
 have hx : w.alloc (.cells #[.int .i64 N.h.k, .int .u8 N.h.c, .int .u64 N.h.s0, .int .u64 N.h.s1, .int .u64 N.h.s2, .int .u64 N.h.s3, .int .i64 N.h.n, .int .i64 N.h.mn, .int .i64 N.h.mx, .slice A N.l.length cap] 27) = w.alloc (.cells (Nd.row N (.slice A N.l.length cap)) 27) := rfl
 rw [hx]; clear hx
 generalize w.alloc (.cells (Nd.row N (.slice A N.l.length cap)) 27) = w1 at hb0 hk0 ⊢
 go_wp2_with (refine wpList_load_row rfl 27 (.tmp 5) rfl w.heap.size rfl 27 _ (0, 0) _ hb0 Try.underlying27 rfl (by kernel_rfl) ?_)
 refine (HFM.out w1 (Lies_keep hk0 HL.out)).mono ?_
 rintro e w2 ⟨rfl, kd⟩
 have HB2 := Lib.hid (hb0.keep kd (fun h => h))
 have HK2 := Lib.hid (hk0.trans kd (fun _ _ h => h))
 clear hb0 hk0 kd
 cases hf : formedT N with
 | false =>
  clear hf hW
  go_wp2_with fail
  go_ret3
  exact ⟨rfl, HK2.out⟩
 | true =>
  by_cases h6 : T.size ≤ 600
  ·have m1 : decide ((600 : Int) < (T.size : Int)) = false := by simp; omega
   have m1' : decide (600 < T.size) = false := by simp; omega
   have h7 : nth < 0 := by
    rcases Int.lt_or_le nth 0 with h | h
    ·exact h
    ·exact absurd ⟨hf, h6, h⟩ hW
   have m2 : decide (nth < 0) = true := by simpa using h7
   clear hf hW h6 h7
   go_wp2_with fail
   go_ret3
   exact ⟨rfl, HK2.out⟩
  ·have m1 : decide ((600 : Int) < (T.size : Int)) = true := by simp; omega
   have m1' : decide (600 < T.size) = true := by simp; omega
   clear hf hW h6
   go_wp2_with fail
   go_ret3
   exact ⟨rfl, HK2.out⟩
theorem step_same {L : List UInt8} {fl : Caps → List UInt8} {m : Nat} {P : PS} {s : St} {a b : Nat} (h : ¬ (a = b ∧ (a : Int) = P.last)) (h2 : a = b) : stepP L fl m P s a b = ⟨P.out ++ seg L P.pos a ++ (if m ≤ P.cnt + 1 then fl (bestC s) else seg L a b) ++ seg L a (a + 1), a + 1, -1, P.tries + s.tries, P.cnt + 1, if m ≤ P.cnt + 1 then P.pt + 1 else P.pt⟩ := by
 unfold stepP
 rw [if_neg h, if_pos h2]
theorem step_far {L : List UInt8} {fl : Caps → List UInt8} {m : Nat} {P : PS} {s : St} {a b : Nat} (h2 : ¬ a = b) : stepP L fl m P s a b = ⟨P.out ++ seg L P.pos a ++ (if m ≤ P.cnt + 1 then fl (bestC s) else seg L a b), b, b, P.tries + s.tries, P.cnt + 1, if m ≤ P.cnt + 1 then P.pt + 1 else P.pt⟩ := by
 unfold stepP
 rw [if_neg (fun h => h2 h.1), if_neg h2]
def RlAt (w : World) (N : Nd) (S : Value) (T : ByteArray) (F : Nat → St) (fl : Caps → List UInt8) (m : Nat) (all : Bool) (R : Option PS) (P : PS) (O : ByteArray) (wr : World) : Prop :=
 O.toList = P.out ∧ Keep Nb w wr ∧ Blk wr w.heap.size (Nd.row N S) 27 ∧ (∃ k, putS F T.toList fl m all k P = R ∧ T.toList.length + 1 ≤ k + P.pos) ∧ Small T.toList.length P
theorem RlAt.next {w : World} {N : Nd} {S : Value} {T : ByteArray} {F : Nat → St} {fl : Caps → List UInt8} {m : Nat} {all : Bool} {R : Option PS} {P : PS} {wz : World} {s : St} {a b k : Nat} {O : ByteArray} (hF : F P.pos = s)
  (hgo : P.pos ≤ T.toList.length ∧ (all = true ∨ P.cnt < m)) (hb : ¬ (s.over = true ∨ 3000 < P.tries + s.tries)) (h3 : bestC s 0 = some (a, b)) (hs : P.pos ≤ a ∧ a ≤ b ∧ b ≤ T.toList.length)
  (hS : putS F T.toList fl m all (k + 1) P = R) (hk : T.toList.length + 1 ≤ k + 1 + P.pos) (hsm : Small T.toList.length P) (hn : T.toList.length ≤ 600) (hfl : (fl (bestC s)).length ≤ 1000000)
  (hO : O.toList = (stepP T.toList fl m P s a b).out) (hB : Blk wz w.heap.size (Nd.row N S) 27) (hK : Keep Nb w wz) : RlAt w N S T F fl m all R (stepP T.toList fl m P s a b) O wz := by
 subst hF
 have hp := step_pos (L := T.toList) (fl := fl) (nth := m) P (F P.pos) hs.2.1
 refine ⟨hO, hK, hB, ⟨k, ?_, by omega⟩, step_small hn hfl hsm hs.1 hs.2.1 hs.2.2 (by omega)⟩
 rw [putS_some hgo hb h3] at hS
 exact hS
set_option maxRecDepth 100000 in
set_option maxHeartbeats 16000000 in
theorem rput_main (N : Nd) (hcn : count N ≤ 900000) (hN : formedT N = true) (A : Option Addr) (cap : Nat) (ps : List (Int × ByteArray)) (hz : sizeP ps ≤ 1000000) (pv : Value) (nth : Int) (h0 : 0 ≤ nth) (m : Nat) (hm : max nth 1 = (m : Int)) (all : Bool) (T : ByteArray) (hT : T.size ≤ 600)
  (w : World) (hl : Lies w N (.slice A N.l.length cap)) (hp : PartsAt w pv ps) (R : Option PS) (kk : Nat) (hk : T.toList.length + 1 ≤ kk) (hR : putS (found T.toList false N (formed_ok hN)) T.toList (fillF T.toList ps) m all kk begP = R) (V : Value) (hV1 : ps.all partOk = true → V = putW T.toList R) (hV2 : ¬ ps.all partOk = true → V = .tuple #[.string ⟨#[]⟩, .int .i64 0, .int .i64 1]) :
  Calls Try.prog 72 #[.agg (Nd.row N (.slice A N.l.length cap)), pv, .int .i64 nth, .bool all, .string T] w fun e w' => e = .returned V ∧ Keep Nb w w' := by
 have hfm := fun wx hx => rformed_any N hcn (.slice A N.l.length cap) wx hx
 rw [hN] at hfm
 have HFM := Lib.hid hfm
 have HL := Lib.hid hl
 have HP := Lib.hid hp
 have HZ := Lib.hid hz
 have HT := Lib.hid hT
 have HM := Lib.hid hm
 have HCN := Lib.hid hcn
 have HV1 := Lib.hid hV1
 have HV2 := Lib.hid hV2
 clear hV1 hV2
 have HLT : Hid (T.toList.length ≤ 600) := Lib.hid (by rw [toList_len]; exact hT)
 have HST : Hid (∃ k, putS (found T.toList false N (formed_ok hN)) T.toList (fillF T.toList ps) m all k begP = R ∧ T.toList.length + 1 ≤ k + begP.pos) := Lib.hid ⟨kk, hR, by simpa [begP] using hk⟩
 have m1 : decide ((600 : Int) < (T.size : Int)) = false := by simp; omega
 have m1' : decide (600 < T.size) = false := by simp; omega
 have m2 : decide (nth < 0) = false := by simp; omega
 obtain ⟨A2, cap2, rfl, hn1, hn2, hcell⟩ := hp
 have HCE := Lib.hid hcell
 have hn3 : ps.length ≤ 9223372036854775807 := by unfold maxLen at hn2; omega
 clear hfm hcn hl hz hT hm hk hR hcell hn1 hn2 h0
 simp only [Nd.row]
 go_enter Try.func72, Try.ntmps72
 go_upto_region 1 with fail
 have hb0 : Blk (w.alloc (.cells (Nd.row N (.slice A N.l.length cap)) 27)) w.heap.size (Nd.row N (.slice A N.l.length cap)) 27 := Blk.new w _ _
 have hk0 : Keep Nb w (w.alloc (.cells (Nd.row N (.slice A N.l.length cap)) 27)) := Keep.alloc (Keep.refl _ _) _
 have hx : w.alloc (.cells #[.int .i64 N.h.k, .int .u8 N.h.c, .int .u64 N.h.s0, .int .u64 N.h.s1, .int .u64 N.h.s2, .int .u64 N.h.s3, .int .i64 N.h.n, .int .i64 N.h.mn, .int .i64 N.h.mx, .slice A N.l.length cap] 27) = w.alloc (.cells (Nd.row N (.slice A N.l.length cap)) 27) := rfl
 rw [hx]; clear hx
 generalize w.alloc (.cells (Nd.row N (.slice A N.l.length cap)) 27) = w1 at hb0 hk0 ⊢
 go_wp2_with (refine wpList_load_row rfl 27 (.tmp 5) rfl w.heap.size rfl 27 _ (0, 0) _ hb0 Try.underlying27 rfl (by kernel_rfl) ?_)
 refine (HFM.out w1 (Lies_keep hk0 HL.out)).mono ?_
 rintro e w2 ⟨rfl, kd⟩
 have HB2 := Lib.hid (hb0.keep kd (fun h => h))
 have HK2 := Lib.hid (hk0.trans kd (fun _ _ h => h))
 clear hb0 hk0 kd
 go_wp2_with fail
 go_loopw [39] (fun i wr => ∃ k : Nat, k ≤ ps.length ∧ i = .int .i64 (k : Int) ∧ Hid ((ps.take k).all partOk = true) ∧ wr = w2) (fun i _ => ps.length - (intOf i).toNat)
 case atStart => exact ⟨0, Nat.zero_le _, rfl, Lib.hid (by simp), rfl⟩
 case round =>
  obtain ⟨k, hk, rfl, HR, rfl⟩ := hrel
  rcases Nat.lt_or_ge k ps.length with hlt | hge
  ·obtain ⟨b, off, rfl, c0, c1⟩ := HCE.out k hlt
   have d0 := HK2.out.cell c0 (fun h => h)
   have lb := Nat.lt_of_lt_of_le (cell_lt c0) HK2.out.size
   have hst : (ps.take (k + 1)).all partOk = ((ps.take k).all partOk && partOk ps[k]) := by rw [List.take_succ_eq_append_getElem hlt, List.all_append]; simp
   have hall : partOk ps[k] = false → ¬ ps.all partOk = true := fun h ha => by
    have := List.all_eq_true.1 ha ps[k] (List.getElem_mem hlt)
    rw [h] at this; cases this
   generalize ps[k] = x at d0 c1 hst hall
   obtain ⟨g, tx⟩ := x
   have HSTT := Lib.hid hst
   have HAL := Lib.hid hall
   clear c0 c1 hst hall
   simp only [] at d0
   have i0 : (0 : Int) ≤ (k : Int) := by omega
   have i1 : (k : Int) < (ps.length : Int) := by omega
   by_cases g2 : g < -1
   ·have n1 : decide (g < -1) = true := by simpa using g2
    obtain rfl := HV2.out ((HAL.out (by unfold partOk; simp only [Bool.and_eq_false_iff, decide_eq_false_iff_not]; left; omega)))
    clear g2
    go_wp2_with fail
    go_ret3
    exact ⟨rfl, HK2.out⟩
   ·have n1 : decide (g < -1) = false := by simpa using g2
    by_cases g3 : 9 < g
    ·have n2 : decide (9 < g) = true := by simpa using g3
     obtain rfl := HV2.out ((HAL.out (by unfold partOk; simp only [Bool.and_eq_false_iff, decide_eq_false_iff_not]; right; omega)))
     clear g2 g3
     go_wp2_with fail
     go_ret3
     exact ⟨rfl, HK2.out⟩
    ·have n2 : decide (9 < g) = false := by simpa using g3
     have HR2 : Hid ((ps.take (k + 1)).all partOk = true) := Lib.hid (by rw [HSTT.out, HR.out]; unfold partOk; simp; omega)
     clear g2 g3
     go_wp2_with fail
     go_roundw
     case rel => exact ⟨k + 1, by omega, by go_num, HR2, by first | rfl | trivial⟩
     case measure => simp [intOf]; omega
  ·obtain rfl : k = ps.length := by omega
   have hall := HR.out
   rw [List.take_length] at hall
   have hM := HM.out
   obtain rfl := HV1.out hall
   have HRL : Hid (RlAt w N (.slice A N.l.length cap) T (found T.toList false N (formed_ok hN)) (fillF T.toList ps) m all R begP ⟨#[]⟩ wr) := Lib.hid ⟨by rw [ByteArray.toList_eq]; rfl, HK2.out, HB2.out, HST.out, by simp [Small, begP]⟩
   clear hall HR HB2 HK2 HST HCE m1 m1' m2
   go_upto_region 10 with fail
   clear hM
   go_wp2_with fail
   go_loopw [14, 15, 16, 17, 18, 19] (fun o c u t p l wz => ∃ (P : PS) (O : ByteArray), o = .string O ∧ c = .int .i64 (P.cnt : Int) ∧ u = .int .i64 (P.pt : Int) ∧ t = .int .i64 (P.tries : Int) ∧ p = .int .i64 (P.pos : Int) ∧ l = .int .i64 P.last ∧ Hid (RlAt w N (.slice A N.l.length cap) T (found T.toList false N (formed_ok hN)) (fillF T.toList ps) m all R P O wz)) (fun _ _ _ _ p _ _ => T.size + 1 - (intOf p).toNat)
   case atStart => exact ⟨begP, ⟨#[]⟩, rfl, rfl, rfl, rfl, rfl, rfl, HRL⟩
   case round =>
    clear HRL
    obtain ⟨P, O, rfl, rfl, rfl, rfl, rfl, rfl, HLA⟩ := hrel
    obtain ⟨hO, hK, hB, hS, hSM⟩ := HLA.out
    have HO := Lib.hid hO
    have HK := Lib.hid hK
    have HB := Lib.hid hB
    have HSM := Lib.hid hSM
    have HOS : Hid (O.size ≤ 700000000) := Lib.hid (by have := HLT.out; unfold Small at hSM; rw [← toList_len, hO]; omega)
    clear hO hK hB hSM HLA
    by_cases hgo : P.pos ≤ T.toList.length ∧ (all = true ∨ P.cnt < m)
    rotate_left
    ·have HRW : Hid (some P = R) := Lib.hid (by obtain ⟨k, hk, _⟩ := hS; rw [← hk, putS_stop hgo])
     clear hS
     by_cases h1 : P.pos ≤ T.size
     ·have m1 : decide ((P.pos : Int) ≤ (T.size : Int)) = true := by simp; omega
      obtain ⟨rfl, h3⟩ : all = false ∧ ¬ P.cnt < m := by
       cases all with
       | true => exact absurd ⟨by rw [toList_len]; exact h1, .inl rfl⟩ hgo
       | false => exact ⟨rfl, fun h => hgo ⟨by rw [toList_len]; exact h1, .inr h⟩⟩
      have m2 : decide ((P.cnt : Int) < (m : Int)) = false := by simp; omega
      have m3 : decide (P.cnt < m) = false := by simpa using h3
      have m4 : decide (P.pos ≤ T.size) = true := by simpa using h1
      clear hgo h1 h3
      obtain ⟨mm, hmm⟩ : ∃ mm, mm = min P.pos T.size := ⟨_, rfl⟩
      have hmin : min (P.pos : Int) (T.size : Int) = (mm : Int) := by omega
      have i0 : (0 : Int) ≤ (mm : Int) := by omega
      have i1 : (mm : Int) ≤ (T.size : Int) := by omega
      have hs1 : ¬ 9223372036854775807 < O.size + (T.extract mm T.size).size := by have := HOS.out; have := HT.out; simp; omega
      have HX : Hid ((O ++ T.extract mm T.size).toList = P.out ++ T.toList.drop P.pos) := Lib.hid (by
       rw [ba_append, ba_seg, HO.out, seg_drop (by rw [toList_len]; exact Nat.le_refl _), hmm]
       congr 1
       by_cases h : P.pos ≤ T.size
       ·rw [Nat.min_eq_left h]
       ·rw [Nat.min_eq_right (by omega), List.drop_eq_nil_of_le (by rw [toList_len]; exact Nat.le_refl _), List.drop_eq_nil_of_le (by rw [toList_len]; omega)])
      clear hmm
      go_upto_region 33 with fail
      generalize O ++ T.extract mm T.size = Z at HX ⊢
      have HZZ : Hid (Z.size = (P.out ++ T.toList.drop P.pos).length) := Lib.hid (by rw [← HX.out, toList_len])
      clear hs1 hmin i0 i1
      by_cases hbig : 600 < (P.out ++ T.toList.drop P.pos).length
      ·have m9 : decide ((600 : Int) < (Z.size : Int)) = true := by rw [HZZ.out]; simp only [decide_eq_true_eq]; omega
       have m9' : decide (600 < Z.size) = true := by rw [HZZ.out]; simpa using hbig
       have HE : Hid (Ending.returned (.tuple #[.string ⟨#[]⟩, .int .i64 0, .int .i64 14]) = .returned (putW T.toList R)) := Lib.hid (by rw [← HRW.out, putW, if_pos hbig])
       clear hbig
       go_wp2_with fail
       go_ret3
       exact ⟨HE.out, HK.out⟩
      ·have m9 : decide ((600 : Int) < (Z.size : Int)) = false := by rw [HZZ.out]; simp only [decide_eq_false_iff_not]; omega
       have m9' : decide (600 < Z.size) = false := by rw [HZZ.out]; simpa using hbig
       have HE : Hid (Ending.returned (.tuple #[.string Z, .int .i64 (P.pt : Int), .int .i64 0]) = .returned (putW T.toList R)) := Lib.hid (by
        rw [← HRW.out, putW, if_neg hbig, ← HX.out]
        have e : (⟨Z.toList.toArray⟩ : ByteArray) = Z := by rw [ByteArray.toList_eq]
        rw [e])
       clear hbig
       go_wp2_with fail
       go_ret3
       exact ⟨HE.out, HK.out⟩
     ·have m1 : decide ((P.pos : Int) ≤ (T.size : Int)) = false := by simp; omega
      have m4 : decide (P.pos ≤ T.size) = false := by simpa using h1
      clear hgo h1
      obtain ⟨mm, hmm⟩ : ∃ mm, mm = min P.pos T.size := ⟨_, rfl⟩
      have hmin : min (P.pos : Int) (T.size : Int) = (mm : Int) := by omega
      have i0 : (0 : Int) ≤ (mm : Int) := by omega
      have i1 : (mm : Int) ≤ (T.size : Int) := by omega
      have hs1 : ¬ 9223372036854775807 < O.size + (T.extract mm T.size).size := by have := HOS.out; have := HT.out; simp; omega
      have HX : Hid ((O ++ T.extract mm T.size).toList = P.out ++ T.toList.drop P.pos) := Lib.hid (by
       rw [ba_append, ba_seg, HO.out, seg_drop (by rw [toList_len]; exact Nat.le_refl _), hmm]
       congr 1
       by_cases h : P.pos ≤ T.size
       ·rw [Nat.min_eq_left h]
       ·rw [Nat.min_eq_right (by omega), List.drop_eq_nil_of_le (by rw [toList_len]; exact Nat.le_refl _), List.drop_eq_nil_of_le (by rw [toList_len]; omega)])
      clear hmm
      go_upto_region 33 with fail
      generalize O ++ T.extract mm T.size = Z at HX ⊢
      have HZZ : Hid (Z.size = (P.out ++ T.toList.drop P.pos).length) := Lib.hid (by rw [← HX.out, toList_len])
      clear hs1 hmin i0 i1
      by_cases hbig : 600 < (P.out ++ T.toList.drop P.pos).length
      ·have m9 : decide ((600 : Int) < (Z.size : Int)) = true := by rw [HZZ.out]; simp only [decide_eq_true_eq]; omega
       have m9' : decide (600 < Z.size) = true := by rw [HZZ.out]; simpa using hbig
       have HE : Hid (Ending.returned (.tuple #[.string ⟨#[]⟩, .int .i64 0, .int .i64 14]) = .returned (putW T.toList R)) := Lib.hid (by rw [← HRW.out, putW, if_pos hbig])
       clear hbig
       go_wp2_with fail
       go_ret3
       exact ⟨HE.out, HK.out⟩
      ·have m9 : decide ((600 : Int) < (Z.size : Int)) = false := by rw [HZZ.out]; simp only [decide_eq_false_iff_not]; omega
       have m9' : decide (600 < Z.size) = false := by rw [HZZ.out]; simpa using hbig
       have HE : Hid (Ending.returned (.tuple #[.string Z, .int .i64 (P.pt : Int), .int .i64 0]) = .returned (putW T.toList R)) := Lib.hid (by
        rw [← HRW.out, putW, if_neg hbig, ← HX.out]
        have e : (⟨Z.toList.toArray⟩ : ByteArray) = Z := by rw [ByteArray.toList_eq]
        rw [e])
       clear hbig
       go_wp2_with fail
       go_ret3
       exact ⟨HE.out, HK.out⟩
    ·have HGO := Lib.hid hgo
     have h1 : P.pos ≤ T.size := by have := hgo.1; rwa [toList_len] at this
     have HPS := Lib.hid h1
     have m1 : decide ((P.pos : Int) ≤ (T.size : Int)) = true := by simp; omega
     have m4 : decide (P.pos ≤ T.size) = true := by simpa using h1
     have HTE : Hid (((all : Bool) || decide (P.cnt < m)) = true) := Lib.hid (by rcases hgo.2 with h | h <;> simp [h])
     obtain ⟨k, hk1, hk2⟩ := hS
     obtain ⟨k, rfl⟩ : ∃ j, k = j + 1 := ⟨k - 1, by have := hgo.1; omega⟩
     have HS1 := Lib.hid hk1
     have HS2 := Lib.hid hk2
     have fok := found_ok T.toList N (formed_ok hN) P.pos hgo.1
     have hv : findV N T (P.pos : Int) false = findW (found T.toList false N (formed_ok hN) P.pos) := by
      rw [findV, dif_pos ⟨hN, HT.out, by omega, by omega⟩]; rfl
     have hF := fun wx hx => rfind_any N HCN.out A cap T (P.pos : Int) false wx hx
     rw [hv] at hF
     clear hk1 hk2 hv
     generalize hs : found T.toList false N (formed_ok hN) P.pos = s at fok hF
     have HFO := Lib.hid fok
     have HSS := Lib.hid hs
     have HLW : Hid (Lies wr N (.slice A N.l.length cap)) := Lib.hid (Lies_keep HK.out HL.out)
     have HF := Lib.hid hF
     clear hgo h1 hs fok hF
     go_upto_region 12 with fail
     go_cut [70] (fun x wx => x = .bool true ∧ wx = wr)
     case first =>
      cases all with
      | true =>
       go_wp2_with fail
       go_meet
       exact ⟨rfl, rfl⟩
      | false =>
       have m2 : decide (P.cnt < m) = true := by simpa using HTE.out
       have m3 : decide ((P.cnt : Int) < (m : Int)) = true := by simpa using m2
       go_wp2_with fail
       go_meet
       exact ⟨rfl, rfl⟩
     case rest =>
     obtain ⟨rfl, rfl⟩ := hcut
     clear m1 m4 HTE
     by_cases hov : s.over = true
     ·have HE : Hid (Ending.returned (.tuple #[.string ⟨#[]⟩, .int .i64 0, .int .i64 12]) = .returned (putW T.toList R)) := Lib.hid (by rw [← HS1.out, putS_bad HGO.out (by rw [HSS.out]; exact .inl hov)]; rfl)
      have hF := HF.out
      rw [findW, if_pos hov, zero_lit] at hF
      have HF := Lib.hid hF
      have HONE := Lib.hid (fLit_one ⟨0, false, none⟩)
      clear hov hF
      have hb := HB.out
      go_wp2_with (refine wpList_load_row rfl 27 (.tmp 5) rfl w.heap.size rfl 27 _ (0, 0) _ hb Try.underlying27 rfl (by kernel_rfl) ?_)
      refine (HF.out _ HLW.out).mono ?_
      rintro e w5 ⟨rfl, hk5⟩
      have HK5 := Lib.hid (HK.out.trans hk5 (fun _ _ h => h))
      clear hk5 hb
      have hzb : Blk (w5.alloc (.cells zeroFnd 53)) w5.heap.size zeroFnd 53 := Blk.new w5 _ _
      go_upto_region 14 with (refine wpList_store_row rfl 53 (.tmp 20) (.tmp 76) rfl w5.heap.size _ rfl rfl 53 _ hzb sizeRf rfl HONE.out ?_)
      have hx : ∀ V : Array Value, (w5.alloc (.cells #[.complex .f64 0 0, .complex .f64 0 0, .complex .f64 0 0, .complex .f64 0 0, .complex .f64 0 0, .complex .f64 0 0, .complex .f64 0 0, .complex .f64 0 0, .complex .f64 0 0, .complex .f64 0 0, .complex .f64 0 0, .bool false, .bool false, .bool false, .bool false, .bool false, .bool false, .bool false, .bool false, .bool false, .bool false, .int .i64 0] 53)).setRow w5.heap.size V = (w5.alloc (.cells zeroFnd 53)).setRow w5.heap.size V := fun _ => rfl
      rw [hx]
      clear hx
      go_wp2_with fail
      go_ret3
      exact ⟨HE.out, Keep.setRow (Keep.alloc HK5.out _) (Or.inl HK5.out.size) _⟩
     ·have ho : s.over = false := by simpa using hov
      obtain ⟨f3, f4, f5⟩ := HFO.out.2 ho
      have hF := HF.out
      rw [findW, if_neg hov, fLit_eq, f4] at hF
      have HF := Lib.hid hF
      have HCK : Hid (CapsOk T.size (bestC s)) := Lib.hid (by rwa [toList_len] at f3)
      have HFS := Lib.hid f5
      have HONE := Lib.hid (fLit_one s)
      have HNO := Lib.hid hov
      clear hov ho f3 f4 f5 hF
      have hb := HB.out
      go_wp2_with (refine wpList_load_row rfl 27 (.tmp 5) rfl w.heap.size rfl 27 _ (0, 0) _ hb Try.underlying27 rfl (by kernel_rfl) ?_)
      refine (HF.out _ HLW.out).mono ?_
      rintro e w5 ⟨rfl, hk5⟩
      have HK5 := Lib.hid (HK.out.trans hk5 (fun _ _ h => h))
      have HB5 := Lib.hid (HB.out.keep hk5 (fun h => h))
      clear hk5 hb HF HB HLW HK
      have hzb : Blk (w5.alloc (.cells zeroFnd 53)) w5.heap.size zeroFnd 53 := Blk.new w5 _ _
      go_upto_region 14 with (refine wpList_store_row rfl 53 (.tmp 20) (.tmp 76) rfl w5.heap.size _ rfl rfl 53 _ hzb sizeRf rfl HONE.out ?_)
      have hx : ∀ V : Array Value, (w5.alloc (.cells #[.complex .f64 0 0, .complex .f64 0 0, .complex .f64 0 0, .complex .f64 0 0, .complex .f64 0 0, .complex .f64 0 0, .complex .f64 0 0, .complex .f64 0 0, .complex .f64 0 0, .complex .f64 0 0, .complex .f64 0 0, .bool false, .bool false, .bool false, .bool false, .bool false, .bool false, .bool false, .bool false, .bool false, .bool false, .int .i64 0] 53)).setRow w5.heap.size V = (w5.alloc (.cells zeroFnd 53)).setRow w5.heap.size V := fun _ => rfl
      rw [hx]
      clear hx
      have hkA : Keep Nb w5 ((w5.alloc (.cells zeroFnd 53)).setRow w5.heap.size (fLit s)) := Keep.setRow (Keep.alloc (Keep.refl _ _) _) (Or.inl (Nat.le_refl _)) _
      have HK6 := Lib.hid (HK5.out.trans hkA (fun _ _ h => h))
      have HB6 := Lib.hid (HB5.out.keep hkA (fun h => h))
      have hF6 := hzb.setRow (fLit s)
      clear hkA hzb HK5 HB5
      generalize (w5.alloc (.cells zeroFnd 53)).setRow w5.heap.size (fLit s) = w6 at HK6 HB6 hF6 ⊢
      generalize w5.heap.size = f at hF6 ⊢
      obtain ⟨t2, ht2⟩ : ∃ t2, t2 = P.tries + s.tries := ⟨_, rfl⟩
      have W1 : IntKind.i64.wrap ((P.tries : Int) + (s.tries : Int)) = (t2 : Int) := by rw [IntKind.wrap_i64]; have := HSM.out.2.2.1; have := HFO.out.1; omega
      have c21 := hF6.cell 21 (u := .int .i64 (s.tries : Int)) (by simp [fLit])
      have lf := hF6.lt
      have HT2 := Lib.hid ht2
      by_cases hbt : 3000 < t2
      ·have n1 : decide ((3000 : Int) < (t2 : Int)) = true := by simp; omega
       have n2 : decide (3000 < t2) = true := by simpa using hbt
       have HE : Hid (Ending.returned (.tuple #[.string ⟨#[]⟩, .int .i64 0, .int .i64 12]) = .returned (putW T.toList R)) := Lib.hid (by rw [← HS1.out, putS_bad HGO.out (by rw [HSS.out]; exact .inr (by omega))]; rfl)
       clear hbt ht2 hF6
       go_wp2_with fail
       go_ret3
       exact ⟨HE.out, HK6.out⟩
      ·have n1 : decide ((3000 : Int) < (t2 : Int)) = false := by simp; omega
       have n2 : decide (3000 < t2) = false := by simpa using hbt
       have HBN : Hid (¬ (s.over = true ∨ 3000 < P.tries + s.tries)) := Lib.hid (fun h => by
        rcases h with h | h
        ·exact HNO.out h
        ·omega)
       clear hbt ht2
       have HF6 := Lib.hid hF6
       go_upto_region 19 with fail
       clear n1 n2 W1 c21
       cases h0 : bestC s 0 with
       | none =>
        have HRW : Hid (some P = R) := Lib.hid (by rw [← HS1.out]; exact (putS_none HGO.out (by rw [HSS.out]; exact HBN.out) (by rw [HSS.out]; exact h0)).symm)
        clear h0 hF6 lf
        obtain ⟨mm, hmm⟩ : ∃ mm, mm = min P.pos T.size := ⟨_, rfl⟩
        have hmin : min (P.pos : Int) (T.size : Int) = (mm : Int) := by omega
        have i0 : (0 : Int) ≤ (mm : Int) := by omega
        have i1 : (mm : Int) ≤ (T.size : Int) := by omega
        have hs1 : ¬ 9223372036854775807 < O.size + (T.extract mm T.size).size := by have := HOS.out; have := HT.out; simp; omega
        have HX : Hid ((O ++ T.extract mm T.size).toList = P.out ++ T.toList.drop P.pos) := Lib.hid (by
         rw [ba_append, ba_seg, HO.out, seg_drop (by rw [toList_len]; exact Nat.le_refl _), hmm]
         congr 1
         by_cases h : P.pos ≤ T.size
         ·rw [Nat.min_eq_left h]
         ·rw [Nat.min_eq_right (by omega), List.drop_eq_nil_of_le (by rw [toList_len]; exact Nat.le_refl _), List.drop_eq_nil_of_le (by rw [toList_len]; omega)])
        clear hmm
        go_upto_region 33 with fail
        generalize O ++ T.extract mm T.size = Z at HX ⊢
        have HZZ : Hid (Z.size = (P.out ++ T.toList.drop P.pos).length) := Lib.hid (by rw [← HX.out, toList_len])
        clear hs1 hmin i0 i1
        by_cases hbig : 600 < (P.out ++ T.toList.drop P.pos).length
        ·have m9 : decide ((600 : Int) < (Z.size : Int)) = true := by rw [HZZ.out]; simp only [decide_eq_true_eq]; omega
         have m9' : decide (600 < Z.size) = true := by rw [HZZ.out]; simpa using hbig
         have HE : Hid (Ending.returned (.tuple #[.string ⟨#[]⟩, .int .i64 0, .int .i64 14]) = .returned (putW T.toList R)) := Lib.hid (by rw [← HRW.out, putW, if_pos hbig])
         clear hbig
         go_wp2_with fail
         go_ret3
         exact ⟨HE.out, HK6.out⟩
        ·have m9 : decide ((600 : Int) < (Z.size : Int)) = false := by rw [HZZ.out]; simp only [decide_eq_false_iff_not]; omega
         have m9' : decide (600 < Z.size) = false := by rw [HZZ.out]; simpa using hbig
         have HE : Hid (Ending.returned (.tuple #[.string Z, .int .i64 (P.pt : Int), .int .i64 0]) = .returned (putW T.toList R)) := Lib.hid (by
          rw [← HRW.out, putW, if_neg hbig, ← HX.out]
          have e : (⟨Z.toList.toArray⟩ : ByteArray) = Z := by rw [ByteArray.toList_eq]
          rw [e])
         clear hbig
         go_wp2_with fail
         go_ret3
         exact ⟨HE.out, HK6.out⟩
       | some o =>
        obtain ⟨a, b⟩ := o
        have HAL := Lib.hid (HFS.out a b h0)
        have HAB : Hid (P.pos ≤ a ∧ a ≤ b ∧ b ≤ T.size) := Lib.hid (by have := HAL.out; rwa [toList_len] at this)
        have H0 := Lib.hid h0
        have c0 := hF6.cell 0 (u := .complex .f64 (F a) (F b)) (by simp [fLit, h0, reV, imV])
        have v1 := fun wx => F_back (a := a) (by have := HAB.out; have := HT.out; omega) wx
        have v2 := fun wx => F_back (a := b) (by have := HAB.out; have := HT.out; omega) wx
        clear h0 hF6
        go_wp2_with fail
        (refine wp_region_f [9] (InX Nb _) (by kernel_rfl) (InX.mk (Keep.drew (Keep.refl _ _))) (fun hI => ?_))
        have xx : ∀ k, ¬ Nb k := fun _ h => h
        have hD : Keep Nb w6 w6.drew := (Keep.refl _ _).drew
        generalize w6.drew = x0 at hI hD ⊢
        (refine wpI_from 0 ?_; (iterate 9 ((first | (refine wpI_take3' (v := ?_) rfl (by kernel_rfl) (fun _ _ _ h => h) hI rfl ?_ ?_; rotate_left; (focus (rintro _ ⟨E, rfl⟩; go_simp; (try with_reducible rfl)))) | refine wpI_skip3' rfl (by kernel_rfl) (fun _ _ _ h => h) hI rfl ?_); simp only [Act.put, tk, Nat.reduceAdd])); refine wpI_till ?_)
        (refine wpF_one 9 rfl (by kernel_rfl) rfl (fun K hK => ?_))
        go_simp
        (refine hK _ _ (fun h => absurd (by simp) h) (fun _ => ?_); clear hK K; try simp only [Act.put, tk])
        (refine wpF_done (by kernel_rfl) ?_ _)
        have HF7 := Lib.hid (HF6.out.keep hD (fun h => h))
        have HB7 := Lib.hid (HB6.out.keep hD (fun h => h))
        have HK7 := Lib.hid (HK6.out.trans hD (fun _ _ h => h))
        have i0 : (0 : Int) ≤ (P.pos : Int) := by omega
        have i1 : (P.pos : Int) ≤ (a : Int) := by have := HAB.out; omega
        have i2 : (a : Int) ≤ (T.size : Int) := by have := HAB.out; omega
        have hs1 : ¬ 9223372036854775807 < O.size + (T.extract P.pos a).size := by have := HOS.out; have := HT.out; simp; omega
        have HO1 : Hid ((O ++ T.extract P.pos a).toList = P.out ++ seg T.toList P.pos a) := Lib.hid (by rw [ba_append, ba_seg, HO.out])
        have HO1S : Hid ((O ++ T.extract P.pos a).size ≤ 700010000) := Lib.hid (by have := HOS.out; have := HT.out; simp; omega)
        clear HF6 HB6 HK6 hD c0 lf hI v1 v2
        go_upto_region 22 with fail
        generalize O ++ T.extract P.pos a = O1 at HO1 HO1S ⊢
        clear hs1 i0 i1 i2 HO HOS
        obtain ⟨a1, ha1⟩ : ∃ a1, a1 = a + 1 := ⟨_, rfl⟩
        have W1 : IntKind.i64.wrap ((a : Int) + 1) = (a1 : Int) := by rw [IntKind.wrap_i64]; have := HAB.out; have := HT.out; omega
        have HA1 := Lib.hid ha1
        clear ha1
        by_cases hab : a = b
        ·have n1 : ((a : Int) == (b : Int)) = true := by simp [hab]
         have n2 : (a == b) = true := by simp [hab]
         have HEQ := Lib.hid hab
         have HAC : Hid (a < a + 1) := Lib.hid (Nat.lt_succ_self _)
         by_cases hla : (a : Int) = P.last
         ·have n3 : ((a : Int) == P.last) = true := by simpa using hla
          have HSA : Hid (a = b ∧ (a : Int) = P.last) := Lib.hid ⟨hab, hla⟩
          clear hab hla
          have i3 : (0 : Int) ≤ (a : Int) := by omega
          obtain ⟨mm, hmm⟩ : ∃ mm, mm = min (a + 1) T.size := ⟨_, rfl⟩
          have hmin : min (a1 : Int) (T.size : Int) = (mm : Int) := by have := HA1.out; omega
          have i4 : (a : Int) ≤ (mm : Int) := by have := HAB.out; omega
          have i5 : (mm : Int) ≤ (T.size : Int) := by omega
          have hs3 : ¬ 9223372036854775807 < O1.size + (T.extract a mm).size := by have := HO1S.out; have := HT.out; simp; omega
          have HOO : Hid ((O1 ++ T.extract a mm).toList = P.out ++ seg T.toList P.pos a ++ seg T.toList a (a + 1)) := Lib.hid (by rw [ba_append, ba_seg, HO1.out, hmm, ← toList_len, seg_min])
          clear hmm
          obtain ⟨P', hP'⟩ : ∃ P', P' = stepP T.toList (fillF T.toList ps) m P s a b := ⟨_, rfl⟩
          have HPE : Hid (P' = ⟨P.out ++ seg T.toList P.pos a ++ seg T.toList a (a + 1), a + 1, -1, P.tries + s.tries, P.cnt, P.pt⟩) := Lib.hid (by rw [hP']; exact (step_pass HSA.out).symm)
          have E1 : Hid (P'.cnt = P.cnt) := Lib.hid (by rw [HPE.out])
          have E2 : Hid (P'.pt = P.pt) := Lib.hid (by rw [HPE.out])
          have E3 : Hid (P'.tries = t2) := Lib.hid (by rw [HPE.out, HT2.out])
          have E4 : Hid (P'.pos = a1) := Lib.hid (by rw [HPE.out]; rw [HA1.out])
          have E5 : Hid (P'.last = -1) := Lib.hid (by rw [HPE.out])
          have HLB : Hid (RlAt w N (.slice A N.l.length cap) T (found T.toList false N (formed_ok hN)) (fillF T.toList ps) m all R P' (O1 ++ T.extract a mm) x0) := Lib.hid (by
           have hO : (O1 ++ T.extract a mm).toList = P'.out := by rw [HPE.out, HOO.out]
           subst hP'
           exact RlAt.next HSS.out HGO.out HBN.out H0.out HAL.out HS1.out HS2.out HSM.out HLT.out (by have := fillF_len HLT.out (bestC s) ps; have := HZ.out; omega) hO HB7.out HK7.out)
          clear hP'
          go_wp2_with fail
          go_roundw
          case rel => exact ⟨P', (O1 ++ T.extract a mm), rfl, by rw [E1.out], by rw [E2.out], by rw [E3.out], by rw [E4.out], by rw [E5.out], HLB⟩
          case measure => simp [intOf]; have h1 := HA1.out; have h2 := HPS.out; have h3 := HAB.out; have h4 := HAC.out; omega
         ·have n3 : ((a : Int) == P.last) = false := beq_eq_false_iff_ne.2 hla
          have HSA : Hid (¬ (a = b ∧ (a : Int) = P.last)) := Lib.hid (fun h => hla h.2)
          clear hab hla
          obtain ⟨c1, hc1⟩ : ∃ c1, c1 = P.cnt + 1 := ⟨_, rfl⟩
          have W2 : IntKind.i64.wrap ((P.cnt : Int) + 1) = (c1 : Int) := by rw [IntKind.wrap_i64]; have := HSM.out.2.2.2.1; have := HPS.out; have := HT.out; omega
          have HC1 := Lib.hid hc1
          obtain ⟨inn, hinn⟩ : ∃ i, decide (m ≤ P.cnt + 1) = i := ⟨_, rfl⟩
          have HIN := Lib.hid hinn
          clear hc1 hinn
          go_upto_region 25 with fail
          clear W2
          go_cut [136] (fun x wx => x = .bool inn ∧ wx = x0)
          case first =>
           have hin := HIN.out
           have hc := HC1.out
           have hgo := HGO.out.2
           by_cases hcm : c1 = m
           ·have e1 : ((c1 : Int) == (m : Int)) = true := by simp [hcm]
            have e2 : (c1 == m) = true := by simp [hcm]
            have hi : inn = true := by rw [← hin]; simp; omega
            clear hin hc hgo hcm
            go_wp2_with fail
            go_meet
            exact ⟨by rw [hi], rfl⟩
           ·have e1 : ((c1 : Int) == (m : Int)) = false := beq_eq_false_iff_ne.2 (by omega)
            have e2 : (c1 == m) = false := beq_eq_false_iff_ne.2 hcm
            cases all with
            | true =>
             have e3 : decide ((m : Int) < (c1 : Int)) = inn := by rw [← hin, decide_eq_decide]; omega
             have e4 : decide (m < c1) = inn := by rw [← hin, decide_eq_decide]; omega
             clear hin hc hgo hcm
             go_wp2_with fail
             go_meet
             exact ⟨rfl, rfl⟩
            | false =>
             have hi : inn = false := by rw [← hin]; simp at hgo; simp; omega
             clear hin hc hgo hcm
             go_wp2_with fail
             go_meet
             exact ⟨by rw [hi], rfl⟩
          case rest =>
          obtain ⟨rfl, rfl⟩ := hcut
          cases inn with
          | true =>
           have HY1 : Hid ((if m ≤ P.cnt + 1 then fillF T.toList ps (bestC s) else seg T.toList a b) = fillF T.toList ps (bestC s)) := Lib.hid (if_pos (of_decide_eq_true HIN.out))
           obtain ⟨pp, hpp⟩ : ∃ pp, pp = P.pt + 1 := ⟨_, rfl⟩
           have HPP : Hid (pp = if m ≤ P.cnt + 1 then P.pt + 1 else P.pt) := Lib.hid (by rw [if_pos (of_decide_eq_true HIN.out), hpp])
           have W3 : IntKind.i64.wrap ((P.pt : Int) + 1) = (pp : Int) := by rw [IntKind.wrap_i64]; have := HSM.out.2.2.2.2; have := HPS.out; have := HT.out; omega
           have hf7 := HF7.out
           have HFI := Lib.hid (rfill_any T HT.out s HCK.out ps HZ.out _ _ (HP.out.keep HK7.out (fun _ _ h => h)))
           clear hpp HIN
           go_upto_region 26 with fail
           go_wp2_with (refine wpList_load_row rfl 53 (.tmp 20) rfl f rfl 53 _ (0, 0) _ hf7 Try.underlying53 rfl (by kernel_rfl) ?_)
           refine HFI.out.mono ?_
           rintro e x8 ⟨OF, rfl, hOF, kd⟩
           have HB8 := Lib.hid (HB7.out.keep kd (fun h => h))
           have HK8 := Lib.hid (HK7.out.trans kd (fun _ _ h => h))
           have hs2 : ¬ 9223372036854775807 < O1.size + OF.size := by have := HO1S.out; have h1 := fillF_len (L := T.toList) HLT.out (bestC s) ps; have := HZ.out; rw [← hOF, toList_len] at h1; omega
           have HO2S : Hid ((O1 ++ OF).size ≤ 800000000) := Lib.hid (by have := HO1S.out; have h1 := fillF_len (L := T.toList) HLT.out (bestC s) ps; have := HZ.out; rw [← hOF, toList_len] at h1; simp; omega)
           obtain ⟨Y, hY⟩ : ∃ Y, Y = OF.toList := ⟨_, rfl⟩
           have HY : Hid ((if m ≤ P.cnt + 1 then fillF T.toList ps (bestC s) else seg T.toList a b) = Y) := Lib.hid (by rw [HY1.out, hY, hOF])
           have HO2 : Hid ((O1 ++ OF).toList = P.out ++ seg T.toList P.pos a ++ Y) := Lib.hid (by rw [ba_append, HO1.out, hY])
           clear hY hOF kd hf7 HFI HF7 HK7 HB7
           go_upto_region 29 with fail
           generalize O1 ++ OF = O2 at HO2 HO2S ⊢
           clear hs2 W3
           obtain ⟨mm, hmm⟩ : ∃ mm, mm = min (a + 1) T.size := ⟨_, rfl⟩
           have hmin : min (a1 : Int) (T.size : Int) = (mm : Int) := by have := HA1.out; omega
           have i4 : (a : Int) ≤ (mm : Int) := by have := HAB.out; omega
           have i5 : (mm : Int) ≤ (T.size : Int) := by omega
           have hs3 : ¬ 9223372036854775807 < O2.size + (T.extract a mm).size := by have := HO2S.out; have := HT.out; simp; omega
           have HOO : Hid ((O2 ++ T.extract a mm).toList = P.out ++ seg T.toList P.pos a ++ Y ++ seg T.toList a (a + 1)) := Lib.hid (by rw [ba_append, ba_seg, HO2.out, hmm, ← toList_len, seg_min])
           clear hmm
           obtain ⟨P', hP'⟩ : ∃ P', P' = stepP T.toList (fillF T.toList ps) m P s a b := ⟨_, rfl⟩
           have HPE : Hid (P' = ⟨P.out ++ seg T.toList P.pos a ++ (if m ≤ P.cnt + 1 then fillF T.toList ps (bestC s) else seg T.toList a b) ++ seg T.toList a (a + 1), a + 1, -1, P.tries + s.tries, P.cnt + 1, if m ≤ P.cnt + 1 then P.pt + 1 else P.pt⟩) := Lib.hid (by rw [hP']; exact step_same HSA.out HEQ.out)
           have E1 : Hid (P'.cnt = c1) := Lib.hid (by rw [HPE.out]; rw [HC1.out])
           have E2 : Hid (P'.pt = pp) := Lib.hid (by rw [HPE.out]; exact HPP.out.symm)
           have E3 : Hid (P'.tries = t2) := Lib.hid (by rw [HPE.out, HT2.out])
           have E4 : Hid (P'.pos = a1) := Lib.hid (by rw [HPE.out]; rw [HA1.out])
           have E5 : Hid (P'.last = -1) := Lib.hid (by rw [HPE.out])
           have HLB : Hid (RlAt w N (.slice A N.l.length cap) T (found T.toList false N (formed_ok hN)) (fillF T.toList ps) m all R P' (O2 ++ T.extract a mm) x8) := Lib.hid (by
            have hO : (O2 ++ T.extract a mm).toList = P'.out := by rw [HPE.out, HOO.out, HY.out]
            subst hP'
            exact RlAt.next HSS.out HGO.out HBN.out H0.out HAL.out HS1.out HS2.out HSM.out HLT.out (by have := fillF_len HLT.out (bestC s) ps; have := HZ.out; omega) hO HB8.out HK8.out)
           clear hP'
           go_wp2_with fail
           go_roundw
           case rel => exact ⟨P', (O2 ++ T.extract a mm), rfl, by rw [E1.out], by rw [E2.out], by rw [E3.out], by rw [E4.out], by rw [E5.out], HLB⟩
           case measure => simp [intOf]; have h1 := HA1.out; have h2 := HPS.out; have h3 := HAB.out; have h4 := HAC.out; omega
          | false =>
           have HPP : Hid (P.pt = if m ≤ P.cnt + 1 then P.pt + 1 else P.pt) := Lib.hid (by rw [if_neg (of_decide_eq_false HIN.out)])
           have hs2 : ¬ 9223372036854775807 < O1.size + (T.extract a b).size := by have := HO1S.out; have := HT.out; simp; omega
           have HO2S : Hid ((O1 ++ T.extract a b).size ≤ 800000000) := Lib.hid (by have := HO1S.out; have := HT.out; simp; omega)
           obtain ⟨Y, hY⟩ : ∃ Y, Y = seg T.toList a b := ⟨_, rfl⟩
           have HY : Hid ((if m ≤ P.cnt + 1 then fillF T.toList ps (bestC s) else seg T.toList a b) = Y) := Lib.hid (by rw [if_neg (of_decide_eq_false HIN.out), hY])
           have HO2 : Hid ((O1 ++ T.extract a b).toList = P.out ++ seg T.toList P.pos a ++ Y) := Lib.hid (by rw [ba_append, ba_seg, HO1.out, hY])
           have j0 : (0 : Int) ≤ (a : Int) := by omega
           have j1 : (a : Int) ≤ (b : Int) := by have := HAB.out; omega
           have j2 : (b : Int) ≤ (T.size : Int) := by have := HAB.out; omega
           clear hY HIN
           go_upto_region 29 with fail
           generalize O1 ++ T.extract a b = O2 at HO2 HO2S ⊢
           have HB8 := HB7
           have HK8 := HK7
           clear hs2 j1 j2 HB7 HK7
           obtain ⟨mm, hmm⟩ : ∃ mm, mm = min (a + 1) T.size := ⟨_, rfl⟩
           have hmin : min (a1 : Int) (T.size : Int) = (mm : Int) := by have := HA1.out; omega
           have i4 : (a : Int) ≤ (mm : Int) := by have := HAB.out; omega
           have i5 : (mm : Int) ≤ (T.size : Int) := by omega
           have hs3 : ¬ 9223372036854775807 < O2.size + (T.extract a mm).size := by have := HO2S.out; have := HT.out; simp; omega
           have HOO : Hid ((O2 ++ T.extract a mm).toList = P.out ++ seg T.toList P.pos a ++ Y ++ seg T.toList a (a + 1)) := Lib.hid (by rw [ba_append, ba_seg, HO2.out, hmm, ← toList_len, seg_min])
           clear hmm
           obtain ⟨P', hP'⟩ : ∃ P', P' = stepP T.toList (fillF T.toList ps) m P s a b := ⟨_, rfl⟩
           have HPE : Hid (P' = ⟨P.out ++ seg T.toList P.pos a ++ (if m ≤ P.cnt + 1 then fillF T.toList ps (bestC s) else seg T.toList a b) ++ seg T.toList a (a + 1), a + 1, -1, P.tries + s.tries, P.cnt + 1, if m ≤ P.cnt + 1 then P.pt + 1 else P.pt⟩) := Lib.hid (by rw [hP']; exact step_same HSA.out HEQ.out)
           have E1 : Hid (P'.cnt = c1) := Lib.hid (by rw [HPE.out]; rw [HC1.out])
           have E2 : Hid (P'.pt = P.pt) := Lib.hid (by rw [HPE.out]; exact HPP.out.symm)
           have E3 : Hid (P'.tries = t2) := Lib.hid (by rw [HPE.out, HT2.out])
           have E4 : Hid (P'.pos = a1) := Lib.hid (by rw [HPE.out]; rw [HA1.out])
           have E5 : Hid (P'.last = -1) := Lib.hid (by rw [HPE.out])
           have HLB : Hid (RlAt w N (.slice A N.l.length cap) T (found T.toList false N (formed_ok hN)) (fillF T.toList ps) m all R P' (O2 ++ T.extract a mm) wc) := Lib.hid (by
            have hO : (O2 ++ T.extract a mm).toList = P'.out := by rw [HPE.out, HOO.out, HY.out]
            subst hP'
            exact RlAt.next HSS.out HGO.out HBN.out H0.out HAL.out HS1.out HS2.out HSM.out HLT.out (by have := fillF_len HLT.out (bestC s) ps; have := HZ.out; omega) hO HB8.out HK8.out)
           clear hP'
           go_wp2_with fail
           go_roundw
           case rel => exact ⟨P', (O2 ++ T.extract a mm), rfl, by rw [E1.out], by rw [E2.out], by rw [E3.out], by rw [E4.out], by rw [E5.out], HLB⟩
           case measure => simp [intOf]; have h1 := HA1.out; have h2 := HPS.out; have h3 := HAB.out; have h4 := HAC.out; omega
        ·have n1 : ((a : Int) == (b : Int)) = false := beq_eq_false_iff_ne.2 (by omega)
         have n2 : (a == b) = false := beq_eq_false_iff_ne.2 hab
         have HEQ := Lib.hid hab
         have HAC : Hid (a < b) := Lib.hid (by have := HAB.out; omega)
         have HSA : Hid (¬ (a = b ∧ (a : Int) = P.last)) := Lib.hid (fun h => hab h.1)
         clear hab
         obtain ⟨c1, hc1⟩ : ∃ c1, c1 = P.cnt + 1 := ⟨_, rfl⟩
         have W2 : IntKind.i64.wrap ((P.cnt : Int) + 1) = (c1 : Int) := by rw [IntKind.wrap_i64]; have := HSM.out.2.2.2.1; have := HPS.out; have := HT.out; omega
         have HC1 := Lib.hid hc1
         obtain ⟨inn, hinn⟩ : ∃ i, decide (m ≤ P.cnt + 1) = i := ⟨_, rfl⟩
         have HIN := Lib.hid hinn
         clear hc1 hinn
         go_upto_region 25 with fail
         clear W2
         go_cut [136] (fun x wx => x = .bool inn ∧ wx = x0)
         case first =>
          have hin := HIN.out
          have hc := HC1.out
          have hgo := HGO.out.2
          by_cases hcm : c1 = m
          ·have e1 : ((c1 : Int) == (m : Int)) = true := by simp [hcm]
           have e2 : (c1 == m) = true := by simp [hcm]
           have hi : inn = true := by rw [← hin]; simp; omega
           clear hin hc hgo hcm
           go_wp2_with fail
           go_meet
           exact ⟨by rw [hi], rfl⟩
          ·have e1 : ((c1 : Int) == (m : Int)) = false := beq_eq_false_iff_ne.2 (by omega)
           have e2 : (c1 == m) = false := beq_eq_false_iff_ne.2 hcm
           cases all with
           | true =>
            have e3 : decide ((m : Int) < (c1 : Int)) = inn := by rw [← hin, decide_eq_decide]; omega
            have e4 : decide (m < c1) = inn := by rw [← hin, decide_eq_decide]; omega
            clear hin hc hgo hcm
            go_wp2_with fail
            go_meet
            exact ⟨rfl, rfl⟩
           | false =>
            have hi : inn = false := by rw [← hin]; simp at hgo; simp; omega
            clear hin hc hgo hcm
            go_wp2_with fail
            go_meet
            exact ⟨by rw [hi], rfl⟩
         case rest =>
         obtain ⟨rfl, rfl⟩ := hcut
         cases inn with
         | true =>
          have HY1 : Hid ((if m ≤ P.cnt + 1 then fillF T.toList ps (bestC s) else seg T.toList a b) = fillF T.toList ps (bestC s)) := Lib.hid (if_pos (of_decide_eq_true HIN.out))
          obtain ⟨pp, hpp⟩ : ∃ pp, pp = P.pt + 1 := ⟨_, rfl⟩
          have HPP : Hid (pp = if m ≤ P.cnt + 1 then P.pt + 1 else P.pt) := Lib.hid (by rw [if_pos (of_decide_eq_true HIN.out), hpp])
          have W3 : IntKind.i64.wrap ((P.pt : Int) + 1) = (pp : Int) := by rw [IntKind.wrap_i64]; have := HSM.out.2.2.2.2; have := HPS.out; have := HT.out; omega
          have hf7 := HF7.out
          have HFI := Lib.hid (rfill_any T HT.out s HCK.out ps HZ.out _ _ (HP.out.keep HK7.out (fun _ _ h => h)))
          clear hpp HIN
          go_upto_region 26 with fail
          go_wp2_with (refine wpList_load_row rfl 53 (.tmp 20) rfl f rfl 53 _ (0, 0) _ hf7 Try.underlying53 rfl (by kernel_rfl) ?_)
          refine HFI.out.mono ?_
          rintro e x8 ⟨OF, rfl, hOF, kd⟩
          have HB8 := Lib.hid (HB7.out.keep kd (fun h => h))
          have HK8 := Lib.hid (HK7.out.trans kd (fun _ _ h => h))
          have hs2 : ¬ 9223372036854775807 < O1.size + OF.size := by have := HO1S.out; have h1 := fillF_len (L := T.toList) HLT.out (bestC s) ps; have := HZ.out; rw [← hOF, toList_len] at h1; omega
          have HO2S : Hid ((O1 ++ OF).size ≤ 800000000) := Lib.hid (by have := HO1S.out; have h1 := fillF_len (L := T.toList) HLT.out (bestC s) ps; have := HZ.out; rw [← hOF, toList_len] at h1; simp; omega)
          obtain ⟨Y, hY⟩ : ∃ Y, Y = OF.toList := ⟨_, rfl⟩
          have HY : Hid ((if m ≤ P.cnt + 1 then fillF T.toList ps (bestC s) else seg T.toList a b) = Y) := Lib.hid (by rw [HY1.out, hY, hOF])
          have HO2 : Hid ((O1 ++ OF).toList = P.out ++ seg T.toList P.pos a ++ Y) := Lib.hid (by rw [ba_append, HO1.out, hY])
          clear hY hOF kd hf7 HFI HF7 HK7 HB7
          go_upto_region 29 with fail
          generalize O1 ++ OF = O2 at HO2 HO2S ⊢
          clear hs2 W3
          obtain ⟨P', hP'⟩ : ∃ P', P' = stepP T.toList (fillF T.toList ps) m P s a b := ⟨_, rfl⟩
          have HPE : Hid (P' = ⟨P.out ++ seg T.toList P.pos a ++ (if m ≤ P.cnt + 1 then fillF T.toList ps (bestC s) else seg T.toList a b), b, b, P.tries + s.tries, P.cnt + 1, if m ≤ P.cnt + 1 then P.pt + 1 else P.pt⟩) := Lib.hid (by rw [hP']; exact step_far HEQ.out)
          have E1 : Hid (P'.cnt = c1) := Lib.hid (by rw [HPE.out]; rw [HC1.out])
          have E2 : Hid (P'.pt = pp) := Lib.hid (by rw [HPE.out]; exact HPP.out.symm)
          have E3 : Hid (P'.tries = t2) := Lib.hid (by rw [HPE.out, HT2.out])
          have E4 : Hid (P'.pos = b) := Lib.hid (by rw [HPE.out])
          have E5 : Hid (P'.last = b) := Lib.hid (by rw [HPE.out])
          have HLB : Hid (RlAt w N (.slice A N.l.length cap) T (found T.toList false N (formed_ok hN)) (fillF T.toList ps) m all R P' O2 x8) := Lib.hid (by
           have hO : O2.toList = P'.out := by rw [HPE.out, HO2.out, HY.out]
           subst hP'
           exact RlAt.next HSS.out HGO.out HBN.out H0.out HAL.out HS1.out HS2.out HSM.out HLT.out (by have := fillF_len HLT.out (bestC s) ps; have := HZ.out; omega) hO HB8.out HK8.out)
          clear hP'
          go_wp2_with fail
          go_roundw
          case rel => exact ⟨P', O2, rfl, by rw [E1.out], by rw [E2.out], by rw [E3.out], by rw [E4.out], by rw [E5.out], HLB⟩
          case measure => simp [intOf]; have h1 := HA1.out; have h2 := HPS.out; have h3 := HAB.out; have h4 := HAC.out; omega
         | false =>
          have HPP : Hid (P.pt = if m ≤ P.cnt + 1 then P.pt + 1 else P.pt) := Lib.hid (by rw [if_neg (of_decide_eq_false HIN.out)])
          have hs2 : ¬ 9223372036854775807 < O1.size + (T.extract a b).size := by have := HO1S.out; have := HT.out; simp; omega
          have HO2S : Hid ((O1 ++ T.extract a b).size ≤ 800000000) := Lib.hid (by have := HO1S.out; have := HT.out; simp; omega)
          obtain ⟨Y, hY⟩ : ∃ Y, Y = seg T.toList a b := ⟨_, rfl⟩
          have HY : Hid ((if m ≤ P.cnt + 1 then fillF T.toList ps (bestC s) else seg T.toList a b) = Y) := Lib.hid (by rw [if_neg (of_decide_eq_false HIN.out), hY])
          have HO2 : Hid ((O1 ++ T.extract a b).toList = P.out ++ seg T.toList P.pos a ++ Y) := Lib.hid (by rw [ba_append, ba_seg, HO1.out, hY])
          have j0 : (0 : Int) ≤ (a : Int) := by omega
          have j1 : (a : Int) ≤ (b : Int) := by have := HAB.out; omega
          have j2 : (b : Int) ≤ (T.size : Int) := by have := HAB.out; omega
          clear hY HIN
          go_upto_region 29 with fail
          generalize O1 ++ T.extract a b = O2 at HO2 HO2S ⊢
          have HB8 := HB7
          have HK8 := HK7
          clear hs2 j1 j2 HB7 HK7
          obtain ⟨P', hP'⟩ : ∃ P', P' = stepP T.toList (fillF T.toList ps) m P s a b := ⟨_, rfl⟩
          have HPE : Hid (P' = ⟨P.out ++ seg T.toList P.pos a ++ (if m ≤ P.cnt + 1 then fillF T.toList ps (bestC s) else seg T.toList a b), b, b, P.tries + s.tries, P.cnt + 1, if m ≤ P.cnt + 1 then P.pt + 1 else P.pt⟩) := Lib.hid (by rw [hP']; exact step_far HEQ.out)
          have E1 : Hid (P'.cnt = c1) := Lib.hid (by rw [HPE.out]; rw [HC1.out])
          have E2 : Hid (P'.pt = P.pt) := Lib.hid (by rw [HPE.out]; exact HPP.out.symm)
          have E3 : Hid (P'.tries = t2) := Lib.hid (by rw [HPE.out, HT2.out])
          have E4 : Hid (P'.pos = b) := Lib.hid (by rw [HPE.out])
          have E5 : Hid (P'.last = b) := Lib.hid (by rw [HPE.out])
          have HLB : Hid (RlAt w N (.slice A N.l.length cap) T (found T.toList false N (formed_ok hN)) (fillF T.toList ps) m all R P' O2 wc) := Lib.hid (by
           have hO : O2.toList = P'.out := by rw [HPE.out, HO2.out, HY.out]
           subst hP'
           exact RlAt.next HSS.out HGO.out HBN.out H0.out HAL.out HS1.out HS2.out HSM.out HLT.out (by have := fillF_len HLT.out (bestC s) ps; have := HZ.out; omega) hO HB8.out HK8.out)
          clear hP'
          go_wp2_with fail
          go_roundw
          case rel => exact ⟨P', O2, rfl, by rw [E1.out], by rw [E2.out], by rw [E3.out], by rw [E4.out], by rw [E5.out], HLB⟩
          case measure => simp [intOf]; have h1 := HA1.out; have h2 := HPS.out; have h3 := HAB.out; have h4 := HAC.out; omega
end Go.Proofs.Ytkidjbfapldmbaa
