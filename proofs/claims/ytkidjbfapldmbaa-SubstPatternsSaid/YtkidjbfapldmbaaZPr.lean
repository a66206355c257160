import Derived.Test.YtkidjbfapldmbaaZPt
set_option linter.unusedVariables false
set_option linter.unusedSimpArgs false
namespace Go.Proofs.Ytkidjbfapldmbaa
open Go.RowKit P8
theorem seg_drop {L : List UInt8} {i j : Nat} (h : L.length ≤ j) : seg L i j = L.drop i := by
 unfold seg; rw [List.take_of_length_le]; simp; omega
def partOk (x : Int × ByteArray) : Bool := decide (-1 ≤ x.1) && decide (x.1 ≤ 9)
def rightB (N : Nd) (ps : List (Int × ByteArray)) (nth : Int) (T : ByteArray) : Bool := ps.all partOk && (formedT N && decide (T.size ≤ 600) && decide (0 ≤ nth))
set_option maxRecDepth 100000 in
set_option maxHeartbeats 4000000 in
theorem right_any (N : Nd) (hcn : count N ≤ 900000) (A : Option Addr) (cap : Nat) (ps : List (Int × ByteArray)) (pv : Value) (nth : Int) (T : ByteArray) (w : World) (hl : Lies w N (.slice A N.l.length cap)) (hp : PartsAt w pv ps) :
  Calls Try.prog 73 #[.agg (Nd.row N (.slice A N.l.length cap)), pv, .int .i64 nth, .string T] w fun e w' => e = .returned (.bool (rightB N ps nth T)) ∧ Keep Nb w w' := by
 have HF := Lib.hid (fun wx hx => formed_any N hcn (.slice A N.l.length cap) wx hx)
 have HL := Lib.hid hl
 obtain ⟨A2, cap2, rfl, hn1, hn2, hcell⟩ := hp
 have HCE := Lib.hid hcell
 have hn3 : ps.length ≤ 9223372036854775807 := by unfold maxLen at hn2; omega
 clear hcell hn1 hn2 hl hcn
 simp only [Nd.row]
 go_enter Try.func73, Try.ntmps73
 go_upto_region 1 with fail
 have HB1 : Hid (Blk (w.alloc (.cells (Nd.row N (.slice A N.l.length cap)) 33)) w.heap.size (Nd.row N (.slice A N.l.length cap)) 33) := Lib.hid (Blk.new w _ _)
 have HK1 : Hid (Keep Nb w (w.alloc (.cells (Nd.row N (.slice A N.l.length cap)) 33))) := Lib.hid (Keep.alloc (Keep.refl _ _) _)
 have hx : w.alloc (.cells #[.int .i64 N.h.k, .int .u8 N.h.c, .int .u64 N.h.s0, .int .u64 N.h.s1, .int .u64 N.h.s2, .int .u64 N.h.s3, .int .i64 N.h.n, .int .i64 N.h.mn, .int .i64 N.h.mx, .slice A N.l.length cap] 33) = w.alloc (.cells (Nd.row N (.slice A N.l.length cap)) 33) := rfl
 rw [hx]; clear hx
 generalize w.alloc (.cells (Nd.row N (.slice A N.l.length cap)) 33) = w1 at HB1 HK1 ⊢
 go_wp2_with fail
 go_loopw [13] (fun i wr => ∃ k : Nat, k ≤ ps.length ∧ i = .int .i64 (k : Int) ∧ Hid ((ps.take k).all partOk = true ∧ Keep Nb w wr ∧ Blk wr w.heap.size (Nd.row N (.slice A N.l.length cap)) 33)) (fun i _ => ps.length - (intOf i).toNat)
 case atStart => exact ⟨0, Nat.zero_le _, rfl, Lib.hid ⟨by simp, HK1.out, HB1.out⟩⟩
 case round =>
  clear HB1 HK1
  obtain ⟨k, hk, rfl, HR⟩ := hrel
  rcases Nat.lt_or_ge k ps.length with hlt | hge
  ·obtain ⟨b, off, rfl, c0, c1⟩ := HCE.out k hlt
   have d0 := HR.out.2.1.cell c0 (fun h => h)
   have d1 := HR.out.2.1.cell c1 (fun h => h)
   have lb := Nat.lt_of_lt_of_le (cell_lt c0) HR.out.2.1.size
   have hst : (ps.take (k + 1)).all partOk = ((ps.take k).all partOk && partOk ps[k]) := by rw [List.take_succ_eq_append_getElem hlt, List.all_append]; simp
   have hall : partOk ps[k] = false → ps.all partOk = false := fun h => by
    refine Bool.eq_false_iff.2 fun ha => ?_
    have := List.all_eq_true.1 ha ps[k] (List.getElem_mem hlt)
    rw [h] at this; cases this
   generalize ps[k] = x at d0 d1 hst hall
   obtain ⟨g, tx⟩ := x
   have HST := Lib.hid hst
   have HAL := Lib.hid hall
   clear c0 c1 hst hall
   simp only [] at d0 d1
   have HKA : Hid (Keep Nb w (wr.alloc (.cells #[.int .i64 g, .string tx] 138))) := Lib.hid (Keep.alloc HR.out.2.1 _)
   by_cases g2 : g < -1
   ·have m1 : decide (g < -1) = true := by simpa using g2
    have HE : Hid (rightB N ps nth T = false) := Lib.hid (by unfold rightB; rw [HAL.out (by unfold partOk; simp only [Bool.and_eq_false_iff, decide_eq_false_iff_not]; left; omega)]; rfl)
    clear g2
    go_wp2_with fail
    go_ret
    exact ⟨by rw [HE.out]; rfl, HKA.out⟩
   ·have m1 : decide (g < -1) = false := by simpa using g2
    by_cases g3 : 9 < g
    ·have m2 : decide (9 < g) = true := by simpa using g3
     have HE : Hid (rightB N ps nth T = false) := Lib.hid (by unfold rightB; rw [HAL.out (by unfold partOk; simp only [Bool.and_eq_false_iff, decide_eq_false_iff_not]; right; omega)]; rfl)
     clear g2 g3
     go_wp2_with fail
     go_ret
     exact ⟨by rw [HE.out]; rfl, HKA.out⟩
    ·have m2 : decide (9 < g) = false := by simpa using g3
     have HR2 : Hid ((ps.take (k + 1)).all partOk = true ∧ Keep Nb w (wr.alloc (.cells #[.int .i64 g, .string tx] 138)) ∧ Blk (wr.alloc (.cells #[.int .i64 g, .string tx] 138)) w.heap.size (Nd.row N (.slice A N.l.length cap)) 33) := Lib.hid
      ⟨by rw [HST.out, HR.out.1]; unfold partOk; simp; omega, HKA.out, HR.out.2.2.alloc _⟩
     clear g2 g3
     go_wp2_with fail
     go_roundw
     case rel => exact ⟨k + 1, by omega, by go_num, HR2⟩
     case measure => simp [intOf]; omega
  ·obtain rfl : k = ps.length := by omega
   have hB := HR.out.2.2
   have lB := hB.lt
   have HA : Hid (ps.all partOk = true) := Lib.hid (by have := HR.out.1; rwa [List.take_length] at this)
   have HKR := Lib.hid HR.out.2.1
   have HLR := Lib.hid (Lies_keep HR.out.2.1 HL.out)
   clear HR
   go_wp2_with (refine wpList_load_row rfl 33 (.tmp 4) rfl w.heap.size rfl 33 _ (0, 0) _ hB Try.underlying33 rfl (by kernel_rfl) ?_)
   refine (HF.out wr HLR.out).mono ?_
   rintro e w2 ⟨rfl, hk2⟩
   have HK2 := Lib.hid (HKR.out.trans hk2 (fun _ _ h => h))
   clear hk2
   cases hf : formedT N with
   | false =>
    have HE : Hid (rightB N ps nth T = false) := Lib.hid (by unfold rightB; rw [HA.out, hf]; rfl)
    clear hf
    go_wp2_with fail
    go_ret
    exact ⟨by rw [HE.out]; rfl, HK2.out⟩
   | true =>
    have HE : Hid (rightB N ps nth T = (decide (T.size ≤ 600) && decide (0 ≤ nth))) := Lib.hid (by unfold rightB; rw [HA.out, hf]; simp)
    clear hf
    by_cases h1 : T.size ≤ 600
    ·have m1 : decide ((T.size : Int) ≤ 600) = true := by simp; omega
     have m2 : decide (T.size ≤ 600) = true := by simpa using h1
     have HM := Lib.hid m2
     clear h1 m2
     go_wp2_with fail
     go_ret
     exact ⟨by rw [HE.out, HM.out]; simp, HK2.out⟩
    ·have m1 : decide ((T.size : Int) ≤ 600) = false := by simp; omega
     have m2 : decide (T.size ≤ 600) = false := by simpa using h1
     have HM := Lib.hid m2
     clear h1 m2
     go_wp2_with fail
     go_ret
     exact ⟨by rw [HE.out, HM.out]; simp, HK2.out⟩
end Go.Proofs.Ytkidjbfapldmbaa
