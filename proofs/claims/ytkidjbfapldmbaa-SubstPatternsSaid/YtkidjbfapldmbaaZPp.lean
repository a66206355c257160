import Derived.Test.YtkidjbfapldmbaaZPr
set_option linter.unusedVariables false
set_option linter.unusedSimpArgs false
namespace Go.Proofs.Ytkidjbfapldmbaa
open Go.RowKit P8
def putW (L : List UInt8) : Option PS → Value
 | none => .tuple #[.string ⟨#[]⟩, .int .i64 0, .int .i64 12]
 | some q => if 600 < (q.out ++ L.drop q.pos).length then .tuple #[.string ⟨#[]⟩, .int .i64 0, .int .i64 14] else .tuple #[.string ⟨(q.out ++ L.drop q.pos).toArray⟩, .int .i64 (q.pt : Int), .int .i64 0]
theorem step_eq {L : List UInt8} {fl : Caps → List UInt8} {m : Nat} {P : PS} {s : St} {a b : Nat} (h : ¬ (a = b ∧ (a : Int) = P.last)) :
  takeP L fl (decide (m ≤ P.cnt + 1)) ⟨P.out ++ seg L P.pos a, P.pos, P.last, P.tries + s.tries, P.cnt + 1, P.pt⟩ s a b = stepP L fl m P s a b := by
 unfold takeP stepP
 rw [if_neg h]
 simp only [decide_eq_true_eq]
theorem step_pass {L : List UInt8} {fl : Caps → List UInt8} {m : Nat} {P : PS} {s : St} {a b : Nat} (h : a = b ∧ (a : Int) = P.last) :
  (⟨P.out ++ seg L P.pos a ++ seg L a (a + 1), a + 1, -1, P.tries + s.tries, P.cnt, P.pt⟩ : PS) = stepP L fl m P s a b := by
 unfold stepP
 rw [if_pos h]
def Small (n : Nat) (P : PS) : Prop := P.pos ≤ n + 1 ∧ P.out.length ≤ P.pos * 1100000 ∧ P.tries ≤ 3000 ∧ P.cnt ≤ P.pos ∧ P.pt ≤ P.pos
theorem seg_short (L : List UInt8) (i j : Nat) (n : Nat) (h : j ≤ i + n) : (seg L i j).length ≤ n := by have := seg_len L i j; omega
theorem step_small {L : List UInt8} {fl : Caps → List UInt8} {m : Nat} {P : PS} {s : St} {a b : Nat} (hn : L.length ≤ 600) (hfl : (fl (bestC s)).length ≤ 1000000) (h : Small L.length P) (h1 : P.pos ≤ a) (h2 : a ≤ b) (h3 : b ≤ L.length) (ht : P.tries + s.tries ≤ 3000) : Small L.length (stepP L fl m P s a b) := by
 obtain ⟨g1, g2, g3, g4, g5⟩ := h
 have x1 := seg_short L P.pos a 600 (by omega)
 have x2 := seg_short L a (a + 1) 1 (by omega)
 have x3 := seg_short L a b 600 (by omega)
 have x4 : (if m ≤ P.cnt + 1 then fl (bestC s) else seg L a b).length ≤ 1000000 := by split <;> omega
 have x5 : (if m ≤ P.cnt + 1 then P.pt + 1 else P.pt) ≤ P.pt + 1 := by split <;> omega
 unfold stepP
 split
 ·refine ⟨?_, ?_, ?_, ?_, ?_⟩ <;> simp only [List.length_append] <;> omega
 ·split
  ·refine ⟨?_, ?_, ?_, ?_, ?_⟩ <;> simp only [List.length_append] <;> omega
  ·rename_i z1 z2
   have : P.pos * 1100000 + 1100000 ≤ b * 1100000 := by
    have : P.pos + 1 ≤ b := by omega
    omega
   refine ⟨?_, ?_, ?_, ?_, ?_⟩ <;> simp only [List.length_append] <;> omega
def LoopAt (w : World) (base : Nat) (N : Nd) (S pv : Value) (T : ByteArray) (F : Nat → St) (fl : Caps → List UInt8) (m : Nat) (all : Bool) (R : Option PS) (P : PS) (wr : World) : Prop :=
 PtAt base base N S pv T P wr ∧ Keep Nb w wr ∧ (∃ k, putS F T.toList fl m all k P = R ∧ T.toList.length + 1 ≤ k + P.pos) ∧ Small T.toList.length P
def ptPos (w : World) (p : Nat) : Nat := match w.cell? ⟨p, 14, none⟩ with
 | some (.int _ a) => a.toNat
 | _ => 0
theorem PtAt.ptPos {base p : Nat} {N : Nd} {S pv : Value} {T : ByteArray} {P : PS} {w : World} (h : PtAt base p N S pv T P w) : ptPos w p = P.pos := by
 obtain ⟨q, v, hB⟩ := h
 unfold Go.Proofs.Ytkidjbfapldmbaa.ptPos; rw [hB.blk.cell 14 (u := .int .i64 (P.pos : Int)) rfl]; simp
theorem LoopAt.next {w : World} {base : Nat} {N : Nd} {S pv : Value} {T : ByteArray} {F : Nat → St} {fl : Caps → List UInt8} {m : Nat} {all : Bool} {R : Option PS} {P : PS} {wz : World} {s : St} {a b k : Nat} (hF : F P.pos = s)
  (hgo : P.pos ≤ T.toList.length ∧ (all = true ∨ P.cnt < m)) (hb : ¬ (s.over = true ∨ 3000 < P.tries + s.tries)) (h3 : bestC s 0 = some (a, b)) (hs : P.pos ≤ a ∧ a ≤ b ∧ b ≤ T.toList.length)
  (hS : putS F T.toList fl m all (k + 1) P = R) (hk : T.toList.length + 1 ≤ k + 1 + P.pos) (hsm : Small T.toList.length P) (hn : T.toList.length ≤ 600) (hfl : (fl (bestC s)).length ≤ 1000000)
  (hP : PtAt base base N S pv T (stepP T.toList fl m P s a b) wz) (hK : Keep Nb w wz) : LoopAt w base N S pv T F fl m all R (stepP T.toList fl m P s a b) wz := by
 subst hF
 have hp := step_pos (L := T.toList) (fl := fl) (nth := m) P (F P.pos) hs.2.1
 refine ⟨hP, hK, ⟨k, ?_, by omega⟩, step_small hn hfl hsm hs.1 hs.2.1 hs.2.2 (by omega)⟩
 rw [putS_some hgo hb h3] at hS
 exact hS
theorem putfind_bad (base p : Nat) (N : Nd) (hcn : count N ≤ 900000) (hN : formedT N = true) (A : Option Addr) (cap : Nat) (pv : Value) (T : ByteArray) (P : PS) (hT : T.size ≤ 600) (hp : P.pos ≤ T.size) (ht : P.tries ≤ 3000) (s : St) (hs : found T.toList false N (formed_ok hN) P.pos = s)
  (w : World) (h : PtAt base p N (.slice A N.l.length cap) pv T P w) (hl : Lies w N (.slice A N.l.length cap)) (hb : s.over = true ∨ 3000 < P.tries + s.tries) :
  Calls Try.prog 74 #[.pointer (some ⟨p, 0, none⟩)] w fun e w' => e = .returned (.tuple #[.agg (fLit ⟨0, false, none⟩), .bool false, .int .i64 12]) ∧ KeepU base p w w' := by
 have h3 := (found_ok T.toList N (formed_ok hN) P.pos (by rw [toList_len]; exact hp)).1
 have hv : findV N T (P.pos : Int) false = findW (found T.toList false N (formed_ok hN) P.pos) := by
  rw [findV, dif_pos ⟨hN, hT, by omega, by omega⟩]; rfl
 rw [hs] at h3 hv
 by_cases ho : s.over = true
 ·rw [findW, if_pos ho, zero_lit] at hv
  refine (putfind_any base p N hcn A cap pv T P (by omega) (by omega) ⟨0, false, none⟩ false 12 (by simp) hv w h hl).mono ?_
  rintro e w' ⟨rfl, _, hk⟩
  exact ⟨by rw [findO, if_neg (fun h => absurd h.1 (by decide))], hk⟩
 ·rw [findW, if_neg ho, fLit_eq] at hv
  refine (putfind_any base p N hcn A cap pv T P (by omega) (by omega) s _ 0 h3 hv w h hl).mono ?_
  rintro e w' ⟨rfl, _, hk⟩
  exact ⟨by rw [findO, if_pos ⟨rfl, hb.resolve_left ho⟩, zero_lit], hk⟩
theorem putfind_good (base p : Nat) (N : Nd) (hcn : count N ≤ 900000) (hN : formedT N = true) (A : Option Addr) (cap : Nat) (pv : Value) (T : ByteArray) (P : PS) (hT : T.size ≤ 600) (hp : P.pos ≤ T.size) (ht : P.tries ≤ 3000) (s : St) (hs : found T.toList false N (formed_ok hN) P.pos = s)
  (w : World) (h : PtAt base p N (.slice A N.l.length cap) pv T P w) (hl : Lies w N (.slice A N.l.length cap)) (hb : ¬ (s.over = true ∨ 3000 < P.tries + s.tries)) :
  Calls Try.prog 74 #[.pointer (some ⟨p, 0, none⟩)] w fun e w' => e = .returned (.tuple #[.agg (fLit s), .bool (bestC s 0).isSome, .int .i64 0]) ∧ PtAt base p N (.slice A N.l.length cap) pv T { P with tries := P.tries + s.tries } w' ∧ KeepU base p w w' := by
 have h3 := found_ok T.toList N (formed_ok hN) P.pos (by rw [toList_len]; exact hp)
 have hv : findV N T (P.pos : Int) false = findW (found T.toList false N (formed_ok hN) P.pos) := by
  rw [findV, dif_pos ⟨hN, hT, by omega, by omega⟩]; rfl
 rw [hs] at h3 hv
 have ho : ¬ s.over = true := fun h => hb (.inl h)
 rw [findW, if_neg ho, fLit_eq, (h3.2 (by simpa using ho)).2.1] at hv
 refine (putfind_any base p N hcn A cap pv T P (by omega) (by omega) s _ 0 h3.1 hv w h hl).mono ?_
 rintro e w' ⟨rfl, hp, hk⟩
 exact ⟨by rw [findO, if_neg (fun h => hb (.inr h.2))], hp, hk⟩
set_option maxRecDepth 100000 in
set_option maxHeartbeats 16000000 in
theorem put_right (N : Nd) (hcn : count N ≤ 900000) (hN : formedT N = true) (A : Option Addr) (cap : Nat) (ps : List (Int × ByteArray)) (hz : sizeP ps ≤ 1000000) (pv : Value) (nth : Int) (m : Nat) (hm : max nth 1 = (m : Int)) (all : Bool) (T : ByteArray) (hR : rightB N ps nth T = true)
  (w : World) (hl : Lies w N (.slice A N.l.length cap)) (hp : PartsAt w pv ps) (k : Nat) (hk : T.toList.length + 1 ≤ k) :
  Calls Try.prog 51 #[.agg (Nd.row N (.slice A N.l.length cap)), pv, .int .i64 nth, .bool all, .string T] w fun e w' =>
   e = .returned (putW T.toList (putS (found T.toList false N (formed_ok hN)) T.toList (fillF T.toList ps) m all k begP)) ∧ Keep Nb w w' := by
 obtain ⟨R, hRR⟩ : ∃ R, R = putS (found T.toList false N (formed_ok hN)) T.toList (fillF T.toList ps) m all k begP := ⟨_, rfl⟩
 rw [← hRR]
 have hright := fun wx hx hq => right_any N hcn A cap ps pv nth T wx hx hq
 rw [hR] at hright
 have hT : T.size ≤ 600 := by
  unfold rightB at hR
  simp only [Bool.and_eq_true, decide_eq_true_eq] at hR
  exact hR.2.1.2
 have HT := Lib.hid hT
 have HRI := Lib.hid hright
 have HL := Lib.hid hl
 have HP := Lib.hid hp
 have HZ := Lib.hid hz
 have HM := Lib.hid hm
 have HCN := Lib.hid hcn
 have HST : Hid (∃ k, putS (found T.toList false N (formed_ok hN)) T.toList (fillF T.toList ps) m all k begP = R ∧ T.toList.length + 1 ≤ k + begP.pos) := Lib.hid ⟨k, hRR.symm, by simpa [begP] using hk⟩
 obtain ⟨A2, cap2, rfl, _⟩ := hp
 clear hright hR hT hl hz hm hRR hk hcn
 simp only [Nd.row]
 go_enter Try.func51, Try.ntmps51
 go_upto_region 1 with fail
 have hb0 : Blk (w.alloc (.cells (Nd.row N (.slice A N.l.length cap)) 33)) w.heap.size (Nd.row N (.slice A N.l.length cap)) 33 := Blk.new w _ _
 have hk0 : Keep Nb w (w.alloc (.cells (Nd.row N (.slice A N.l.length cap)) 33)) := Keep.alloc (Keep.refl _ _) _
 have hx : w.alloc (.cells #[.int .i64 N.h.k, .int .u8 N.h.c, .int .u64 N.h.s0, .int .u64 N.h.s1, .int .u64 N.h.s2, .int .u64 N.h.s3, .int .i64 N.h.n, .int .i64 N.h.mn, .int .i64 N.h.mx, .slice A N.l.length cap] 33) = w.alloc (.cells (Nd.row N (.slice A N.l.length cap)) 33) := rfl
 rw [hx]; clear hx
 generalize w.alloc (.cells (Nd.row N (.slice A N.l.length cap)) 33) = w1 at hb0 hk0 ⊢
 go_wp2_with (refine wpList_load_row rfl 33 (.tmp 5) rfl w.heap.size rfl 33 _ (0, 0) _ hb0 Try.underlying33 rfl (by kernel_rfl) ?_)
 refine (HRI.out w1 (Lies_keep hk0 HL.out) (HP.out.keep hk0 (fun _ _ h => h))).mono ?_
 rintro e w2 ⟨rfl, kd⟩
 have hb2 := hb0.keep kd (fun h => h)
 have HK2 := Lib.hid (hk0.trans kd (fun _ _ h => h))
 have hM := HM.out
 clear hb0 hk0 kd
 go_upto_region 4 with fail
 clear hM
 go_wp2_with ((refine wpList_load_row rfl 33 (.tmp 5) rfl w.heap.size rfl 33 _ (0, 0) _ hb2 Try.underlying33 rfl (by kernel_rfl) ?_); simp only [Nd.row])
 have hPT : PtAt w2.heap.size w2.heap.size N (.slice A N.l.length cap) (.slice A2 ps.length cap2) T begP (w2.alloc (.cells (ptRow N (.slice A N.l.length cap) (.slice A2 ps.length cap2) T (.pointer none) (.slice none 0 0) begP) 132)) :=
  ⟨_, _, Blk.new w2 _ _, rfl, rfl, .inl rfl, ⟨by simp [begP, Lib.byteCells], .inl ⟨rfl, by simp [begP, Lib.byteCells]⟩⟩, by simp [Value.ownBlock], Nat.le_refl _⟩
 have hkA : Keep Nb w2 (w2.alloc (.cells (ptRow N (.slice A N.l.length cap) (.slice A2 ps.length cap2) T (.pointer none) (.slice none 0 0) begP) 132)) := Keep.alloc (Keep.refl _ _) _
 have HL1 : Hid (LoopAt w w2.heap.size N (.slice A N.l.length cap) (.slice A2 ps.length cap2) T (found T.toList false N (formed_ok hN)) (fillF T.toList ps) m all R begP (w2.alloc (.cells (ptRow N (.slice A N.l.length cap) (.slice A2 ps.length cap2) T (.pointer none) (.slice none 0 0) begP) 132))) := Lib.hid
  ⟨hPT, HK2.out.trans hkA (fun _ _ h => h), HST.out, by simp [Small, begP]⟩
 have HBW : Hid (w.heap.size ≤ w2.heap.size) := Lib.hid HK2.out.size
 have HLT : Hid (T.toList.length ≤ 600) := Lib.hid (by rw [toList_len]; exact HT.out)
 have hx : w2.alloc (.cells #[.int .i64 N.h.k, .int .u8 N.h.c, .int .u64 N.h.s0, .int .u64 N.h.s1, .int .u64 N.h.s2, .int .u64 N.h.s3, .int .i64 N.h.n, .int .i64 N.h.mn, .int .i64 N.h.mx, .slice A N.l.length cap, .slice A2 ps.length cap2, .string T, .pointer none, .slice none 0 0, .int .i64 0, .int .i64 (-1), .int .i64 0, .int .i64 0, .int .i64 0] 132) = w2.alloc (.cells (ptRow N (.slice A N.l.length cap) (.slice A2 ps.length cap2) T (.pointer none) (.slice none 0 0) begP) 132) := rfl
 rw [hx]
 clear hx hPT hkA hb2 HK2 HST HRI
 generalize w2.alloc (.cells (ptRow N (.slice A N.l.length cap) (.slice A2 ps.length cap2) T (.pointer none) (.slice none 0 0) begP) 132) = w3 at HL1 ⊢
 generalize w2.heap.size = base at HL1 HBW ⊢
 go_loopw [14] (fun _ wr => ∃ P, Hid (LoopAt w base N (.slice A N.l.length cap) (.slice A2 ps.length cap2) T (found T.toList false N (formed_ok hN)) (fillF T.toList ps) m all R P wr)) (fun _ wr => T.size + 1 - ptPos wr base)
 case atStart => exact ⟨begP, HL1⟩
 case round =>
  clear HL1
  obtain ⟨P, HLA⟩ := hrel
  have HBL : Hid (base ≤ wr.heap.size) := Lib.hid (Nat.le_of_lt HLA.out.1.low.2)
  have HME : Hid (T.size + 1 - ptPos wr base = T.size + 1 - P.pos) := Lib.hid (by rw [HLA.out.1.ptPos])
  obtain ⟨q, v, hB⟩ := HLA.out.1
  have c14 := hB.blk.cell 14 (u := .int .i64 (P.pos : Int)) rfl
  have c17 := hB.blk.cell 17 (u := .int .i64 (P.cnt : Int)) rfl
  have lp := hB.blk.lt
  clear hB
  by_cases hgo : P.pos ≤ T.toList.length ∧ (all = true ∨ P.cnt < m)
  rotate_left
  ·have HRW : Hid (some P = R) := Lib.hid (by obtain ⟨k, hk, _⟩ := HLA.out.2.2.1; rw [← hk, putS_stop hgo])
   by_cases h1 : P.pos ≤ T.size
   ·have m1 : decide ((P.pos : Int) ≤ (T.size : Int)) = true := by simp; omega
    obtain ⟨rfl, h3⟩ : all = false ∧ ¬ P.cnt < m := by
     cases all with
     | true => exact absurd ⟨by rw [toList_len]; exact h1, .inl rfl⟩ hgo
     | false => exact ⟨rfl, fun h => hgo ⟨by rw [toList_len]; exact h1, .inr h⟩⟩
    have m2 : decide ((P.cnt : Int) < (m : Int)) = false := by simp; omega
    have m3 : decide (P.cnt < m) = false := by simpa using h3
    have m4 : decide (P.pos ≤ T.size) = true := by simpa using h1
    clear hgo h1 h3
    go_wp2_with fail
    refine (stay_any base base N (.slice A N.l.length cap) (.slice A2 ps.length cap2) T _ T.size wr HLA.out.1 (by have := HT.out; omega) HT.out (by have h9 := HLA.out.2.2.2; have h8 := HLT.out; unfold Small at h9; (try simp only []); omega) (by have h9 := HLA.out.2.2.2; have h8 := HLT.out; unfold Small at h9; (try simp only []); omega) (by have := (HLA.out.1).low; omega)).mono ?_
    rintro e z1 ⟨rfl, hz1, hkz1⟩
    have HKZ1 := Lib.hid (Keep.trans (HLA.out.2.1) hkz1.low (fun b hb h => by have := HBW.out; omega))
    have HOUT : Hid (P.out ++ seg T.toList P.pos T.size = P.out ++ T.toList.drop P.pos) := Lib.hid (by rw [seg_drop (by rw [toList_len]; exact Nat.le_refl _)])
    obtain ⟨qz, vz, hBz⟩ := hz1
    have HBZ := Lib.hid hBz
    have lz := hBz.blk.lt
    have d18 := hBz.blk.cell 18 (u := .int .i64 (P.pt : Int)) rfl
    clear hBz hkz1
    go_wp2_with fail
    refine (lenO_any base base 12 _ 132 qz vz _ z1 HBZ.out).mono ?_
    rintro e z2 ⟨rfl, rfl⟩
    rw [Lib.byteCells_length]
    by_cases hbig : 600 < (P.out ++ T.toList.drop P.pos).length
    ·obtain ⟨nz, hnz⟩ : ∃ nz, nz = (P.out ++ seg T.toList P.pos T.size).length := ⟨_, rfl⟩
     have m9 : decide ((600 : Int) < (nz : Int)) = true := by rw [hnz, HOUT.out]; simp only [decide_eq_true_eq]; omega
     have HE : Hid (Ending.returned (.tuple #[.string ⟨#[]⟩, .int .i64 0, .int .i64 14]) = .returned (putW T.toList R)) := Lib.hid (by rw [← HRW.out, putW, if_pos hbig])
     simp only [← hnz]
     clear hbig hnz
     go_wp2_with fail
     go_ret3
     exact ⟨HE.out, HKZ1.out⟩
    ·obtain ⟨nz, hnz⟩ : ∃ nz, nz = (P.out ++ seg T.toList P.pos T.size).length := ⟨_, rfl⟩
     have m9 : decide ((600 : Int) < (nz : Int)) = false := by rw [hnz, HOUT.out]; simp only [decide_eq_false_iff_not]; omega
     have HE : Hid (Ending.returned (.tuple #[.string ⟨(P.out ++ seg T.toList P.pos T.size).toArray⟩, .int .i64 (P.pt : Int), .int .i64 0]) = .returned (putW T.toList R)) := Lib.hid (by rw [← HRW.out, putW, if_neg hbig, HOUT.out])
     simp only [← hnz]
     clear hbig hnz
     go_wp2_with fail
     (refine wp_region_f [10] (InX (VX base z2) _) (by kernel_rfl) (InX.mk (Keep.drew (Keep.refl _ _))) (fun hI => ?_))
     have xx := HBZ.out.blk.notV (by decide) base
     have hD : Keep (VX base z2) z2 z2.drew := (Keep.refl _ _).drew
     have hBD := HBZ.out.keep (Keep.refl Nb z2).drew (fun h => h) (fun _ _ h => h)
     have hlz : base < z2.drew.heap.size := lz
     generalize z2.drew = x0 at hI hD hBD hlz ⊢
     (refine wpI_from 0 ?_; (iterate 3 ((first | (refine wpI_take3' (v := ?_) rfl (by kernel_rfl) (fun _ _ _ h => h) hI rfl ?_ ?_; rotate_left; (focus (rintro _ ⟨E, rfl⟩; go_simp; (try with_reducible rfl)))) | refine wpI_skip3' rfl (by kernel_rfl) (fun _ _ _ h => h) hI rfl ?_); simp only [Act.put, tk, Nat.reduceAdd])); refine wpI_till ?_)
     (refine wpI_from 4 ?_; (iterate 4 ((first | (refine wpI_take3' (v := ?_) rfl (by kernel_rfl) (fun _ _ _ h => h) hI rfl ?_ ?_; rotate_left; (focus (rintro _ ⟨E, rfl⟩; go_simp; (try with_reducible rfl)))) | refine wpI_skip3' rfl (by kernel_rfl) (fun _ _ _ h => h) hI rfl ?_); simp only [Act.put, tk, Nat.reduceAdd])); refine wpI_till ?_)
     (refine wpF_one 3 rfl (by kernel_rfl) rfl (fun K hK => ?_))
     go_simp
     refine (stringO_any base base 12 _ 132 qz vz _ x0 hBD (by omega)).mono ?_
     rintro e x1 ⟨rfl, kd⟩
     replace hD : Keep (VX base z2) z2 x1 := Keep.trans hD kd (fun b hb h => by
      refine Classical.byContradiction fun hn => ?_
      obtain ⟨g1, cs, fr, g2⟩ := h
      exact hn ⟨g1, cs, fr, (hD.block b hb hn) ▸ g2⟩)
     (refine hK _ _ (fun _ => InX.mk hD) (fun hI => ?_); have hI := hI (by simp); clear hK K; try simp only [Act.put, tk])
     (refine wpI_from 8 ?_; (iterate 1 ((first | (refine wpI_take3' (v := ?_) rfl (by kernel_rfl) (fun _ _ _ h => h) hI rfl ?_ ?_; rotate_left; (focus (rintro _ ⟨E, rfl⟩; go_simp; (try with_reducible rfl)))) | refine wpI_skip3' rfl (by kernel_rfl) (fun _ _ _ h => h) hI rfl ?_); simp only [Act.put, tk, Nat.reduceAdd])); refine wpI_till ?_)
     (refine wpF_one 9 rfl (by kernel_rfl) rfl (fun K hK => ?_))
     go_simp
     (refine hK _ _ (fun _ => InX.mk hD) (fun hI => ?_); have hI := hI (by simp); clear hK K; try simp only [Act.put, tk])
     (refine wpF_one 10 rfl (by kernel_rfl) rfl (fun K hK => ?_))
     go_simp
     (refine hK _ _ (fun h => absurd (by simp) h) (fun _ => ?_); clear hK K; try simp only [Act.put, tk])
     (refine wpF_done (by kernel_rfl) ?_ _)
     go_wp2_with fail
     go_ret3
     exact ⟨HE.out, Keep.trans HKZ1.out hD (fun b hb h => by have := HBW.out; have := h.1; omega)⟩
   ·have m1 : decide ((P.pos : Int) ≤ (T.size : Int)) = false := by simp; omega
    have m4 : decide (P.pos ≤ T.size) = false := by simpa using h1
    clear hgo h1
    go_wp2_with fail
    refine (stay_any base base N (.slice A N.l.length cap) (.slice A2 ps.length cap2) T _ T.size wr HLA.out.1 (by have := HT.out; omega) HT.out (by have h9 := HLA.out.2.2.2; have h8 := HLT.out; unfold Small at h9; (try simp only []); omega) (by have h9 := HLA.out.2.2.2; have h8 := HLT.out; unfold Small at h9; (try simp only []); omega) (by have := (HLA.out.1).low; omega)).mono ?_
    rintro e z1 ⟨rfl, hz1, hkz1⟩
    have HKZ1 := Lib.hid (Keep.trans (HLA.out.2.1) hkz1.low (fun b hb h => by have := HBW.out; omega))
    have HOUT : Hid (P.out ++ seg T.toList P.pos T.size = P.out ++ T.toList.drop P.pos) := Lib.hid (by rw [seg_drop (by rw [toList_len]; exact Nat.le_refl _)])
    obtain ⟨qz, vz, hBz⟩ := hz1
    have HBZ := Lib.hid hBz
    have lz := hBz.blk.lt
    have d18 := hBz.blk.cell 18 (u := .int .i64 (P.pt : Int)) rfl
    clear hBz hkz1
    go_wp2_with fail
    refine (lenO_any base base 12 _ 132 qz vz _ z1 HBZ.out).mono ?_
    rintro e z2 ⟨rfl, rfl⟩
    rw [Lib.byteCells_length]
    by_cases hbig : 600 < (P.out ++ T.toList.drop P.pos).length
    ·obtain ⟨nz, hnz⟩ : ∃ nz, nz = (P.out ++ seg T.toList P.pos T.size).length := ⟨_, rfl⟩
     have m9 : decide ((600 : Int) < (nz : Int)) = true := by rw [hnz, HOUT.out]; simp only [decide_eq_true_eq]; omega
     have HE : Hid (Ending.returned (.tuple #[.string ⟨#[]⟩, .int .i64 0, .int .i64 14]) = .returned (putW T.toList R)) := Lib.hid (by rw [← HRW.out, putW, if_pos hbig])
     simp only [← hnz]
     clear hbig hnz
     go_wp2_with fail
     go_ret3
     exact ⟨HE.out, HKZ1.out⟩
    ·obtain ⟨nz, hnz⟩ : ∃ nz, nz = (P.out ++ seg T.toList P.pos T.size).length := ⟨_, rfl⟩
     have m9 : decide ((600 : Int) < (nz : Int)) = false := by rw [hnz, HOUT.out]; simp only [decide_eq_false_iff_not]; omega
     have HE : Hid (Ending.returned (.tuple #[.string ⟨(P.out ++ seg T.toList P.pos T.size).toArray⟩, .int .i64 (P.pt : Int), .int .i64 0]) = .returned (putW T.toList R)) := Lib.hid (by rw [← HRW.out, putW, if_neg hbig, HOUT.out])
     simp only [← hnz]
     clear hbig hnz
     go_wp2_with fail
     (refine wp_region_f [10] (InX (VX base z2) _) (by kernel_rfl) (InX.mk (Keep.drew (Keep.refl _ _))) (fun hI => ?_))
     have xx := HBZ.out.blk.notV (by decide) base
     have hD : Keep (VX base z2) z2 z2.drew := (Keep.refl _ _).drew
     have hBD := HBZ.out.keep (Keep.refl Nb z2).drew (fun h => h) (fun _ _ h => h)
     have hlz : base < z2.drew.heap.size := lz
     generalize z2.drew = x0 at hI hD hBD hlz ⊢
     (refine wpI_from 0 ?_; (iterate 3 ((first | (refine wpI_take3' (v := ?_) rfl (by kernel_rfl) (fun _ _ _ h => h) hI rfl ?_ ?_; rotate_left; (focus (rintro _ ⟨E, rfl⟩; go_simp; (try with_reducible rfl)))) | refine wpI_skip3' rfl (by kernel_rfl) (fun _ _ _ h => h) hI rfl ?_); simp only [Act.put, tk, Nat.reduceAdd])); refine wpI_till ?_)
     (refine wpI_from 4 ?_; (iterate 4 ((first | (refine wpI_take3' (v := ?_) rfl (by kernel_rfl) (fun _ _ _ h => h) hI rfl ?_ ?_; rotate_left; (focus (rintro _ ⟨E, rfl⟩; go_simp; (try with_reducible rfl)))) | refine wpI_skip3' rfl (by kernel_rfl) (fun _ _ _ h => h) hI rfl ?_); simp only [Act.put, tk, Nat.reduceAdd])); refine wpI_till ?_)
     (refine wpF_one 3 rfl (by kernel_rfl) rfl (fun K hK => ?_))
     go_simp
     refine (stringO_any base base 12 _ 132 qz vz _ x0 hBD (by omega)).mono ?_
     rintro e x1 ⟨rfl, kd⟩
     replace hD : Keep (VX base z2) z2 x1 := Keep.trans hD kd (fun b hb h => by
      refine Classical.byContradiction fun hn => ?_
      obtain ⟨g1, cs, fr, g2⟩ := h
      exact hn ⟨g1, cs, fr, (hD.block b hb hn) ▸ g2⟩)
     (refine hK _ _ (fun _ => InX.mk hD) (fun hI => ?_); have hI := hI (by simp); clear hK K; try simp only [Act.put, tk])
     (refine wpI_from 8 ?_; (iterate 1 ((first | (refine wpI_take3' (v := ?_) rfl (by kernel_rfl) (fun _ _ _ h => h) hI rfl ?_ ?_; rotate_left; (focus (rintro _ ⟨E, rfl⟩; go_simp; (try with_reducible rfl)))) | refine wpI_skip3' rfl (by kernel_rfl) (fun _ _ _ h => h) hI rfl ?_); simp only [Act.put, tk, Nat.reduceAdd])); refine wpI_till ?_)
     (refine wpF_one 9 rfl (by kernel_rfl) rfl (fun K hK => ?_))
     go_simp
     (refine hK _ _ (fun _ => InX.mk hD) (fun hI => ?_); have hI := hI (by simp); clear hK K; try simp only [Act.put, tk])
     (refine wpF_one 10 rfl (by kernel_rfl) rfl (fun K hK => ?_))
     go_simp
     (refine hK _ _ (fun h => absurd (by simp) h) (fun _ => ?_); clear hK K; try simp only [Act.put, tk])
     (refine wpF_done (by kernel_rfl) ?_ _)
     go_wp2_with fail
     go_ret3
     exact ⟨HE.out, Keep.trans HKZ1.out hD (fun b hb h => by have := HBW.out; have := h.1; omega)⟩
  ·have HGO := Lib.hid hgo
   have h1 : P.pos ≤ T.size := by have := hgo.1; rwa [toList_len] at this
   have HPS := Lib.hid h1
   have m1 : decide ((P.pos : Int) ≤ (T.size : Int)) = true := by simp; omega
   have m4 : decide (P.pos ≤ T.size) = true := by simpa using h1
   have HTE : Hid (((all : Bool) || decide (P.cnt < m)) = true) := Lib.hid (by rcases hgo.2 with h | h <;> simp [h])
   obtain ⟨k, hk1, hk2⟩ := HLA.out.2.2.1
   obtain ⟨k, rfl⟩ : ∃ j, k = j + 1 := ⟨k - 1, by have := hgo.1; omega⟩
   have HS1 := Lib.hid hk1
   have HS2 := Lib.hid hk2
   have fok := found_ok T.toList N (formed_ok hN) P.pos hgo.1
   have HFO := Lib.hid fok
   clear hk1 hk2 fok
   generalize hs : found T.toList false N (formed_ok hN) P.pos = s at HFO
   have HSS := Lib.hid hs
   have HLW : Hid (Lies wr N (.slice A N.l.length cap)) := Lib.hid (Lies_keep HLA.out.2.1 HL.out)
   clear hgo h1 hs
   go_upto_region 5 with fail
   go_cut [49] (fun x wx => x = .bool true ∧ wx = wr)
   case first =>
    cases all with
    | true =>
     go_wp2_with fail
     go_meet
     exact ⟨rfl, rfl⟩
    | false =>
     have m2 : decide (P.cnt < m) = true := by simpa using HTE.out
     have m3 : decide ((P.cnt : Int) < (m : Int)) = true := by simpa using m2
     go_wp2_with fail
     go_meet
     exact ⟨rfl, rfl⟩
   case rest =>
   obtain ⟨rfl, rfl⟩ := hcut
   have HSM := Lib.hid HLA.out.2.2.2
   have HPW := Lib.hid HLA.out.1
   have HKW := Lib.hid HLA.out.2.1
   clear c14 c17 lp m1 m4 HTE HLA
   by_cases hbad : s.over = true ∨ 3000 < P.tries + s.tries
   ·have HRN : Hid (R = none) := Lib.hid (by rw [← HS1.out]; exact putS_bad HGO.out (by rw [HSS.out]; exact hbad))
    have HE : Hid (Ending.returned (.tuple #[.string ⟨#[]⟩, .int .i64 0, .int .i64 12]) = .returned (putW T.toList R)) := Lib.hid (by rw [HRN.out]; rfl)
    have HBD := Lib.hid hbad
    have HONE := Lib.hid (fLit_one ⟨0, false, none⟩)
    clear hbad
    go_wp2_with fail
    refine (putfind_bad base base N HCN.out hN A cap (.slice A2 ps.length cap2) T P HT.out HPS.out HSM.out.2.2.1 s HSS.out _ HPW.out HLW.out HBD.out).mono ?_
    rintro e w5 ⟨rfl, hk5⟩
    have HK5 := Lib.hid (Keep.trans HKW.out hk5.low (fun b hb h => by have := HBW.out; omega))
    clear hk5
    have hzb : Blk (w5.alloc (.cells zeroFnd 49)) w5.heap.size zeroFnd 49 := Blk.new w5 _ _
    go_upto_region 7 with (refine wpList_store_row rfl 49 (.tmp 14) (.tmp 53) rfl w5.heap.size _ rfl rfl 49 _ hzb sizeFo rfl HONE.out ?_)
    have hx : ∀ V : Array Value, (w5.alloc (.cells #[.complex .f64 0 0, .complex .f64 0 0, .complex .f64 0 0, .complex .f64 0 0, .complex .f64 0 0, .complex .f64 0 0, .complex .f64 0 0, .complex .f64 0 0, .complex .f64 0 0, .complex .f64 0 0, .complex .f64 0 0, .bool false, .bool false, .bool false, .bool false, .bool false, .bool false, .bool false, .bool false, .bool false, .bool false, .int .i64 0] 49)).setRow w5.heap.size V = (w5.alloc (.cells zeroFnd 49)).setRow w5.heap.size V := fun _ => rfl
    rw [hx]
    clear hx
    go_wp2_with fail
    go_ret3
    exact ⟨HE.out, Keep.setRow (Keep.alloc HK5.out _) (Or.inl HK5.out.size) _⟩
   ·have HBN := Lib.hid hbad
    have hover : s.over = false := by
     cases h9 : s.over with
     | false => rfl
     | true => exact absurd (.inl h9) hbad
    have HCK : Hid (CapsOk T.size (bestC s)) := Lib.hid (by have := (HFO.out.2 hover).1; rwa [toList_len] at this)
    have HONE := Lib.hid (fLit_one s)
    have HFS := Lib.hid (HFO.out.2 hover).2.2
    clear hbad hover
    go_wp2_with fail
    refine (putfind_good base base N HCN.out hN A cap (.slice A2 ps.length cap2) T P HT.out HPS.out HSM.out.2.2.1 s HSS.out _ HPW.out HLW.out HBN.out).mono ?_
    rintro e w5 ⟨rfl, hP5, hk5⟩
    have HK5 := Lib.hid (Keep.trans HKW.out hk5.low (fun b hb h => by have := HBW.out; omega))
    have HP5 := Lib.hid hP5
    have HB5 : Hid (base < w5.heap.size) := Lib.hid hP5.low.2
    clear hk5 hP5
    have hzb : Blk (w5.alloc (.cells zeroFnd 49)) w5.heap.size zeroFnd 49 := Blk.new w5 _ _
    go_upto_region 7 with (refine wpList_store_row rfl 49 (.tmp 14) (.tmp 53) rfl w5.heap.size _ rfl rfl 49 _ hzb sizeFo rfl HONE.out ?_)
    have hx : ∀ V : Array Value, (w5.alloc (.cells #[.complex .f64 0 0, .complex .f64 0 0, .complex .f64 0 0, .complex .f64 0 0, .complex .f64 0 0, .complex .f64 0 0, .complex .f64 0 0, .complex .f64 0 0, .complex .f64 0 0, .complex .f64 0 0, .complex .f64 0 0, .bool false, .bool false, .bool false, .bool false, .bool false, .bool false, .bool false, .bool false, .bool false, .bool false, .int .i64 0] 49)).setRow w5.heap.size V = (w5.alloc (.cells zeroFnd 49)).setRow w5.heap.size V := fun _ => rfl
    rw [hx]
    clear hx
    have hkA : Keep Nb w5 ((w5.alloc (.cells zeroFnd 49)).setRow w5.heap.size (fLit s)) := Keep.setRow (Keep.alloc (Keep.refl _ _) _) (Or.inl (Nat.le_refl _)) _
    have HP6 := Lib.hid (HP5.out.keep hkA (fun _ _ h => h))
    have HK6 := Lib.hid (HK5.out.trans hkA (fun _ _ h => h))
    have hF6 := hzb.setRow (fLit s)
    have HNE : Hid (w5.heap.size ≠ base) := Lib.hid (by have := HB5.out; omega)
    clear hkA hzb HP5 HK5 HB5
    generalize (w5.alloc (.cells zeroFnd 49)).setRow w5.heap.size (fLit s) = w6 at HP6 HK6 hF6 ⊢
    generalize w5.heap.size = f at hF6 HNE ⊢
    cases h0 : bestC s 0 with
    | none =>
     have HRW : Hid (some P = R) := Lib.hid (by rw [← HS1.out]; exact (putS_none HGO.out (by rw [HSS.out]; exact HBN.out) (by rw [HSS.out]; exact h0)).symm)
     clear h0 hF6
     go_wp2_with fail
     refine (stay_any base base N (.slice A N.l.length cap) (.slice A2 ps.length cap2) T _ T.size w6 HP6.out (by have := HT.out; omega) HT.out (by have h9 := HSM.out; have h8 := HLT.out; unfold Small at h9; (try simp only []); omega) (by have h9 := HSM.out; have h8 := HLT.out; unfold Small at h9; (try simp only []); omega) (by have := (HP6.out).low; omega)).mono ?_
     rintro e z1 ⟨rfl, hz1, hkz1⟩
     have HKZ1 := Lib.hid (Keep.trans (HK6.out) hkz1.low (fun b hb h => by have := HBW.out; omega))
     have HOUT : Hid (P.out ++ seg T.toList P.pos T.size = P.out ++ T.toList.drop P.pos) := Lib.hid (by rw [seg_drop (by rw [toList_len]; exact Nat.le_refl _)])
     obtain ⟨qz, vz, hBz⟩ := hz1
     have HBZ := Lib.hid hBz
     have lz := hBz.blk.lt
     have d18 := hBz.blk.cell 18 (u := .int .i64 (P.pt : Int)) rfl
     clear hBz hkz1
     go_wp2_with fail
     refine (lenO_any base base 12 _ 132 qz vz _ z1 HBZ.out).mono ?_
     rintro e z2 ⟨rfl, rfl⟩
     rw [Lib.byteCells_length]
     by_cases hbig : 600 < (P.out ++ T.toList.drop P.pos).length
     ·obtain ⟨nz, hnz⟩ : ∃ nz, nz = (P.out ++ seg T.toList P.pos T.size).length := ⟨_, rfl⟩
      have m9 : decide ((600 : Int) < (nz : Int)) = true := by rw [hnz, HOUT.out]; simp only [decide_eq_true_eq]; omega
      have HE : Hid (Ending.returned (.tuple #[.string ⟨#[]⟩, .int .i64 0, .int .i64 14]) = .returned (putW T.toList R)) := Lib.hid (by rw [← HRW.out, putW, if_pos hbig])
      simp only [← hnz]
      clear hbig hnz
      go_wp2_with fail
      go_ret3
      exact ⟨HE.out, HKZ1.out⟩
     ·obtain ⟨nz, hnz⟩ : ∃ nz, nz = (P.out ++ seg T.toList P.pos T.size).length := ⟨_, rfl⟩
      have m9 : decide ((600 : Int) < (nz : Int)) = false := by rw [hnz, HOUT.out]; simp only [decide_eq_false_iff_not]; omega
      have HE : Hid (Ending.returned (.tuple #[.string ⟨(P.out ++ seg T.toList P.pos T.size).toArray⟩, .int .i64 (P.pt : Int), .int .i64 0]) = .returned (putW T.toList R)) := Lib.hid (by rw [← HRW.out, putW, if_neg hbig, HOUT.out])
      simp only [← hnz]
      clear hbig hnz
      go_wp2_with fail
      (refine wp_region_f [10] (InX (VX base z2) _) (by kernel_rfl) (InX.mk (Keep.drew (Keep.refl _ _))) (fun hI => ?_))
      have xx := HBZ.out.blk.notV (by decide) base
      have hD : Keep (VX base z2) z2 z2.drew := (Keep.refl _ _).drew
      have hBD := HBZ.out.keep (Keep.refl Nb z2).drew (fun h => h) (fun _ _ h => h)
      have hlz : base < z2.drew.heap.size := lz
      generalize z2.drew = x0 at hI hD hBD hlz ⊢
      (refine wpI_from 0 ?_; (iterate 3 ((first | (refine wpI_take3' (v := ?_) rfl (by kernel_rfl) (fun _ _ _ h => h) hI rfl ?_ ?_; rotate_left; (focus (rintro _ ⟨E, rfl⟩; go_simp; (try with_reducible rfl)))) | refine wpI_skip3' rfl (by kernel_rfl) (fun _ _ _ h => h) hI rfl ?_); simp only [Act.put, tk, Nat.reduceAdd])); refine wpI_till ?_)
      (refine wpI_from 4 ?_; (iterate 4 ((first | (refine wpI_take3' (v := ?_) rfl (by kernel_rfl) (fun _ _ _ h => h) hI rfl ?_ ?_; rotate_left; (focus (rintro _ ⟨E, rfl⟩; go_simp; (try with_reducible rfl)))) | refine wpI_skip3' rfl (by kernel_rfl) (fun _ _ _ h => h) hI rfl ?_); simp only [Act.put, tk, Nat.reduceAdd])); refine wpI_till ?_)
      (refine wpF_one 3 rfl (by kernel_rfl) rfl (fun K hK => ?_))
      go_simp
      refine (stringO_any base base 12 _ 132 qz vz _ x0 hBD (by omega)).mono ?_
      rintro e x1 ⟨rfl, kd⟩
      replace hD : Keep (VX base z2) z2 x1 := Keep.trans hD kd (fun b hb h => by
       refine Classical.byContradiction fun hn => ?_
       obtain ⟨g1, cs, fr, g2⟩ := h
       exact hn ⟨g1, cs, fr, (hD.block b hb hn) ▸ g2⟩)
      (refine hK _ _ (fun _ => InX.mk hD) (fun hI => ?_); have hI := hI (by simp); clear hK K; try simp only [Act.put, tk])
      (refine wpI_from 8 ?_; (iterate 1 ((first | (refine wpI_take3' (v := ?_) rfl (by kernel_rfl) (fun _ _ _ h => h) hI rfl ?_ ?_; rotate_left; (focus (rintro _ ⟨E, rfl⟩; go_simp; (try with_reducible rfl)))) | refine wpI_skip3' rfl (by kernel_rfl) (fun _ _ _ h => h) hI rfl ?_); simp only [Act.put, tk, Nat.reduceAdd])); refine wpI_till ?_)
      (refine wpF_one 9 rfl (by kernel_rfl) rfl (fun K hK => ?_))
      go_simp
      (refine hK _ _ (fun _ => InX.mk hD) (fun hI => ?_); have hI := hI (by simp); clear hK K; try simp only [Act.put, tk])
      (refine wpF_one 10 rfl (by kernel_rfl) rfl (fun K hK => ?_))
      go_simp
      (refine hK _ _ (fun h => absurd (by simp) h) (fun _ => ?_); clear hK K; try simp only [Act.put, tk])
      (refine wpF_done (by kernel_rfl) ?_ _)
      go_wp2_with fail
      go_ret3
      exact ⟨HE.out, Keep.trans HKZ1.out hD (fun b hb h => by have := HBW.out; have := h.1; omega)⟩
    | some o =>
     obtain ⟨a, b⟩ := o
     have HAB := Lib.hid (HFS.out a b h0)
     have H0 := Lib.hid h0
     have HF6 := Lib.hid hF6
     have c0 := hF6.cell 0 (u := .complex .f64 (F a) (F b)) (by simp [fLit, h0, reV, imV])
     have lf := hF6.lt
     have v1 := fun wx => F_back (a := a) (by have := HAB.out; have := HLT.out; omega) wx
     have v2 := fun wx => F_back (a := b) (by have := HAB.out; have := HLT.out; omega) wx
     clear h0 hF6
     go_wp2_with fail
     (refine wp_region_f [9] (InX Nb _) (by kernel_rfl) (InX.mk (Keep.drew (Keep.refl _ _))) (fun hI => ?_))
     have xx : ∀ k, ¬ Nb k := fun _ h => h
     have hD : Keep Nb w6 w6.drew := (Keep.refl _ _).drew
     generalize w6.drew = x0 at hI hD ⊢
     (refine wpI_from 0 ?_; (iterate 9 ((first | (refine wpI_take3' (v := ?_) rfl (by kernel_rfl) (fun _ _ _ h => h) hI rfl ?_ ?_; rotate_left; (focus (rintro _ ⟨E, rfl⟩; go_simp; (try with_reducible rfl)))) | refine wpI_skip3' rfl (by kernel_rfl) (fun _ _ _ h => h) hI rfl ?_); simp only [Act.put, tk, Nat.reduceAdd])); refine wpI_till ?_)
     (refine wpF_one 9 rfl (by kernel_rfl) rfl (fun K hK => ?_))
     go_simp
     (refine hK _ _ (fun h => absurd (by simp) h) (fun _ => ?_); clear hK K; try simp only [Act.put, tk])
     (refine wpF_done (by kernel_rfl) ?_ _)
     have hP7 := HP6.out.keep hD (fun _ _ h => h)
     have HF7 := Lib.hid (HF6.out.keep hD (fun h => h))
     have HK7 := Lib.hid (HK6.out.trans hD (fun _ _ h => h))
     clear HF6 HP6 HK6 hD c0 lf hI v1 v2
     go_wp2_with fail
     refine (stay_any base base N (.slice A N.l.length cap) (.slice A2 ps.length cap2) T _ a x0 hP7 (by have := HAB.out; have := HLT.out; omega) HT.out (by have := HPS.out; have := HT.out; simp only []; omega) (by have h9 := HSM.out; have h8 := HPS.out; have h7 := HT.out; unfold Small at h9; simp only []; omega) (by have := hP7.low; omega)).mono ?_
     rintro e x6 ⟨rfl, hP6, hk6⟩
     have HF6 := Lib.hid (hk6.blk HF7.out HNE.out (by decide))
     have HK6 := Lib.hid (Keep.trans HK7.out hk6.low (fun b hb h => by have := HBW.out; omega))
     clear hk6 HF7 HK7 hP7
     have hB6' := hP6
     obtain ⟨q5, v5, hB5⟩ := hB6'
     have c15 := hB5.blk.cell 15 (u := .int .i64 P.last) rfl
     have lp5 := hB5.blk.lt
     clear hB5
     by_cases hab : a = b
     ·have m1 : ((a : Int) == (b : Int)) = true := by simp [hab]
      have m3 : (a == b) = true := by simp [hab]
      by_cases hla : (a : Int) = P.last
      ·have m2 : ((a : Int) == P.last) = true := by simpa using hla
       have HSA : Hid (a = b ∧ (a : Int) = P.last) := Lib.hid ⟨hab, hla⟩
       clear hab hla
       go_wp2_with fail
       refine (pass_any base base N (.slice A N.l.length cap) (.slice A2 ps.length cap2) T _ a x6 hP6 (by have := HAB.out; rw [toList_len] at this; omega) HT.out (by have h9 := HSM.out; have h8 := HPS.out; have h7 := HT.out; have h6 := seg_short T.toList P.pos a 600 (by have := HAB.out; rw [toList_len] at this; omega); unfold Small at h9; simp only [List.length_append]; omega) (by have := hP6.low; omega)).mono ?_
       rintro e x9 ⟨rfl, hP9, hk9⟩
       have hP9 : PtAt base base N (.slice A N.l.length cap) (.slice A2 ps.length cap2) T (stepP T.toList (fillF T.toList ps) m P s a b) x9 := by
        rw [← step_pass (L := T.toList) (fl := fillF T.toList ps) (m := m) (s := s) HSA.out]
        exact hP9
       have HLB : Hid (LoopAt w base N (.slice A N.l.length cap) (.slice A2 ps.length cap2) T (found T.toList false N (formed_ok hN)) (fillF T.toList ps) m all R (stepP T.toList (fillF T.toList ps) m P s a b) x9) := Lib.hid
        (LoopAt.next HSS.out HGO.out HBN.out H0.out HAB.out HS1.out HS2.out HSM.out HLT.out (by have := fillF_len HLT.out (bestC s) ps; have := HZ.out; omega) hP9 (Keep.trans HK6.out hk9.low (fun b hb h => by have := HBW.out; omega)))
       have HMS : Hid (T.size + 1 - ptPos x9 base < T.size + 1 - ptPos wc base) := Lib.hid (by
        rw [HME.out, hP9.ptPos]
        have := step_pos (L := T.toList) (fl := fillF T.toList ps) (nth := m) P s HAB.out.2.1
        have := HAB.out
        have := HPS.out
        rw [toList_len] at *
        omega)
       clear hP9 hk9
       go_wp2_with fail
       go_roundw
       case rel => exact ⟨_, HLB⟩
       case measure => exact HMS.out
      ·have m2 : ((a : Int) == P.last) = false := beq_eq_false_iff_ne.2 hla
       have HSA : Hid (¬ (a = b ∧ (a : Int) = P.last)) := Lib.hid (fun h => hla h.2)
       clear hab hla
       have HP6 := Lib.hid hP6
       obtain ⟨q6, v6, hB6⟩ := hP6
       have c17 := hB6.blk.cell 17 (u := .int .i64 (P.cnt : Int)) rfl
       have f17 := hB6.blk.frozen 17
       have lp6 := hB6.blk.lt
       obtain ⟨c1, hc1⟩ : ∃ c1, c1 = P.cnt + 1 := ⟨_, rfl⟩
       have W1 : IntKind.i64.wrap ((P.cnt : Int) + 1) = (c1 : Int) := by rw [IntKind.wrap_i64]; have := HSM.out.2.2.2.1; have := HPS.out; have := HT.out; omega
       have HC1 := Lib.hid hc1
       clear hB6 hc1
       go_upto_region 15 with fail
       have hP7 : PtAt base base N (.slice A N.l.length cap) (.slice A2 ps.length cap2) T ⟨P.out ++ seg T.toList P.pos a, P.pos, P.last, P.tries + s.tries, P.cnt + 1, P.pt⟩ (x6.setCell ⟨base, 17, none⟩ (.int .i64 (c1 : Int))) :=
        HP6.out.set ⟨P.out ++ seg T.toList P.pos a, P.pos, P.last, P.tries + s.tries, P.cnt + 1, P.pt⟩ 17 _ (by decide) rfl (fun _ _ => by rw [HC1.out]; rfl)
       have hF7 : Blk (x6.setCell ⟨base, 17, none⟩ (.int .i64 (c1 : Int))) f (fLit s) 49 := HF6.out.setOther (p := ⟨base, 17, none⟩) (fun e => HNE.out e.symm) _
       have hK7 : Keep Nb w (x6.setCell ⟨base, 17, none⟩ (.int .i64 (c1 : Int))) := Keep.setCell HK6.out (Or.inl HBW.out) _
       have HP7 := Lib.hid hP7
       have HF7 := Lib.hid hF7
       have HK7 := Lib.hid hK7
       clear c17 f17 lp6 W1 HP6 HF6 HK6 hF7 hK7
       generalize x6.setCell ⟨base, 17, none⟩ (.int .i64 (c1 : Int)) = x7 at hP7 HP7 HF7 HK7 ⊢
       obtain ⟨q7, v7, hB7⟩ := hP7
       have c17 := hB7.blk.cell 17 (u := .int .i64 (c1 : Int)) (by rw [HC1.out]; rfl)
       have lp7 := hB7.blk.lt
       obtain ⟨inn, hinn⟩ : ∃ i, decide (m ≤ P.cnt + 1) = i := ⟨_, rfl⟩
       have hin : decide ((m : Int) ≤ (c1 : Int)) = inn := by rw [← hinn, HC1.out, decide_eq_decide]; omega
       have hin2 : decide (m ≤ c1) = inn := by rw [← hinn, HC1.out]
       have HIN := Lib.hid hinn
       clear hB7 hinn
       (refine wp_region_f [8] (InX Nb _) (by kernel_rfl) (InX.mk (Keep.drew (Keep.refl _ _))) (fun hI => ?_))
       have xx : ∀ k, ¬ Nb k := fun _ h => h
       have hD : Keep Nb x7 x7.drew := (Keep.refl _ _).drew
       generalize x7.drew = x8 at hI hD ⊢
       (refine wpI_from 0 ?_; (iterate 1 ((first | (refine wpI_take3' (v := ?_) rfl (by kernel_rfl) (fun _ _ _ h => h) hI rfl ?_ ?_; rotate_left; (focus (rintro _ ⟨E, rfl⟩; go_simp; (try with_reducible rfl)))) | refine wpI_skip3' rfl (by kernel_rfl) (fun _ _ _ h => h) hI rfl ?_); simp only [Act.put, tk, Nat.reduceAdd])); refine wpI_till ?_)
       (refine wpF_row3 1 rfl (by kernel_rfl) (fun _ _ _ _ h => h) hI rfl 49 (.tmp 14) rfl f rfl 49 _ (0, 0) _ (fun _ hS => InX.bk hS HF7.out (fun h => h)) Try.underlying49 rfl (by kernel_rfl) ?_; simp only [Act.put, tk])
       (refine wpI_from 2 ?_; (iterate 6 ((first | (refine wpI_take3' (v := ?_) rfl (by kernel_rfl) (fun _ _ _ h => h) hI rfl ?_ ?_; rotate_left; (focus (rintro _ ⟨E, rfl⟩; go_simp; (try with_reducible rfl)))) | refine wpI_skip3' rfl (by kernel_rfl) (fun _ _ _ h => h) hI rfl ?_); simp only [Act.put, tk, Nat.reduceAdd])); refine wpI_till ?_)
       (refine wpF_one 8 rfl (by kernel_rfl) rfl (fun K hK => ?_))
       go_simp
       refine (take_any base base N (.slice A N.l.length cap) (.slice A2 ps.length cap2) T _ ps s a b inn x8 (HP7.out.keep hD (fun _ _ h => h)) (HP.out.keep (HK7.out.trans hD (fun _ _ h => h)) (fun _ _ h => h)) HZ.out HCK.out H0.out HAB.out.2.1 (by have := HAB.out; rw [toList_len] at this; exact this.2.2) HT.out (by have h9 := HSM.out; have h8 := HPS.out; have h7 := HT.out; have h6 := seg_short T.toList P.pos a 600 (by have := HAB.out; rw [toList_len] at this; omega); unfold Small at h9; simp only [List.length_append]; omega) (by have h9 := HSM.out; have h8 := HPS.out; have h7 := HT.out; unfold Small at h9; simp only []; omega) (by have := hD.size; have := lp7; omega)).mono ?_
       rintro e x9 ⟨rfl, hP9, hk9⟩
       rw [← HIN.out, step_eq HSA.out] at hP9
       (refine hK _ _ (fun h => absurd (by simp) h) (fun _ => ?_); clear hK K; try simp only [Act.put, tk])
       (refine wpF_done (by kernel_rfl) ?_ _)
       have HLB : Hid (LoopAt w base N (.slice A N.l.length cap) (.slice A2 ps.length cap2) T (found T.toList false N (formed_ok hN)) (fillF T.toList ps) m all R (stepP T.toList (fillF T.toList ps) m P s a b) x9) := Lib.hid
        (LoopAt.next HSS.out HGO.out HBN.out H0.out HAB.out HS1.out HS2.out HSM.out HLT.out (by have := fillF_len HLT.out (bestC s) ps; have := HZ.out; omega) hP9 (Keep.trans (HK7.out.trans hD (fun _ _ h => h)) hk9.low (fun b hb h => by have := HBW.out; omega)))
       have HMS : Hid (T.size + 1 - ptPos x9 base < T.size + 1 - ptPos wc base) := Lib.hid (by
        rw [HME.out, hP9.ptPos]
        have := step_pos (L := T.toList) (fl := fillF T.toList ps) (nth := m) P s HAB.out.2.1
        have := HAB.out
        have := HPS.out
        rw [toList_len] at *
        omega)
       clear hP9 hk9 hD
       go_wp2_with fail
       go_roundw
       case rel => exact ⟨_, HLB⟩
       case measure => exact HMS.out
     ·have m1 : ((a : Int) == (b : Int)) = false := beq_eq_false_iff_ne.2 (by omega)
      have m3 : (a == b) = false := beq_eq_false_iff_ne.2 hab
      have HSA : Hid (¬ (a = b ∧ (a : Int) = P.last)) := Lib.hid (fun h => hab h.1)
      clear hab
      have HP6 := Lib.hid hP6
      obtain ⟨q6, v6, hB6⟩ := hP6
      have c17 := hB6.blk.cell 17 (u := .int .i64 (P.cnt : Int)) rfl
      have f17 := hB6.blk.frozen 17
      have lp6 := hB6.blk.lt
      obtain ⟨c1, hc1⟩ : ∃ c1, c1 = P.cnt + 1 := ⟨_, rfl⟩
      have W1 : IntKind.i64.wrap ((P.cnt : Int) + 1) = (c1 : Int) := by rw [IntKind.wrap_i64]; have := HSM.out.2.2.2.1; have := HPS.out; have := HT.out; omega
      have HC1 := Lib.hid hc1
      clear hB6 hc1
      go_upto_region 15 with fail
      have hP7 : PtAt base base N (.slice A N.l.length cap) (.slice A2 ps.length cap2) T ⟨P.out ++ seg T.toList P.pos a, P.pos, P.last, P.tries + s.tries, P.cnt + 1, P.pt⟩ (x6.setCell ⟨base, 17, none⟩ (.int .i64 (c1 : Int))) :=
       HP6.out.set ⟨P.out ++ seg T.toList P.pos a, P.pos, P.last, P.tries + s.tries, P.cnt + 1, P.pt⟩ 17 _ (by decide) rfl (fun _ _ => by rw [HC1.out]; rfl)
      have hF7 : Blk (x6.setCell ⟨base, 17, none⟩ (.int .i64 (c1 : Int))) f (fLit s) 49 := HF6.out.setOther (p := ⟨base, 17, none⟩) (fun e => HNE.out e.symm) _
      have hK7 : Keep Nb w (x6.setCell ⟨base, 17, none⟩ (.int .i64 (c1 : Int))) := Keep.setCell HK6.out (Or.inl HBW.out) _
      have HP7 := Lib.hid hP7
      have HF7 := Lib.hid hF7
      have HK7 := Lib.hid hK7
      clear c17 f17 lp6 W1 HP6 HF6 HK6 hF7 hK7
      generalize x6.setCell ⟨base, 17, none⟩ (.int .i64 (c1 : Int)) = x7 at hP7 HP7 HF7 HK7 ⊢
      obtain ⟨q7, v7, hB7⟩ := hP7
      have c17 := hB7.blk.cell 17 (u := .int .i64 (c1 : Int)) (by rw [HC1.out]; rfl)
      have lp7 := hB7.blk.lt
      obtain ⟨inn, hinn⟩ : ∃ i, decide (m ≤ P.cnt + 1) = i := ⟨_, rfl⟩
      have hin : decide ((m : Int) ≤ (c1 : Int)) = inn := by rw [← hinn, HC1.out, decide_eq_decide]; omega
      have hin2 : decide (m ≤ c1) = inn := by rw [← hinn, HC1.out]
      have HIN := Lib.hid hinn
      clear hB7 hinn
      (refine wp_region_f [8] (InX Nb _) (by kernel_rfl) (InX.mk (Keep.drew (Keep.refl _ _))) (fun hI => ?_))
      have xx : ∀ k, ¬ Nb k := fun _ h => h
      have hD : Keep Nb x7 x7.drew := (Keep.refl _ _).drew
      generalize x7.drew = x8 at hI hD ⊢
      (refine wpI_from 0 ?_; (iterate 1 ((first | (refine wpI_take3' (v := ?_) rfl (by kernel_rfl) (fun _ _ _ h => h) hI rfl ?_ ?_; rotate_left; (focus (rintro _ ⟨E, rfl⟩; go_simp; (try with_reducible rfl)))) | refine wpI_skip3' rfl (by kernel_rfl) (fun _ _ _ h => h) hI rfl ?_); simp only [Act.put, tk, Nat.reduceAdd])); refine wpI_till ?_)
      (refine wpF_row3 1 rfl (by kernel_rfl) (fun _ _ _ _ h => h) hI rfl 49 (.tmp 14) rfl f rfl 49 _ (0, 0) _ (fun _ hS => InX.bk hS HF7.out (fun h => h)) Try.underlying49 rfl (by kernel_rfl) ?_; simp only [Act.put, tk])
      (refine wpI_from 2 ?_; (iterate 6 ((first | (refine wpI_take3' (v := ?_) rfl (by kernel_rfl) (fun _ _ _ h => h) hI rfl ?_ ?_; rotate_left; (focus (rintro _ ⟨E, rfl⟩; go_simp; (try with_reducible rfl)))) | refine wpI_skip3' rfl (by kernel_rfl) (fun _ _ _ h => h) hI rfl ?_); simp only [Act.put, tk, Nat.reduceAdd])); refine wpI_till ?_)
      (refine wpF_one 8 rfl (by kernel_rfl) rfl (fun K hK => ?_))
      go_simp
      refine (take_any base base N (.slice A N.l.length cap) (.slice A2 ps.length cap2) T _ ps s a b inn x8 (HP7.out.keep hD (fun _ _ h => h)) (HP.out.keep (HK7.out.trans hD (fun _ _ h => h)) (fun _ _ h => h)) HZ.out HCK.out H0.out HAB.out.2.1 (by have := HAB.out; rw [toList_len] at this; exact this.2.2) HT.out (by have h9 := HSM.out; have h8 := HPS.out; have h7 := HT.out; have h6 := seg_short T.toList P.pos a 600 (by have := HAB.out; rw [toList_len] at this; omega); unfold Small at h9; simp only [List.length_append]; omega) (by have h9 := HSM.out; have h8 := HPS.out; have h7 := HT.out; unfold Small at h9; simp only []; omega) (by have := hD.size; have := lp7; omega)).mono ?_
      rintro e x9 ⟨rfl, hP9, hk9⟩
      rw [← HIN.out, step_eq HSA.out] at hP9
      (refine hK _ _ (fun h => absurd (by simp) h) (fun _ => ?_); clear hK K; try simp only [Act.put, tk])
      (refine wpF_done (by kernel_rfl) ?_ _)
      have HLB : Hid (LoopAt w base N (.slice A N.l.length cap) (.slice A2 ps.length cap2) T (found T.toList false N (formed_ok hN)) (fillF T.toList ps) m all R (stepP T.toList (fillF T.toList ps) m P s a b) x9) := Lib.hid
       (LoopAt.next HSS.out HGO.out HBN.out H0.out HAB.out HS1.out HS2.out HSM.out HLT.out (by have := fillF_len HLT.out (bestC s) ps; have := HZ.out; omega) hP9 (Keep.trans (HK7.out.trans hD (fun _ _ h => h)) hk9.low (fun b hb h => by have := HBW.out; omega)))
      have HMS : Hid (T.size + 1 - ptPos x9 base < T.size + 1 - ptPos wc base) := Lib.hid (by
       rw [HME.out, hP9.ptPos]
       have := step_pos (L := T.toList) (fl := fillF T.toList ps) (nth := m) P s HAB.out.2.1
       have := HAB.out
       have := HPS.out
       rw [toList_len] at *
       omega)
      clear hP9 hk9 hD
      go_wp2_with fail
      go_roundw
      case rel => exact ⟨_, HLB⟩
      case measure => exact HMS.out
end Go.Proofs.Ytkidjbfapldmbaa
