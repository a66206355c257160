/- SubstFirst. -/
import Derived.Test.YtkidjbfapldmbaaOpenP
namespace Go.Proofs.Ytkidjbfapldmbaa
set_option linter.unusedVariables false
set_option linter.unusedSimpArgs false
open Go.RowKit P8

theorem ba_ext {a b : ByteArray} (h : a.toList = b.toList) : a = b := by
  rw [ByteArray.toList_eq, ByteArray.toList_eq] at h
  exact ByteArray.ext (Array.ext' h)
theorem ba_append (a b : ByteArray) : (a ++ b).toList = a.toList ++ b.toList := by
  rw [ByteArray.toList_eq, ByteArray.toList_eq, ByteArray.toList_eq, ByteArray.data_append, Array.toList_append]
theorem ba_seg (T : ByteArray) (i j : Nat) : (T.extract i j).toList = seg T.toList i j := by
  unfold seg
  rw [ByteArray.toList_eq, ByteArray.data_extract, Array.toList_extract, ByteArray.toList_eq]
theorem ba_mk (l : List UInt8) : (ByteArray.mk l.toArray).toList = l := by rw [ByteArray.toList_eq]

theorem putS_once {F : Nat → St} {L : List UInt8} {fl : Caps → List UInt8} (hov : (F 0).over = false) (ht : (F 0).tries ≤ 3000) (k : Nat) :
    putS F L fl 1 false (k + 2) begP = match bestC (F 0) 0 with
      | none => some begP
      | some (a, b) => some (stepP L fl 1 begP (F 0) a b) := by
  have h1 : begP.pos ≤ L.length ∧ ((false : Bool) = true ∨ begP.cnt < 1) := ⟨Nat.zero_le _, .inr (by simp [begP])⟩
  have h2 : ¬ ((F begP.pos).over = true ∨ 3000 < begP.tries + (F begP.pos).tries) := by
    rw [show begP.pos = 0 from rfl, hov]; simp [begP]; omega
  cases h3 : bestC (F 0) 0 with
  | none => rw [putS_none h1 h2 h3]
  | some o =>
    obtain ⟨a, b⟩ := o
    rw [putS_some h1 h2 h3, show begP.pos = 0 from rfl]
    refine putS_stop (fun h => ?_)
    rcases h.2 with h | h
    · cases h
    · unfold stepP at h
      rw [if_neg (by simp [begP])] at h
      split at h <;> simp [begP] at h

theorem fst_step (L : List UInt8) (fl : Caps → List UInt8) (s : St) (a b : Nat) (hab : a ≤ b) (hb : b ≤ L.length) : (stepP L fl 1 begP s a b).pt = 1 ∧ (stepP L fl 1 begP s a b).out ++ L.drop (stepP L fl 1 begP s a b).pos = L.take a ++ fl (bestC s) ++ L.drop b := by
  unfold stepP
  rw [if_neg (by simp [begP])]
  have e0 : seg L 0 a = L.take a := by simp [seg]
  split
  · rename_i h
    subst h
    refine ⟨by simp [begP], ?_⟩
    simp only [begP, List.nil_append, e0]
    have e1 : seg L a (a + 1) ++ L.drop (a + 1) = L.drop a := by
      unfold seg
      rw [show L.drop (a + 1) = (L.drop a).drop 1 by rw [List.drop_drop], show a + 1 - a = 1 by omega, List.take_append_drop]
    simp [e1]
  · refine ⟨by simp [begP], ?_⟩
    simp [begP, e0]

/-- What one is put in for the first. -/
theorem fst_put (N : Nd) (ps : List (Int × ByteArray)) (nth : Int) (h01 : nth = 0 ∨ nth = 1) (T : ByteArray) : ∃ (o : ByteArray) (k er g : Int) (s : St) (ok : Bool),
    putV N ps nth false T = .tuple #[.string o, .int .i64 k, .int .i64 er] ∧ findV N T 0 false = .tuple #[.agg (fLit s), .bool ok, .int .i64 g] ∧ (er ≠ 0 ∨ g ≠ 0 → o = ⟨#[]⟩ ∧ k = 0) ∧
    (er = 0 → g = 0 → T.size ≤ 600 ∧ (ok = false → o = T ∧ k = 0) ∧ (ok = true → CapsOk T.size (bestC s) ∧ ∃ a b, bestC s 0 = some (a, b) ∧ a ≤ b ∧ b ≤ T.size ∧ k = 1 ∧ o = T.extract 0 a ++ ⟨(fillF T.toList ps (bestC s)).toArray⟩ ++ T.extract b T.size)) := by
  have hm : (max nth 1).toNat = 1 := by omega
  obtain ⟨s0, ok0, g0, hv0, _⟩ := findV_form N T 0 false
  by_cases hr : rightB N ps nth T = true
  rotate_left
  · exact ⟨⟨#[]⟩, 0, 1, g0, s0, ok0, by rw [putV, dif_neg hr], hv0, fun _ => ⟨rfl, rfl⟩, fun h => absurd h (by decide)⟩
  obtain ⟨hf, hT, _⟩ := right_formed hr
  rw [putV, dif_pos hr, runV, hm]
  have fo := found_ok T.toList N (formed_ok hf) 0 (Nat.zero_le _)
  have hv : findV N T 0 false = findW (found T.toList false N (formed_ok hf) 0) := by
    rw [findV, dif_pos ⟨hf, hT, by omega, by omega⟩]; rfl
  by_cases hov : (found T.toList false N (formed_ok hf) 0).over = true
  · rw [findW, if_pos hov, zero_lit] at hv
    rw [putS_bad ⟨Nat.zero_le _, .inr (by simp [begP])⟩ (.inl hov)]
    exact ⟨⟨#[]⟩, 0, 12, 12, _, false, rfl, hv, fun _ => ⟨rfl, rfl⟩, fun h => absurd h (by decide)⟩
  have hov' : (found T.toList false N (formed_ok hf) 0).over = false := by simpa using hov
  obtain ⟨f1, f2⟩ := fo
  obtain ⟨f3, f4, f5⟩ := f2 hov'
  rw [findW, if_neg hov, fLit_eq, f4] at hv
  have hrun : putS (found T.toList false N (formed_ok hf)) T.toList (fillF T.toList ps) 1 false (T.toList.length + 1) begP = match bestC (found T.toList false N (formed_ok hf) 0) 0 with
      | none => some begP
      | some (a, b) => some (stepP T.toList (fillF T.toList ps) 1 begP (found T.toList false N (formed_ok hf) 0) a b) := by
    rw [← putS_once (L := T.toList) (fl := fillF T.toList ps) hov' f1 T.toList.length]
    exact (putS_enough (span_ok _) (T.toList.length + 1) begP (by simp [begP]) 1).symm
  rw [hrun]
  generalize found T.toList false N (formed_ok hf) 0 = s at *
  cases h0 : bestC s 0 with
  | none =>
    rw [h0] at hv
    have hl : ¬ 600 < (begP.out ++ T.toList.drop begP.pos).length := by simp only [begP, List.nil_append, List.drop_zero]; rw [toList_len]; omega
    refine ⟨⟨(begP.out ++ T.toList.drop begP.pos).toArray⟩, 0, 0, 0, s, false, by rw [putW, if_neg hl]; rfl, hv, fun h => absurd h (by simp), fun _ _ => ⟨hT, fun _ => ⟨by simp [begP, ByteArray.toList_eq], rfl⟩, fun h => by cases h⟩⟩
  | some ab =>
    obtain ⟨a, b⟩ := ab
    rw [h0] at hv
    obtain ⟨_, x2, x3⟩ := f5 a b h0
    rw [toList_len] at f3 x3
    obtain ⟨y1, y2⟩ := fst_step T.toList (fillF T.toList ps) s a b x2 (by rw [toList_len]; exact x3)
    simp only []
    by_cases hl : 600 < ((stepP T.toList (fillF T.toList ps) 1 begP s a b).out ++ T.toList.drop (stepP T.toList (fillF T.toList ps) 1 begP s a b).pos).length
    · exact ⟨⟨#[]⟩, 0, 14, 0, s, true, by rw [putW, if_pos hl], hv, fun _ => ⟨rfl, rfl⟩, fun h => absurd h (by decide)⟩
    · refine ⟨_, _, 0, 0, s, true, by rw [putW, if_neg hl], hv, fun h => absurd h (by simp), fun _ _ => ⟨hT, fun h => (by cases h), fun _ => ⟨f3, a, b, h0, x2, x3, by rw [y1]; rfl, ?_⟩⟩⟩
      rw [y2]
      refine ba_ext ?_
      rw [ba_append, ba_append, ba_seg, ba_seg, ba_mk (fillF T.toList ps (bestC s)), ba_mk (T.toList.take a ++ fillF T.toList ps (bestC s) ++ T.toList.drop b), seg_drop (L := T.toList) (i := b) (j := T.size) (by rw [toList_len]; exact Nat.le_refl _)]
      simp [seg]

theorem fir_false (N : Nd) (v : Value) (A2 : Option Addr) (n2 c2 : Nat) (one : Bool) (T : ByteArray) (w : World) (hl : Lies w N v) (hf : few N = false) :
    Calls Try.prog 17 #[.agg (Nd.row N v), .slice A2 n2 c2, .bool one, .string T] w fun e w' => e = .returned (.bool true) ∧ Keep Nb w w' := by
  have h1 := fun wx => few_any N v wx
  rw [hf] at h1
  have H1 := Lib.hid h1; clear h1 hf
  obtain ⟨A, cap, rfl, _⟩ := Lies_def.1 hl
  simp only [Nd.row]
  go_enter Try.func17, Try.ntmps17
  go_wp2_with fail
  refine (awake18 _).mono ?_
  rintro e w2 ⟨rfl, hk2⟩
  have hb1 : Blk w2 w.heap.size (Nd.row N (.slice A N.l.length cap)) 27 := (Blk.new w _ _).keep hk2 id
  have hk2' : Keep Nb w w2 := Keep.trans (by repeat (first | assumption | exact Keep.refl _ _ | refine Keep.alloc ?_ _ | refine Keep.drew ?_ | refine Keep.setCell ?_ (Or.inl (by simp)) _ | refine Keep.setRow ?_ (Or.inl (by simp)) _)) hk2 (fun _ _ h => h)
  (have o0 := Blk.cell hb1 0 (u := .int .i64 N.h.k) rfl; have o1 := Blk.cell hb1 1 (u := .int .u8 N.h.c) rfl; have o2 := Blk.cell hb1 2 (u := .int .u64 N.h.s0) rfl; have o3 := Blk.cell hb1 3 (u := .int .u64 N.h.s1) rfl; have o4 := Blk.cell hb1 4 (u := .int .u64 N.h.s2) rfl; have o5 := Blk.cell hb1 5 (u := .int .u64 N.h.s3) rfl; have o6 := Blk.cell hb1 6 (u := .int .i64 N.h.n) rfl; have o7 := Blk.cell hb1 7 (u := .int .i64 N.h.mn) rfl; have o8 := Blk.cell hb1 8 (u := .int .i64 N.h.mx) rfl; have o9 := Blk.cell hb1 9 (u := (.slice A N.l.length cap)) rfl)
  have lo := hb1.lt
  go_wp2_with fail
  refine (H1.out _ (Lies_keep hk2' hl)).mono ?_
  rintro e w3 ⟨rfl, hk3⟩
  go_wp2_with fail
  refine (awake18 _).mono ?_
  rintro e w4 ⟨rfl, hk4⟩
  go_wp2_with fail
  go_ret
  exact ⟨rfl, (hk2'.trans hk3 (fun _ _ h => h)).trans hk4 (fun _ _ h => h)⟩


set_option maxRecDepth 100000 in
set_option maxHeartbeats 4000000 in
theorem fir_parts (N : Nd) (v : Value) (ps : List (Int × ByteArray)) (hsz : ∀ x ∈ ps, x.2.size ≤ 9223372036854775807) (A2 : Option Addr) (c2 : Nat) (one : Bool) (T : ByteArray) (w : World) (hl : Lies w N v) (hp : PartsAt w (.slice A2 ps.length c2) ps) (hf : few N = true) (hfp : fewP ps = false) :
    Calls Try.prog 17 #[.agg (Nd.row N v), .slice A2 ps.length c2, .bool one, .string T] w fun e w' => e = .returned (.bool true) ∧ Keep Nb w w' := by
  have h1 := fun wx => few_any N v wx
  have hcT := (few_count hf).1
  rw [hf] at h1
  have H1 := Lib.hid h1; clear h1 hf
  obtain ⟨A, cap, rfl, _⟩ := Lies_def.1 hl
  have HPA := Lib.hid hp
  have HFW := Lib.hid (fun wx hx => few18_any ps hsz (.slice A2 ps.length c2) wx hx)
  have hFP := HFW.out
  rw [hfp] at hFP
  have HFP := Lib.hid hFP
  clear hFP HFW hp hfp hcT
  simp only [Nd.row]
  go_enter Try.func17, Try.ntmps17
  go_wp2_with fail
  refine (awake18 _).mono ?_
  rintro e w2 ⟨rfl, hk2⟩
  have hb1 : Blk w2 w.heap.size (Nd.row N (.slice A N.l.length cap)) 27 := (Blk.new w _ _).keep hk2 id
  have hk2' : Keep Nb w w2 := Keep.trans (by repeat (first | assumption | exact Keep.refl _ _ | refine Keep.alloc ?_ _ | refine Keep.drew ?_ | refine Keep.setCell ?_ (Or.inl (by simp)) _ | refine Keep.setRow ?_ (Or.inl (by simp)) _)) hk2 (fun _ _ h => h)
  (have o0 := Blk.cell hb1 0 (u := .int .i64 N.h.k) rfl; have o1 := Blk.cell hb1 1 (u := .int .u8 N.h.c) rfl; have o2 := Blk.cell hb1 2 (u := .int .u64 N.h.s0) rfl; have o3 := Blk.cell hb1 3 (u := .int .u64 N.h.s1) rfl; have o4 := Blk.cell hb1 4 (u := .int .u64 N.h.s2) rfl; have o5 := Blk.cell hb1 5 (u := .int .u64 N.h.s3) rfl; have o6 := Blk.cell hb1 6 (u := .int .i64 N.h.n) rfl; have o7 := Blk.cell hb1 7 (u := .int .i64 N.h.mn) rfl; have o8 := Blk.cell hb1 8 (u := .int .i64 N.h.mx) rfl; have o9 := Blk.cell hb1 9 (u := (.slice A N.l.length cap)) rfl)
  have lo := hb1.lt
  go_wp2_with fail
  refine (H1.out _ (Lies_keep hk2' hl)).mono ?_
  rintro e w3 ⟨rfl, hk3⟩
  have hb3 := hb1.keep hk3 (fun h => h)
  have hk3' := hk2'.trans hk3 (fun _ _ h => h)
  clear o0 o1 o2 o3 o4 o5 o6 o7 o8 o9 lo hb1 hk2 hk2' hk3
  (have o0 := Blk.cell hb3 0 (u := .int .i64 N.h.k) rfl; have o1 := Blk.cell hb3 1 (u := .int .u8 N.h.c) rfl; have o2 := Blk.cell hb3 2 (u := .int .u64 N.h.s0) rfl; have o3 := Blk.cell hb3 3 (u := .int .u64 N.h.s1) rfl; have o4 := Blk.cell hb3 4 (u := .int .u64 N.h.s2) rfl; have o5 := Blk.cell hb3 5 (u := .int .u64 N.h.s3) rfl; have o6 := Blk.cell hb3 6 (u := .int .i64 N.h.n) rfl; have o7 := Blk.cell hb3 7 (u := .int .i64 N.h.mn) rfl; have o8 := Blk.cell hb3 8 (u := .int .i64 N.h.mx) rfl; have o9 := Blk.cell hb3 9 (u := (.slice A N.l.length cap)) rfl)
  have lo := hb3.lt
  clear o0 o1 o2 o3 o4 o5 o6 o7 o8 o9
  go_wp2_with fail
  refine (HFP.out _ (HPA.out.keep hk3' (fun _ _ h => h))).mono ?_
  rintro e w4 ⟨rfl, hk4⟩
  go_wp2_with fail
  refine (awake18 _).mono ?_
  rintro e w5 ⟨rfl, hk5⟩
  go_wp2_with fail
  go_ret
  exact ⟨rfl, (hk3'.trans hk4 (fun _ _ h => h)).trans hk5 (fun _ _ h => h)⟩

set_option maxRecDepth 100000 in
set_option maxHeartbeats 8000000 in
theorem fir_true (N : Nd) (v : Value) (ps : List (Int × ByteArray)) (hsz : ∀ x ∈ ps, x.2.size ≤ 9223372036854775807) (A2 : Option Addr) (c2 : Nat) (one : Bool) (T : ByteArray) (w : World) (hl : Lies w N v) (hp : PartsAt w (.slice A2 ps.length c2) ps) (hf : few N = true) (hfp : fewP ps = true) :
    Calls Try.prog 17 #[.agg (Nd.row N v), .slice A2 ps.length c2, .bool one, .string T] w fun e w' => e = .returned (.bool true) ∧ Keep Nb w w' := by
  obtain ⟨hps1, hps2⟩ := fewP_size hfp
  have h1 := fun wx => few_any N v wx
  have hcT := (few_count hf).1
  rw [hf] at h1
  have H1 := Lib.hid h1; clear h1 hf
  obtain ⟨A, cap, rfl, _⟩ := Lies_def.1 hl
  have HPA := Lib.hid hp
  have HFW := Lib.hid (fun wx hx => few18_any ps hsz (.slice A2 ps.length c2) wx hx)
  have hFP := HFW.out
  rw [hfp] at hFP
  have HFP := Lib.hid hFP
  obtain ⟨nth, hnth⟩ : ∃ nth : Int, nth = (if one = true then 1 else 0) := ⟨_, rfl⟩
  have h01 : nth = 0 ∨ nth = 1 := by rw [hnth]; split <;> simp
  obtain ⟨o, k, er, g, s, ok, hput, hfind, hne, heq⟩ := fst_put N ps nth h01 T
  have HTH := Lib.hid (fun wx hx => theirs_any 400 (by omega) N (by omega) (.slice A N.l.length cap) wx hx)
  have hP := fun A1 n1 pv wx hx hp => put_any N (by omega) A1 n1 ps (by omega) pv nth false T wx hx hp
  rw [hput] at hP
  have HP := Lib.hid hP
  have hF := fun A1 n1 wx hx => find_any N (by omega) A1 n1 T 0 false wx hx
  rw [hfind] at hF
  have HF := Lib.hid hF
  have HONE := Lib.hid (fLit_one s)
  have HTP := Lib.hid (fun pv wx hp => theirparts_any ps (by omega) pv wx hp)
  have HNE := Lib.hid hne
  have HEQ := Lib.hid heq
  have HS2 := Lib.hid hps2
  have HNT := Lib.hid hnth
  clear hP hput hne heq hcT hF hfind hFP HFW hp hfp hps1 hps2 hnth h01
  simp only [Nd.row]
  go_enter Try.func17, Try.ntmps17
  go_wp2_with fail
  refine (awake18 _).mono ?_
  rintro e w2 ⟨rfl, hk2⟩
  have hb1 : Blk w2 w.heap.size (Nd.row N (.slice A N.l.length cap)) 27 := (Blk.new w _ _).keep hk2 id
  have hk2' : Keep Nb w w2 := Keep.trans (by repeat (first | assumption | exact Keep.refl _ _ | refine Keep.alloc ?_ _ | refine Keep.drew ?_ | refine Keep.setCell ?_ (Or.inl (by simp)) _ | refine Keep.setRow ?_ (Or.inl (by simp)) _)) hk2 (fun _ _ h => h)
  (have o0 := Blk.cell hb1 0 (u := .int .i64 N.h.k) rfl; have o1 := Blk.cell hb1 1 (u := .int .u8 N.h.c) rfl; have o2 := Blk.cell hb1 2 (u := .int .u64 N.h.s0) rfl; have o3 := Blk.cell hb1 3 (u := .int .u64 N.h.s1) rfl; have o4 := Blk.cell hb1 4 (u := .int .u64 N.h.s2) rfl; have o5 := Blk.cell hb1 5 (u := .int .u64 N.h.s3) rfl; have o6 := Blk.cell hb1 6 (u := .int .i64 N.h.n) rfl; have o7 := Blk.cell hb1 7 (u := .int .i64 N.h.mn) rfl; have o8 := Blk.cell hb1 8 (u := .int .i64 N.h.mx) rfl; have o9 := Blk.cell hb1 9 (u := (.slice A N.l.length cap)) rfl)
  have lo := hb1.lt
  go_wp2_with fail
  refine (H1.out _ (Lies_keep hk2' hl)).mono ?_
  rintro e w3 ⟨rfl, hk3⟩
  have hb3 := hb1.keep hk3 (fun h => h)
  have hk3' := hk2'.trans hk3 (fun _ _ h => h)
  clear o0 o1 o2 o3 o4 o5 o6 o7 o8 o9 lo hb1 hk2 hk2' hk3
  (have o0 := Blk.cell hb3 0 (u := .int .i64 N.h.k) rfl; have o1 := Blk.cell hb3 1 (u := .int .u8 N.h.c) rfl; have o2 := Blk.cell hb3 2 (u := .int .u64 N.h.s0) rfl; have o3 := Blk.cell hb3 3 (u := .int .u64 N.h.s1) rfl; have o4 := Blk.cell hb3 4 (u := .int .u64 N.h.s2) rfl; have o5 := Blk.cell hb3 5 (u := .int .u64 N.h.s3) rfl; have o6 := Blk.cell hb3 6 (u := .int .i64 N.h.n) rfl; have o7 := Blk.cell hb3 7 (u := .int .i64 N.h.mn) rfl; have o8 := Blk.cell hb3 8 (u := .int .i64 N.h.mx) rfl; have o9 := Blk.cell hb3 9 (u := (.slice A N.l.length cap)) rfl)
  have lo := hb3.lt
  clear o0 o1 o2 o3 o4 o5 o6 o7 o8 o9
  go_wp2_with fail
  refine (HFP.out _ (HPA.out.keep hk3' (fun _ _ h => h))).mono ?_
  rintro e w3' ⟨rfl, hkp⟩
  replace hk3' := hk3'.trans hkp (fun _ _ h => h)
  replace hb3 := hb3.keep hkp (fun h => h)
  clear hkp lo
  (have o0 := Blk.cell hb3 0 (u := .int .i64 N.h.k) rfl; have o1 := Blk.cell hb3 1 (u := .int .u8 N.h.c) rfl; have o2 := Blk.cell hb3 2 (u := .int .u64 N.h.s0) rfl; have o3 := Blk.cell hb3 3 (u := .int .u64 N.h.s1) rfl; have o4 := Blk.cell hb3 4 (u := .int .u64 N.h.s2) rfl; have o5 := Blk.cell hb3 5 (u := .int .u64 N.h.s3) rfl; have o6 := Blk.cell hb3 6 (u := .int .i64 N.h.n) rfl; have o7 := Blk.cell hb3 7 (u := .int .i64 N.h.mn) rfl; have o8 := Blk.cell hb3 8 (u := .int .i64 N.h.mx) rfl; have o9 := Blk.cell hb3 9 (u := (.slice A N.l.length cap)) rfl)
  have lo := hb3.lt
  go_upto_if 32 with fail
  go_cut [9] (fun x wx => x = .int .i64 nth ∧ wx = w3')
  case first =>
    cases one with
    | true =>
      obtain rfl : nth = 1 := HNT.out
      go_wp2_with fail
      go_meet
      exact ⟨rfl, rfl⟩
    | false =>
      obtain rfl : nth = 0 := HNT.out
      go_wp2_with fail
      go_meet
      exact ⟨rfl, rfl⟩
  case rest =>
  obtain ⟨rfl, rfl⟩ := hcut
  go_wp2_with fail
  refine (HTH.out _ (Lies_keep hk3' hl)).mono ?_
  rintro e w4 ⟨S1, rfl, hB1, hk4⟩
  obtain ⟨A1, n1, rfl, _⟩ := LiesP_def.1 hB1
  have HL4 := Lib.hid (LiesP_all hB1)
  have HK4 := Lib.hid (hk3'.trans hk4 (fun _ _ h => h))
  clear o0 o1 o2 o3 o4 o5 o6 o7 o8 o9 lo hb3 hk4 hk3' H1 hB1
  simp only [Nd.row]
  go_upto_region 7 with fail
  have hu : Blk (w4.alloc (.cells (Nd.row N (.slice A1 N.l.length n1)) 33)) w4.heap.size (Nd.row N (.slice A1 N.l.length n1)) 33 := Blk.new w4 _ _
  have ku : Keep Nb w4 (w4.alloc (.cells (Nd.row N (.slice A1 N.l.length n1)) 33)) := Keep.alloc (Keep.refl _ _) _
  have hx : w4.alloc (.cells #[.int .i64 N.h.k, .int .u8 N.h.c, .int .u64 N.h.s0, .int .u64 N.h.s1, .int .u64 N.h.s2, .int .u64 N.h.s3, .int .i64 N.h.n, .int .i64 N.h.mn, .int .i64 N.h.mx, .slice A1 N.l.length n1] 33) = w4.alloc (.cells (Nd.row N (.slice A1 N.l.length n1)) 33) := rfl
  rw [hx]
  clear hx
  generalize w4.alloc (.cells (Nd.row N (.slice A1 N.l.length n1)) 33) = w5 at hu ku ⊢
  generalize w4.heap.size = u5 at hu ⊢
  have HL5 := Lib.hid (Lies_keep ku HL4.out)
  have HK5 := Lib.hid (HK4.out.trans ku (fun _ _ h => h))
  have HU5 := Lib.hid hu
  clear hu ku HL4 HK4
  (refine wp_region_f [12] (InX Nb _) (by kernel_rfl) (InX.mk (Keep.drew (Keep.refl _ _))) (fun hI => ?_))
  have xx : ∀ k, ¬ Nb k := fun _ h => h
  have hD : Keep Nb w5 w5.drew := (Keep.refl _ _).drew
  generalize w5.drew = x0 at hI hD ⊢
  (refine wpF_row3 0 rfl (by kernel_rfl) (fun _ _ _ _ h => h) hI rfl 33 (.tmp 10) rfl u5 rfl 33 _ (0, 0) _ (fun _ hS => InX.bk hS HU5.out (fun h => h)) Try.underlying33 rfl (by kernel_rfl) ?_; simp only [Act.put, tk])
  (refine wpI_from 1 ?_; (iterate 1 ((first | (refine wpI_take3' (v := ?_) rfl (by kernel_rfl) (fun _ _ _ h => h) hI rfl ?_ ?_; rotate_left; (focus (rintro _ ⟨E, rfl⟩; go_simp; (try with_reducible rfl)))) | refine wpI_skip3' rfl (by kernel_rfl) (fun _ _ _ h => h) hI rfl ?_); simp only [Act.put, tk, Nat.reduceAdd])); refine wpI_till ?_)
  (refine wpI_from 3 ?_; (iterate 2 ((first | (refine wpI_take3' (v := ?_) rfl (by kernel_rfl) (fun _ _ _ h => h) hI rfl ?_ ?_; rotate_left; (focus (rintro _ ⟨E, rfl⟩; go_simp; (try with_reducible rfl)))) | refine wpI_skip3' rfl (by kernel_rfl) (fun _ _ _ h => h) hI rfl ?_); simp only [Act.put, tk, Nat.reduceAdd])); refine wpI_till ?_)
  (refine wpF_one 2 rfl (by kernel_rfl) rfl (fun K hK => ?_))
  go_simp
  refine (HTP.out _ x0 (HPA.out.keep (HK5.out.trans hD (fun _ _ h => h)) (fun _ _ h => h))).mono ?_
  rintro e x2 ⟨A6, c6, rfl, hp2, kd⟩
  replace hD := hD.trans kd (fun _ _ h => h)
  clear kd
  (refine hK _ _ (fun _ => InX.mk hD) (fun hI => ?_); have hI := hI (by simp); clear hK K; try simp only [Act.put, tk])
  (refine wpF_one 5 rfl (by kernel_rfl) rfl (fun K hK => ?_))
  go_simp
  refine (HP.out A1 n1 _ x2 (Lies_keep hD HL5.out) hp2).mono ?_
  rintro e x3 ⟨rfl, kd⟩
  replace hD := hD.trans kd (fun _ _ h => h)
  clear kd hp2
  (refine hK _ _ (fun _ => InX.mk hD) (fun hI => ?_); have hI := hI (by simp); clear hK K; try simp only [Act.put, tk])
  (refine wpI_from 6 ?_; (iterate 6 ((first | (refine wpI_take3' (v := ?_) rfl (by kernel_rfl) (fun _ _ _ h => h) hI rfl ?_ ?_; rotate_left; (focus (rintro _ ⟨E, rfl⟩; go_simp; (try with_reducible rfl)))) | refine wpI_skip3' rfl (by kernel_rfl) (fun _ _ _ h => h) hI rfl ?_); simp only [Act.put, tk, Nat.reduceAdd])); refine wpI_till ?_)
  (refine wpF_one 12 rfl (by kernel_rfl) rfl (fun K hK => ?_))
  go_simp
  (refine hK _ _ (fun h => absurd (by simp) h) (fun _ => ?_); clear hK K; try simp only [Act.put, tk])
  (refine wpF_done (by kernel_rfl) ?_ _)
  have hu6 := HU5.out.keep hD (fun h => h)
  have HL6 := Lib.hid (Lies_keep hD HL5.out)
  have HK6 := Lib.hid (HK5.out.trans hD (fun _ _ h => h))
  clear hD hI HU5 HL5 HK5
  go_wp2_with (refine wpList_load_row rfl 33 (.tmp 10) rfl u5 rfl 33 _ (0, 0) _ hu6 Try.underlying33 rfl (by kernel_rfl) ?_)
  refine (HF.out A1 n1 x3 HL6.out).mono ?_
  rintro e x4 ⟨rfl, kd⟩
  have HK7 := Lib.hid (HK6.out.trans kd (fun _ _ h => h))
  clear kd hu6 HK6 HL6
  have hzb : Blk (x4.alloc (.cells zeroFnd 49)) x4.heap.size zeroFnd 49 := Blk.new x4 _ _
  go_upto_region 9 with (refine wpList_store_row rfl 49 (.tmp 14) (.tmp 49) rfl x4.heap.size _ rfl rfl 49 _ hzb sizeFo rfl HONE.out ?_)
  have hx : ∀ V : Array Value, (x4.alloc (.cells #[.complex .f64 0 0, .complex .f64 0 0, .complex .f64 0 0, .complex .f64 0 0, .complex .f64 0 0, .complex .f64 0 0, .complex .f64 0 0, .complex .f64 0 0, .complex .f64 0 0, .complex .f64 0 0, .complex .f64 0 0, .bool false, .bool false, .bool false, .bool false, .bool false, .bool false, .bool false, .bool false, .bool false, .bool false, .int .i64 0] 49)).setRow x4.heap.size V = (x4.alloc (.cells zeroFnd 49)).setRow x4.heap.size V := fun _ => rfl
  rw [hx]
  clear hx
  have HK8 : Hid (Keep Nb w ((x4.alloc (.cells zeroFnd 49)).setRow x4.heap.size (fLit s))) := Lib.hid (Keep.setRow (Keep.alloc HK7.out _) (Or.inl HK7.out.size) _)
  have HF8 := Lib.hid (hzb.setRow (fLit s))
  clear hzb HK7
  generalize (x4.alloc (.cells zeroFnd 49)).setRow x4.heap.size (fLit s) = x5 at HK8 HF8 ⊢
  generalize x4.heap.size = f at HF8 ⊢
  by_cases z1 : er = 0
  · by_cases z2 : g = 0
    · obtain ⟨hT, g1, g2⟩ := HEQ.out z1 z2
      subst z1 z2
      have HT := Lib.hid hT
      cases ok with
      | false =>
        obtain ⟨rfl, rfl⟩ := g1 rfl
        clear g1 g2 hT
        go_wp2_with fail
        go_ret
        exact ⟨rfl, HK8.out⟩
      | true =>
        obtain ⟨hc, a, b, h0, hab, hb, rfl, ho⟩ := g2 rfl
        have HO := Lib.hid ho
        have HC := Lib.hid hc
        have c0 := HF8.out.cell 0 (u := .complex .f64 (F a) (F b)) (by simp [fLit, h0, reV, imV])
        have lf := HF8.out.lt
        have v1 := fun wx => F_back (a := a) (by omega) wx
        have v2 := fun wx => F_back (a := b) (by omega) wx
        have HFI := Lib.hid (fun pv wx hp => fill_any T HT.out s HC.out ps (by have := HS2.out; omega) pv wx hp)
        have i0 : (0 : Int) ≤ (a : Int) := by omega
        have i1 : (a : Int) ≤ (T.size : Int) := by omega
        have i2 : (0 : Int) ≤ (b : Int) := by omega
        have i3 : (b : Int) ≤ (T.size : Int) := by omega
        clear g1 g2 hT h0 hab hb hc ho
        go_wp2_with fail
        (refine wp_region_f [9] (InX Nb _) (by kernel_rfl) (InX.mk (Keep.drew (Keep.refl _ _))) (fun hI => ?_))
        have hD : Keep Nb x5 x5.drew := (Keep.refl _ _).drew
        generalize x5.drew = y0 at hI hD ⊢
        (refine wpI_from 0 ?_; (iterate 9 ((first | (refine wpI_take3' (v := ?_) rfl (by kernel_rfl) (fun _ _ _ h => h) hI rfl ?_ ?_; rotate_left; (focus (rintro _ ⟨E, rfl⟩; go_simp; (try with_reducible rfl)))) | refine wpI_skip3' rfl (by kernel_rfl) (fun _ _ _ h => h) hI rfl ?_); simp only [Act.put, tk, Nat.reduceAdd])); refine wpI_till ?_)
        (refine wpF_one 9 rfl (by kernel_rfl) rfl (fun K hK => ?_))
        go_simp
        (refine hK _ _ (fun h => absurd (by simp) h) (fun _ => ?_); clear hK K; try simp only [Act.put, tk])
        (refine wpF_done (by kernel_rfl) ?_ _)
        have HF9 := Lib.hid (HF8.out.keep hD (fun h => h))
        have HK9 := Lib.hid (HK8.out.trans hD (fun _ _ h => h))
        clear HF8 HK8 hD hI c0 lf v1 v2
        go_wp2_with fail
        (refine wp_region_f [19] (InX Nb _) (by kernel_rfl) (InX.mk (Keep.drew (Keep.refl _ _))) (fun hI => ?_))
        have hD : Keep Nb y0 y0.drew := (Keep.refl _ _).drew
        generalize y0.drew = y1 at hI hD ⊢
        (refine wpI_from 0 ?_; (iterate 8 ((first | (refine wpI_take3' (v := ?_) rfl (by kernel_rfl) (fun _ _ _ h => h) hI rfl ?_ ?_; rotate_left; (focus (rintro _ ⟨E, rfl⟩; go_simp; (try with_reducible rfl)))) | refine wpI_skip3' rfl (by kernel_rfl) (fun _ _ _ h => h) hI rfl ?_); simp only [Act.put, tk, Nat.reduceAdd])); refine wpI_till ?_)
        (refine wpI_from 9 ?_; (iterate 1 ((first | (refine wpI_take3' (v := ?_) rfl (by kernel_rfl) (fun _ _ _ h => h) hI rfl ?_ ?_; rotate_left; (focus (rintro _ ⟨E, rfl⟩; go_simp; (try with_reducible rfl)))) | refine wpI_skip3' rfl (by kernel_rfl) (fun _ _ _ h => h) hI rfl ?_); simp only [Act.put, tk, Nat.reduceAdd])); refine wpI_till ?_)
        (refine wpF_row3 10 rfl (by kernel_rfl) (fun _ _ _ _ h => h) hI rfl 49 (.tmp 14) rfl f rfl 49 _ (0, 0) _ (fun _ hS => InX.bk hS HF9.out (fun h => h)) Try.underlying49 rfl (by kernel_rfl) ?_; simp only [Act.put, tk])
        (refine wpI_from 13 ?_; (iterate 3 ((first | (refine wpI_take3' (v := ?_) rfl (by kernel_rfl) (fun _ _ _ h => h) hI rfl ?_ ?_; rotate_left; (focus (rintro _ ⟨E, rfl⟩; go_simp; (try with_reducible rfl)))) | refine wpI_skip3' rfl (by kernel_rfl) (fun _ _ _ h => h) hI rfl ?_); simp only [Act.put, tk, Nat.reduceAdd])); refine wpI_till ?_)
        (refine wpF_one 8 rfl (by kernel_rfl) rfl (fun K hK => ?_))
        go_simp
        refine (HTP.out _ y1 (HPA.out.keep (HK9.out.trans hD (fun _ _ h => h)) (fun _ _ h => h))).mono ?_
        rintro e y2 ⟨A7, c7, rfl, hp2, kd⟩
        replace hD := hD.trans kd (fun _ _ h => h)
        clear kd
        (refine hK _ _ (fun _ => InX.mk hD) (fun hI => ?_); have hI := hI (by simp); clear hK K; try simp only [Act.put, tk])
        (refine wpF_one 11 rfl (by kernel_rfl) rfl (fun K hK => ?_))
        go_simp
        refine (HFI.out _ y2 hp2).mono ?_
        rintro e y3 ⟨rfl, kd⟩
        replace hD := hD.trans kd (fun _ _ h => h)
        clear kd hp2
        (refine hK _ _ (fun _ => InX.mk hD) (fun hI => ?_); have hI := hI (by simp); clear hK K; try simp only [Act.put, tk])
        have ho := HO.out
        clear HO HEQ HNE HP
        subst ho
        obtain ⟨X, hX, hX1⟩ : ∃ X, X = T.extract 0 a ∧ X.size ≤ 600 := ⟨_, rfl, by have := HT.out; simp; omega⟩
        obtain ⟨Y, hY, hY1⟩ : ∃ Y : ByteArray, Y = ⟨(fillF T.toList ps (bestC s)).toArray⟩ ∧ Y.size ≤ 1000000 := ⟨_, rfl, by have h1 := fillF_len (L := T.toList) (by rw [toList_len]; exact HT.out) (bestC s) ps; have := HS2.out; simp [ByteArray.size]; omega⟩
        obtain ⟨Z, hZ, hZ1⟩ : ∃ Z, Z = T.extract b T.size ∧ Z.size ≤ 600 := ⟨_, rfl, by have := HT.out; simp; omega⟩
        rw [← hX, ← hY, ← hZ]
        have hs1 : ¬ 9223372036854775807 < X.size + Y.size := by omega
        have hs2 : ¬ 9223372036854775807 < X.size + Y.size + Z.size := by omega
        clear hX hY hZ hX1 hY1 hZ1
        (refine wpI_from 12 ?_; (iterate 1 ((first | (refine wpI_take3' (v := ?_) rfl (by kernel_rfl) (fun _ _ _ h => h) hI rfl ?_ ?_; rotate_left; (focus (rintro _ ⟨E, rfl⟩; go_simp; (try with_reducible rfl)))) | refine wpI_skip3' rfl (by kernel_rfl) (fun _ _ _ h => h) hI rfl ?_); simp only [Act.put, tk, Nat.reduceAdd])); refine wpI_till ?_)
        (refine wpI_from 16 ?_; (iterate 3 ((first | (refine wpI_take3' (v := ?_) rfl (by kernel_rfl) (fun _ _ _ h => h) hI rfl ?_ ?_; rotate_left; (focus (rintro _ ⟨E, rfl⟩; go_simp; (try with_reducible rfl)))) | refine wpI_skip3' rfl (by kernel_rfl) (fun _ _ _ h => h) hI rfl ?_); simp only [Act.put, tk, Nat.reduceAdd])); refine wpI_till ?_)
        (refine wpF_one 19 rfl (by kernel_rfl) rfl (fun K hK => ?_))
        go_simp
        (refine hK _ _ (fun h => absurd (by simp) h) (fun _ => ?_); clear hK K; try simp only [Act.put, tk])
        (refine wpF_done (by kernel_rfl) ?_ _)
        go_wp2_with fail
        go_ret
        exact ⟨by simp, HK9.out.trans hD (fun _ _ h => h)⟩
    · have m2 : (g == 0) = false := beq_eq_false_iff_ne.2 z2
      obtain ⟨rfl, rfl⟩ := HNE.out (.inr z2)
      subst z1
      clear z2
      go_wp2_with fail
      go_ret
      exact ⟨rfl, HK8.out⟩
  · have m1 : (er == 0) = false := beq_eq_false_iff_ne.2 z1
    obtain ⟨rfl, rfl⟩ := HNE.out (.inl z1)
    clear z1
    go_wp2_with fail
    all_goals
      go_ret
      exact ⟨rfl, HK8.out⟩

theorem fir_any (N : Nd) (v : Value) (ps : List (Int × ByteArray)) (pv : Value) (one : Bool) (T : ByteArray) (w : World) (hl : Lies w N v) (hp : PartsAt w pv ps) (hsz : ∀ x ∈ ps, x.2.size ≤ maxLen) :
    Calls Try.prog 17 #[.agg (Nd.row N v), pv, .bool one, .string T] w fun e w' => e = .returned (.bool true) ∧ Keep Nb w w' := by
  obtain ⟨A2, c2, rfl, _⟩ := id hp
  have hsz' : ∀ x ∈ ps, x.2.size ≤ 9223372036854775807 := fun x hx => by have := hsz x hx; unfold maxLen at this; omega
  by_cases hf : few N = true
  · by_cases hfp : fewP ps = true
    · exact fir_true N v ps hsz' A2 c2 one T w hl hp hf hfp
    · exact fir_parts N v ps hsz' A2 c2 one T w hl hp hf (by simpa using hfp)
  · exact fir_false N v A2 _ c2 one T w hl (by simpa using hf)

end Go.Proofs.Ytkidjbfapldmbaa
