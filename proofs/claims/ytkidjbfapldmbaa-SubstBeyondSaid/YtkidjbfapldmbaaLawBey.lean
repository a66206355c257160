/- SubstBeyond. -/
import Derived.Test.YtkidjbfapldmbaaLawIts
namespace Go.Proofs.Ytkidjbfapldmbaa
set_option linter.unusedVariables false
set_option linter.unusedSimpArgs false
open Go.RowKit P8

theorem cnt_fuel {F : Nat → St} {L : List UInt8} {fl : Caps → List UInt8} {nth : Nat} {all : Bool} (hF : SpanOk L.length F) : ∀ (k : Nat) (p q : PS), putS F L fl nth all k p = some q → q.cnt ≤ p.cnt + k
  | 0, p, q, h => by rw [putS] at h; cases h; exact Nat.le_refl _
  | k + 1, p, q, h => by
    rcases putS_cases hF h with ⟨_, rfl⟩ | ⟨h1, h2, ⟨h3, rfl⟩ | ⟨a, b, h3, g1, g2, g3, h4⟩⟩
    · omega
    · omega
    · have := cnt_fuel hF k _ q h4
      have := step_pos (L := L) (fl := fl) (nth := nth) p (F p.pos) g2
      omega
theorem putW_form (L : List UInt8) (q : Option PS) : ∃ (o : ByteArray) (k e : Int), putW L q = .tuple #[.string o, .int .i64 k, .int .i64 e] := by
  cases q with
  | none => exact ⟨_, _, _, rfl⟩
  | some q =>
    rw [putW]
    split
    · exact ⟨_, _, _, rfl⟩
    · exact ⟨_, _, _, rfl⟩
theorem putW_some (L : List UInt8) (q : PS) : True ∧ ((600 < (q.out ++ L.drop q.pos).length ∧ putW L (some q) = .tuple #[.string ⟨#[]⟩, .int .i64 0, .int .i64 14]) ∨
    (¬ 600 < (q.out ++ L.drop q.pos).length ∧ putW L (some q) = .tuple #[.string ⟨(q.out ++ L.drop q.pos).toArray⟩, .int .i64 (q.pt : Int), .int .i64 0])) := by
  refine ⟨trivial, ?_⟩
  by_cases h : 600 < (q.out ++ L.drop q.pos).length
  · exact .inl ⟨h, by rw [putW, if_pos h]⟩
  · exact .inr ⟨h, by rw [putW, if_neg h]⟩

/-- What three runs have in common: all that is put in for itself; from the kth on; the kth alone. -/
theorem bey_put (N : Nd) (T : ByteArray) (k : Nat) (hk : 1 ≤ k) : ∃ (o1 o2 o3 : ByteArray) (k1 k2 k3 e1 e2 e3 : Int),
    putV N [((0 : Int), (⟨#[]⟩ : ByteArray))] 1 true T = .tuple #[.string o1, .int .i64 k1, .int .i64 e1] ∧ putV N [((0 : Int), (⟨#[]⟩ : ByteArray))] (k : Int) true T = .tuple #[.string o2, .int .i64 k2, .int .i64 e2] ∧
    putV N [] (k : Int) false T = .tuple #[.string o3, .int .i64 k3, .int .i64 e3] ∧ (0 ≤ k1 ∧ k1 ≤ 1000) ∧ (e1 = 0 → e2 = 0 → e3 = 0 → k2 = max 0 (k1 - k + 1) ∧ k3 = min k2 1 ∧ (¬ (k : Int) ≤ k1 → o3 = T)) := by
  have bad : ∀ (ps : List (Int × ByteArray)) (n : Int) (al : Bool), ¬ rightB N ps n T = true → putV N ps n al T = .tuple #[.string ⟨#[]⟩, .int .i64 0, .int .i64 1] := fun ps n al h => by rw [putV, dif_neg h]
  by_cases hr : formedT N = true ∧ T.size ≤ 600
  rotate_left
  · have nr : ∀ (ps : List (Int × ByteArray)) (n : Int), ¬ rightB N ps n T = true := fun ps n h => hr ⟨(right_formed h).1, (right_formed h).2.1⟩
    exact ⟨⟨#[]⟩, ⟨#[]⟩, ⟨#[]⟩, 0, 0, 0, 1, 1, 1, bad _ _ _ (nr _ _), bad _ _ _ (nr _ _), bad _ _ _ (nr _ _), by omega, fun h => absurd h (by decide)⟩
  obtain ⟨hf, hT⟩ := hr
  have r1 : rightB N [((0 : Int), (⟨#[]⟩ : ByteArray))] 1 T = true := by unfold rightB; rw [hf]; simp [partOk, hT]
  have r2 : rightB N [((0 : Int), (⟨#[]⟩ : ByteArray))] (k : Int) T = true := by unfold rightB; rw [hf]; simp [partOk, hT]
  have r3 : rightB N [] (k : Int) T = true := by unfold rightB; rw [hf]; simp [hT]
  rw [putV, dif_pos r1, putV, dif_pos r2, putV, dif_pos r3]
  have hsp : SpanOk T.toList.length (found T.toList false N (formed_ok hf)) := span_ok _
  have hlen : T.toList.length ≤ 600 := by rw [toList_len]; exact hT
  have m1 : (max (1 : Int) 1).toNat = 1 := rfl
  have m2 : (max (k : Int) 1).toNat = k := by omega
  have small : ∀ (q : PS) (fl : Caps → List UInt8) (nth : Nat) (al : Bool), putS (found T.toList false N (formed_ok hf)) T.toList fl nth al (T.toList.length + 1) begP = some q → q.cnt ≤ T.toList.length + 1 := fun q fl nth al h => by
    have := cnt_fuel hsp _ _ _ h
    simpa [begP] using this
  cases h1 : runV N [((0 : Int), (⟨#[]⟩ : ByteArray))] 1 true T hf with
  | none =>
    cases h2 : runV N [((0 : Int), (⟨#[]⟩ : ByteArray))] (k : Int) true T hf with
    | none =>
      cases h3 : runV N [] (k : Int) false T hf with
      | none => exact ⟨⟨#[]⟩, ⟨#[]⟩, ⟨#[]⟩, 0, 0, 0, 12, 12, 12, rfl, rfl, rfl, by omega, fun h => absurd h (by decide)⟩
      | some q3 =>
        obtain ⟨o, kk, er, h⟩ := putW_form T.toList (some q3)
        exact ⟨⟨#[]⟩, ⟨#[]⟩, o, 0, 0, kk, 12, 12, er, rfl, rfl, h, by omega, fun h => absurd h (by decide)⟩
    | some q2 =>
      obtain ⟨o, kk, er, h⟩ := putW_form T.toList (some q2)
      obtain ⟨o', kk', er', h'⟩ := putW_form T.toList (runV N [] (k : Int) false T hf)
      exact ⟨⟨#[]⟩, o, o', 0, kk, kk', 12, er, er', rfl, h, h', by omega, fun h => absurd h (by decide)⟩
  | some q1 =>
    have c1 := h1
    unfold runV at c1
    rw [m1] at c1
    have sm := small _ _ _ _ c1
    obtain ⟨p1, t1⟩ := putW_some T.toList q1
    cases h2 : runV N [((0 : Int), (⟨#[]⟩ : ByteArray))] (k : Int) true T hf with
    | none =>
      obtain ⟨o', kk', er', h'⟩ := putW_form T.toList (runV N [] (k : Int) false T hf)
      rcases t1 with t1 | t1
      · exact ⟨⟨#[]⟩, ⟨#[]⟩, o', 0, 0, kk', 14, 12, er', t1.2, rfl, h', by omega, fun h => absurd h (by decide)⟩
      · exact ⟨_, ⟨#[]⟩, o', q1.pt, 0, kk', 0, 12, er', t1.2, rfl, h', ⟨by omega, by have := (cnt_up hsp _ _ _ c1).2.1 (by simp [begP]); omega⟩, fun _ h => absurd h (by decide)⟩
    | some q2 =>
      have c2 := h2
      unfold runV at c2
      rw [m2] at c2
      obtain ⟨p2, t2⟩ := putW_some T.toList q2
      cases h3 : runV N [] (k : Int) false T hf with
      | none =>
        obtain ⟨o', kk', er', h'⟩ := putW_form T.toList (some q2)
        rcases t1 with t1 | t1
        · exact ⟨⟨#[]⟩, o', ⟨#[]⟩, 0, kk', 0, 14, er', 12, t1.2, h', rfl, by omega, fun h => absurd h (by decide)⟩
        · exact ⟨_, o', ⟨#[]⟩, q1.pt, kk', 0, 0, er', 12, t1.2, h', rfl, ⟨by omega, by have := (cnt_up hsp _ _ _ c1).2.1 (by simp [begP]); omega⟩, fun _ _ h => absurd h (by decide)⟩
      | some q3 =>
        have c3 := h3
        unfold runV at c3
        rw [m2] at c3
        obtain ⟨p3, t3⟩ := putW_some T.toList q3
        obtain ⟨o2, kk2, er2, f2⟩ := putW_form T.toList (some q2)
        obtain ⟨o3, kk3, er3, f3⟩ := putW_form T.toList (some q3)
        have u1 := cnt_up hsp _ _ _ c1
        have u2 := cnt_up hsp _ _ _ c2
        have u3 := cnt_up hsp _ _ _ c3
        have b1 := u1.2.1 (by simp [begP])
        have b2 := u2.2.1 (by simp [begP]; omega)
        have b3 := u3.2.1 (by simp [begP]; omega)
        have e12 := (core_eq (core_run hsp _ _ _ _ _ rfl c1 c2)).2.2.2
        have e13 := cnt_first hsp _ _ _ _ _ rfl (by simp [begP]) c1 c3
        rcases t1 with t1 | t1
        · exact ⟨⟨#[]⟩, o2, o3, 0, kk2, kk3, 14, er2, er3, t1.2, f2, f3, by omega, fun h => absurd h (by decide)⟩
        rcases t2 with t2 | t2
        · exact ⟨_, ⟨#[]⟩, o3, q1.pt, 0, kk3, 0, 14, er3, t1.2, t2.2, f3, ⟨by omega, by omega⟩, fun _ h => absurd h (by decide)⟩
        rcases t3 with t3 | t3
        · exact ⟨_, _, ⟨#[]⟩, q1.pt, q2.pt, 0, 0, 0, 14, t1.2, t2.2, t3.2, ⟨by omega, by omega⟩, fun _ _ h => absurd h (by decide)⟩
        refine ⟨_, _, _, q1.pt, q2.pt, q3.pt, 0, 0, 0, t1.2, t2.2, t3.2, ⟨by omega, by omega⟩, fun _ _ _ => ⟨by omega, by omega, fun hlt => ?_⟩⟩
        have hs := u3.2.2 (fun _ => by simp [Stays, begP]) (by omega)
        rw [hs, List.take_append_drop, ByteArray.toList_eq]

theorem bey_false (N : Nd) (v : Value) (n : Int) (T : ByteArray) (w : World) (hl : Lies w N v) (hf : few N = false) :
    Calls Try.prog 18 #[.agg (Nd.row N v), .int .u8 n, .string T] w fun e w' => e = .returned (.bool true) ∧ Keep Nb w w' := by
  have h1 := fun wx => few_any N v wx
  rw [hf] at h1
  have H1 := Lib.hid h1; clear h1 hf
  obtain ⟨A, cap, rfl, _⟩ := Lies_def.1 hl
  simp only [Nd.row]
  go_enter Try.func18, Try.ntmps18
  go_wp2_with fail
  refine (awake18 _).mono ?_
  rintro e w2 ⟨rfl, hk2⟩
  have hb1 : Blk w2 w.heap.size (Nd.row N (.slice A N.l.length cap)) 27 := (Blk.new w _ _).keep hk2 id
  have hk2' : Keep Nb w w2 := Keep.trans (by repeat (first | assumption | exact Keep.refl _ _ | refine Keep.alloc ?_ _ | refine Keep.drew ?_ | refine Keep.setCell ?_ (Or.inl (by simp)) _ | refine Keep.setRow ?_ (Or.inl (by simp)) _)) hk2 (fun _ _ h => h)
  (have o0 := Blk.cell hb1 0 (u := .int .i64 N.h.k) rfl; have o1 := Blk.cell hb1 1 (u := .int .u8 N.h.c) rfl; have o2 := Blk.cell hb1 2 (u := .int .u64 N.h.s0) rfl; have o3 := Blk.cell hb1 3 (u := .int .u64 N.h.s1) rfl; have o4 := Blk.cell hb1 4 (u := .int .u64 N.h.s2) rfl; have o5 := Blk.cell hb1 5 (u := .int .u64 N.h.s3) rfl; have o6 := Blk.cell hb1 6 (u := .int .i64 N.h.n) rfl; have o7 := Blk.cell hb1 7 (u := .int .i64 N.h.mn) rfl; have o8 := Blk.cell hb1 8 (u := .int .i64 N.h.mx) rfl; have o9 := Blk.cell hb1 9 (u := (.slice A N.l.length cap)) rfl)
  have lo := hb1.lt
  go_wp2_with fail
  refine (H1.out _ (Lies_keep hk2' hl)).mono ?_
  rintro e w3 ⟨rfl, hk3⟩
  go_wp2_with fail
  refine (awake18 _).mono ?_
  rintro e w4 ⟨rfl, hk4⟩
  go_wp2_with fail
  go_ret
  exact ⟨rfl, (hk2'.trans hk3 (fun _ _ h => h)).trans hk4 (fun _ _ h => h)⟩

set_option maxRecDepth 100000 in
set_option maxHeartbeats 8000000 in
theorem bey_true (N : Nd) (v : Value) (n : Int) (h0 : 0 ≤ n) (h255 : n ≤ 255) (T : ByteArray) (w : World) (hl : Lies w N v) (hf : few N = true) :
    Calls Try.prog 18 #[.agg (Nd.row N v), .int .u8 n, .string T] w fun e w' => e = .returned (.bool true) ∧ Keep Nb w w' := by
  have h1 := fun wx => few_any N v wx
  have hcT := (few_count hf).1
  rw [hf] at h1
  have H1 := Lib.hid h1; clear h1 hf
  obtain ⟨A, cap, rfl, _⟩ := Lies_def.1 hl
  have HTH := Lib.hid (fun wx hx => theirs_any 400 (by omega) N (by omega) (.slice A N.l.length cap) wx hx)
  obtain ⟨k, hkk⟩ : ∃ k : Nat, (k : Int) = 1 + n % 20 := ⟨(1 + n % 20).toNat, by omega⟩
  obtain ⟨o1, o2, o3, k1, k2, k3, e1, e2, e3, p1, p2, p3, hkb, hlaw⟩ := bey_put N T k (by omega)
  have hP1 := fun A1 n1 pv wx hx hp => put_any N (by omega) A1 n1 [((0 : Int), (⟨#[]⟩ : ByteArray))] (by decide) pv 1 true T wx hx hp
  have hP2 := fun A1 n1 pv wx hx hp => put_any N (by omega) A1 n1 [((0 : Int), (⟨#[]⟩ : ByteArray))] (by decide) pv (k : Int) true T wx hx hp
  have hP3 := fun A1 n1 wx hx => put_any N (by omega) A1 n1 [] (by decide) (.slice none 0 0) (k : Int) false T wx hx (noParts wx)
  rw [p1] at hP1
  rw [p2] at hP2
  rw [p3] at hP3
  have HP1 := Lib.hid hP1
  have HP2 := Lib.hid hP2
  have HP3 := Lib.hid hP3
  have HTP := Lib.hid (fun pv wx hp => theirparts_any [((0 : Int), (⟨#[]⟩ : ByteArray))] (by simp) pv wx hp)
  have HLAW := Lib.hid hlaw
  have HKB := Lib.hid hkb
  have HKK := Lib.hid hkk
  have HK20 : Hid ((k : Int) ≤ 20) := Lib.hid (by omega)
  clear hP1 hP2 hP3 p1 p2 p3 hlaw hkb hkk hcT
  simp only [Nd.row]
  go_enter Try.func18, Try.ntmps18
  go_wp2_with fail
  refine (awake18 _).mono ?_
  rintro e w2 ⟨rfl, hk2⟩
  have hb1 : Blk w2 w.heap.size (Nd.row N (.slice A N.l.length cap)) 27 := (Blk.new w _ _).keep hk2 id
  have hk2' : Keep Nb w w2 := Keep.trans (by repeat (first | assumption | exact Keep.refl _ _ | refine Keep.alloc ?_ _ | refine Keep.drew ?_ | refine Keep.setCell ?_ (Or.inl (by simp)) _ | refine Keep.setRow ?_ (Or.inl (by simp)) _)) hk2 (fun _ _ h => h)
  (have o0 := Blk.cell hb1 0 (u := .int .i64 N.h.k) rfl; have o1 := Blk.cell hb1 1 (u := .int .u8 N.h.c) rfl; have o2 := Blk.cell hb1 2 (u := .int .u64 N.h.s0) rfl; have o3 := Blk.cell hb1 3 (u := .int .u64 N.h.s1) rfl; have o4 := Blk.cell hb1 4 (u := .int .u64 N.h.s2) rfl; have o5 := Blk.cell hb1 5 (u := .int .u64 N.h.s3) rfl; have o6 := Blk.cell hb1 6 (u := .int .i64 N.h.n) rfl; have o7 := Blk.cell hb1 7 (u := .int .i64 N.h.mn) rfl; have o8 := Blk.cell hb1 8 (u := .int .i64 N.h.mx) rfl; have o9 := Blk.cell hb1 9 (u := (.slice A N.l.length cap)) rfl)
  have lo := hb1.lt
  go_wp2_with fail
  refine (H1.out _ (Lies_keep hk2' hl)).mono ?_
  rintro e w3 ⟨rfl, hk3⟩
  have hb3 := hb1.keep hk3 (fun h => h)
  have hk3' := hk2'.trans hk3 (fun _ _ h => h)
  clear o0 o1 o2 o3 o4 o5 o6 o7 o8 o9 lo hb1 hk2 hk2' hk3
  (have o0 := Blk.cell hb3 0 (u := .int .i64 N.h.k) rfl; have o1 := Blk.cell hb3 1 (u := .int .u8 N.h.c) rfl; have o2 := Blk.cell hb3 2 (u := .int .u64 N.h.s0) rfl; have o3 := Blk.cell hb3 3 (u := .int .u64 N.h.s1) rfl; have o4 := Blk.cell hb3 4 (u := .int .u64 N.h.s2) rfl; have o5 := Blk.cell hb3 5 (u := .int .u64 N.h.s3) rfl; have o6 := Blk.cell hb3 6 (u := .int .i64 N.h.n) rfl; have o7 := Blk.cell hb3 7 (u := .int .i64 N.h.mn) rfl; have o8 := Blk.cell hb3 8 (u := .int .i64 N.h.mx) rfl; have o9 := Blk.cell hb3 9 (u := (.slice A N.l.length cap)) rfl)
  have lo := hb3.lt
  go_wp2_with fail
  refine (HTH.out _ (Lies_keep hk3' hl)).mono ?_
  rintro e w4 ⟨S1, rfl, hB1, hk4⟩
  obtain ⟨A1, n1, rfl, _⟩ := LiesP_def.1 hB1
  have HL4 := Lib.hid (LiesP_all hB1)
  have HK4 := Lib.hid (hk3'.trans hk4 (fun _ _ h => h))
  clear o0 o1 o2 o3 o4 o5 o6 o7 o8 o9 lo hb3 hk4 hk3' H1 hB1
  simp only [Nd.row]
  go_upto_region 4 with fail
  have hu : Blk (w4.alloc (.cells (Nd.row N (.slice A1 N.l.length n1)) 33)) w4.heap.size (Nd.row N (.slice A1 N.l.length n1)) 33 := Blk.new w4 _ _
  have ku : Keep Nb w4 (w4.alloc (.cells (Nd.row N (.slice A1 N.l.length n1)) 33)) := Keep.alloc (Keep.refl _ _) _
  have hx : w4.alloc (.cells #[.int .i64 N.h.k, .int .u8 N.h.c, .int .u64 N.h.s0, .int .u64 N.h.s1, .int .u64 N.h.s2, .int .u64 N.h.s3, .int .i64 N.h.n, .int .i64 N.h.mn, .int .i64 N.h.mx, .slice A1 N.l.length n1] 33) = w4.alloc (.cells (Nd.row N (.slice A1 N.l.length n1)) 33) := rfl
  rw [hx]
  clear hx
  generalize w4.alloc (.cells (Nd.row N (.slice A1 N.l.length n1)) 33) = w5 at hu ku ⊢
  generalize w4.heap.size = u5 at hu ⊢
  have HL5 := Lib.hid (Lies_keep ku HL4.out)
  have HK5 := Lib.hid (HK4.out.trans ku (fun _ _ h => h))
  have HU5 := Lib.hid hu
  clear hu ku HL4 HK4
  have W0 : IntKind.i64.wrap (1 + n % 20) = (k : Int) := by rw [IntKind.wrap_i64]; have := HKK.out; omega
  go_upto_region 5 with fail
  clear W0 h0 h255
  (refine wp_region_f [12] (InX Nb _) (by kernel_rfl) (InX.mk (Keep.drew (Keep.refl _ _))) (fun hI => ?_))
  have xx : ∀ k, ¬ Nb k := fun _ h => h
  have hD : Keep Nb w5 w5.drew := (Keep.refl _ _).drew
  generalize w5.drew = x0 at hI hD ⊢
  (refine wpF_row3 0 rfl (by kernel_rfl) (fun _ _ _ _ h => h) hI rfl 33 (.tmp 7) rfl u5 rfl 33 _ (0, 0) _ (fun _ hS => InX.bk hS HU5.out (fun h => h)) Try.underlying33 rfl (by kernel_rfl) ?_; simp only [Act.put, tk])
  (refine wpI_from 1 ?_; (iterate 1 ((first | (refine wpI_take3' (v := ?_) rfl (by kernel_rfl) (fun _ _ _ h => h) hI rfl ?_ ?_; rotate_left; (focus (rintro _ ⟨E, rfl⟩; go_simp; (try with_reducible rfl)))) | refine wpI_skip3' rfl (by kernel_rfl) (fun _ _ _ h => h) hI rfl ?_); simp only [Act.put, tk, Nat.reduceAdd])); refine wpI_till ?_)
  (refine wpI_from 4 ?_; (iterate 1 ((first | (refine wpI_take3' (v := ?_) rfl (by kernel_rfl) (fun _ _ _ h => h) hI rfl ?_ ?_; rotate_left; (focus (rintro _ ⟨E, rfl⟩; go_simp; (try with_reducible rfl)))) | refine wpI_skip3' rfl (by kernel_rfl) (fun _ _ _ h => h) hI rfl ?_); simp only [Act.put, tk, Nat.reduceAdd])); refine wpI_till ?_)
  (refine wpF_one 2 rfl (by kernel_rfl) rfl (fun K hK => ?_))
  go_simp
  have hq : Blk (x0.alloc (.cells #[.int .i64 0, .string ⟨#[]⟩] 78)) x0.heap.size #[.int .i64 0, .string ⟨#[]⟩] 78 := Blk.new x0 _ _
  have kq : Keep Nb x0 (x0.alloc (.cells #[.int .i64 0, .string ⟨#[]⟩] 78)) := Keep.alloc (Keep.refl _ _) _
  generalize x0.alloc (.cells #[.int .i64 0, .string ⟨#[]⟩] 78) = x1 at hq kq ⊢
  generalize x0.heap.size = q1 at hq ⊢
  replace hD := hD.trans kq (fun _ _ h => h)
  clear kq
  (refine hK _ _ (fun _ => InX.mk hD) (fun hI => ?_); have hI := hI (by simp); clear hK K; try simp only [Act.put, tk])
  (refine wpF_one 3 rfl (by kernel_rfl) rfl (fun K hK => ?_))
  go_simp
  have hp1 : PartsAt x1 (.slice (some ⟨q1, 0, none⟩) 1 1) [((0 : Int), (⟨#[]⟩ : ByteArray))] := ⟨_, 1, rfl, by simp, by unfold maxLen; omega, fun i hi => by
    obtain rfl : i = 0 := by simpa using hi
    exact ⟨q1, 0, rfl, hq.cell 0 rfl, hq.cell 1 rfl⟩⟩
  refine (HTP.out _ x1 hp1).mono ?_
  rintro e x2 ⟨A6, c6, rfl, hp2, kd⟩
  replace hD := hD.trans kd (fun _ _ h => h)
  clear kd hp1 hq
  (refine hK _ _ (fun _ => InX.mk hD) (fun hI => ?_); have hI := hI (by simp); clear hK K; try simp only [Act.put, tk])
  (refine wpF_one 5 rfl (by kernel_rfl) rfl (fun K hK => ?_))
  go_simp
  refine (HP1.out A1 n1 _ x2 (Lies_keep hD HL5.out) hp2).mono ?_
  rintro e y3 ⟨rfl, kd⟩
  replace hD := hD.trans kd (fun _ _ h => h)
  clear kd hp2
  (refine hK _ _ (fun _ => InX.mk hD) (fun hI => ?_); have hI := hI (by simp); clear hK K; try simp only [Act.put, tk])
  (refine wpI_from 6 ?_; (iterate 6 ((first | (refine wpI_take3' (v := ?_) rfl (by kernel_rfl) (fun _ _ _ h => h) hI rfl ?_ ?_; rotate_left; (focus (rintro _ ⟨E, rfl⟩; go_simp; (try with_reducible rfl)))) | refine wpI_skip3' rfl (by kernel_rfl) (fun _ _ _ h => h) hI rfl ?_); simp only [Act.put, tk, Nat.reduceAdd])); refine wpI_till ?_)
  (refine wpF_one 12 rfl (by kernel_rfl) rfl (fun K hK => ?_))
  go_simp
  (refine hK _ _ (fun h => absurd (by simp) h) (fun _ => ?_); clear hK K; try simp only [Act.put, tk])
  (refine wpF_done (by kernel_rfl) ?_ _)
  replace HU5 := Lib.hid (HU5.out.keep hD (fun h => h))
  replace HL5 := Lib.hid (Lies_keep hD HL5.out)
  replace HK5 := Lib.hid (HK5.out.trans hD (fun _ _ h => h))
  clear hD hI
  go_wp2_with fail
  (refine wp_region_f [13] (InX Nb _) (by kernel_rfl) (InX.mk (Keep.drew (Keep.refl _ _))) (fun hI => ?_))
  have xx : ∀ k, ¬ Nb k := fun _ h => h
  have hD : Keep Nb y3 y3.drew := (Keep.refl _ _).drew
  generalize y3.drew = x0 at hI hD ⊢
  (refine wpF_row3 0 rfl (by kernel_rfl) (fun _ _ _ _ h => h) hI rfl 33 (.tmp 7) rfl u5 rfl 33 _ (0, 0) _ (fun _ hS => InX.bk hS HU5.out (fun h => h)) Try.underlying33 rfl (by kernel_rfl) ?_; simp only [Act.put, tk])
  (refine wpI_from 1 ?_; (iterate 1 ((first | (refine wpI_take3' (v := ?_) rfl (by kernel_rfl) (fun _ _ _ h => h) hI rfl ?_ ?_; rotate_left; (focus (rintro _ ⟨E, rfl⟩; go_simp; (try with_reducible rfl)))) | refine wpI_skip3' rfl (by kernel_rfl) (fun _ _ _ h => h) hI rfl ?_); simp only [Act.put, tk, Nat.reduceAdd])); refine wpI_till ?_)
  (refine wpI_from 4 ?_; (iterate 2 ((first | (refine wpI_take3' (v := ?_) rfl (by kernel_rfl) (fun _ _ _ h => h) hI rfl ?_ ?_; rotate_left; (focus (rintro _ ⟨E, rfl⟩; go_simp; (try with_reducible rfl)))) | refine wpI_skip3' rfl (by kernel_rfl) (fun _ _ _ h => h) hI rfl ?_); simp only [Act.put, tk, Nat.reduceAdd])); refine wpI_till ?_)
  (refine wpF_one 2 rfl (by kernel_rfl) rfl (fun K hK => ?_))
  go_simp
  have hq : Blk (x0.alloc (.cells #[.int .i64 0, .string ⟨#[]⟩] 78)) x0.heap.size #[.int .i64 0, .string ⟨#[]⟩] 78 := Blk.new x0 _ _
  have kq : Keep Nb x0 (x0.alloc (.cells #[.int .i64 0, .string ⟨#[]⟩] 78)) := Keep.alloc (Keep.refl _ _) _
  generalize x0.alloc (.cells #[.int .i64 0, .string ⟨#[]⟩] 78) = x1 at hq kq ⊢
  generalize x0.heap.size = q1 at hq ⊢
  replace hD := hD.trans kq (fun _ _ h => h)
  clear kq
  (refine hK _ _ (fun _ => InX.mk hD) (fun hI => ?_); have hI := hI (by simp); clear hK K; try simp only [Act.put, tk])
  (refine wpF_one 3 rfl (by kernel_rfl) rfl (fun K hK => ?_))
  go_simp
  have hp1 : PartsAt x1 (.slice (some ⟨q1, 0, none⟩) 1 1) [((0 : Int), (⟨#[]⟩ : ByteArray))] := ⟨_, 1, rfl, by simp, by unfold maxLen; omega, fun i hi => by
    obtain rfl : i = 0 := by simpa using hi
    exact ⟨q1, 0, rfl, hq.cell 0 rfl, hq.cell 1 rfl⟩⟩
  refine (HTP.out _ x1 hp1).mono ?_
  rintro e x2 ⟨A6, c6, rfl, hp2, kd⟩
  replace hD := hD.trans kd (fun _ _ h => h)
  clear kd hp1 hq
  (refine hK _ _ (fun _ => InX.mk hD) (fun hI => ?_); have hI := hI (by simp); clear hK K; try simp only [Act.put, tk])
  (refine wpF_one 6 rfl (by kernel_rfl) rfl (fun K hK => ?_))
  go_simp
  refine (HP2.out A1 n1 _ x2 (Lies_keep hD HL5.out) hp2).mono ?_
  rintro e y3 ⟨rfl, kd⟩
  replace hD := hD.trans kd (fun _ _ h => h)
  clear kd hp2
  (refine hK _ _ (fun _ => InX.mk hD) (fun hI => ?_); have hI := hI (by simp); clear hK K; try simp only [Act.put, tk])
  (refine wpI_from 7 ?_; (iterate 6 ((first | (refine wpI_take3' (v := ?_) rfl (by kernel_rfl) (fun _ _ _ h => h) hI rfl ?_ ?_; rotate_left; (focus (rintro _ ⟨E, rfl⟩; go_simp; (try with_reducible rfl)))) | refine wpI_skip3' rfl (by kernel_rfl) (fun _ _ _ h => h) hI rfl ?_); simp only [Act.put, tk, Nat.reduceAdd])); refine wpI_till ?_)
  (refine wpF_one 13 rfl (by kernel_rfl) rfl (fun K hK => ?_))
  go_simp
  (refine hK _ _ (fun h => absurd (by simp) h) (fun _ => ?_); clear hK K; try simp only [Act.put, tk])
  (refine wpF_done (by kernel_rfl) ?_ _)
  replace HU5 := Lib.hid (HU5.out.keep hD (fun h => h))
  replace HL5 := Lib.hid (Lies_keep hD HL5.out)
  replace HK5 := Lib.hid (HK5.out.trans hD (fun _ _ h => h))
  clear hD hI
  have hu6 := HU5.out
  go_wp2_with (refine wpList_load_row rfl 33 (.tmp 7) rfl u5 rfl 33 _ (0, 0) _ hu6 Try.underlying33 rfl (by kernel_rfl) ?_)
  refine (HP3.out A1 n1 y3 HL5.out).mono ?_
  rintro e y4 ⟨rfl, kd⟩
  have HK6 := Lib.hid (HK5.out.trans kd (fun _ _ h => h))
  clear kd hu6
  by_cases z1 : e1 = 0
  · by_cases z2 : e2 = 0
    · by_cases z3 : e3 = 0
      · obtain ⟨g1, g2, g3⟩ := HLAW.out z1 z2 z3
        subst z1 z2 z3
        have W1 : IntKind.i64.wrap (k1 - (k : Int)) = k1 - (k : Int) := by rw [IntKind.wrap_i64]; have := HKB.out; have := HK20.out; omega
        have W2 : IntKind.i64.wrap (k1 - (k : Int) + 1) = k1 - (k : Int) + 1 := by rw [IntKind.wrap_i64]; have := HKB.out; have := HK20.out; omega
        have m1 : (k2 == max 0 (k1 - (k : Int) + 1)) = true := by simpa using g1
        have m2 : (k3 == min k2 1) = true := by simpa using g2
        by_cases g4 : (k : Int) ≤ k1
        · have m3 : decide ((k : Int) ≤ k1) = true := by simpa using g4
          clear g1 g2 g3 g4
          go_wp2_with fail
          go_ret
          exact ⟨rfl, HK6.out⟩
        · have m3 : decide ((k : Int) ≤ k1) = false := by simpa using g4
          obtain rfl := g3 (by omega)
          clear g1 g2 g3 g4
          go_wp2_with fail
          go_ret
          exact ⟨rfl, HK6.out⟩
      · have m3 : (e3 == 0) = false := beq_eq_false_iff_ne.2 z3
        subst z1 z2
        clear z3
        go_wp2_with fail
        go_ret
        exact ⟨rfl, HK6.out⟩
    · have m2 : (e2 == 0) = false := beq_eq_false_iff_ne.2 z2
      subst z1
      clear z2
      go_wp2_with fail
      go_ret
      exact ⟨rfl, HK6.out⟩
  · have m1 : (e1 == 0) = false := beq_eq_false_iff_ne.2 z1
    have m1' : (e1 != 0) = true := by simpa using z1
    have m2' : decide (e1 = 0) = false := by simpa using z1
    have HZ1 := Lib.hid z1
    clear z1
    go_wp2_with fail
    all_goals first
      | (go_ret; exact ⟨rfl, HK6.out⟩)
      | exact absurd ‹e1 = 0› HZ1.out
      | (rename_i hx; exact absurd hx HZ1.out)

theorem bey_any (N : Nd) (v : Value) (n : Int) (h0 : 0 ≤ n) (h255 : n ≤ 255) (T : ByteArray) (w : World) (hl : Lies w N v) :
    Calls Try.prog 18 #[.agg (Nd.row N v), .int .u8 n, .string T] w fun e w' => e = .returned (.bool true) ∧ Keep Nb w w' := by
  by_cases hf : few N = true
  · exact bey_true N v n h0 h255 T w hl hf
  · exact bey_false N v n T w hl (by simpa using hf)

theorem bey_byte (N : Nd) (v : Value) (b : UInt8) (T : ByteArray) (w : World) (hl : Lies w N v) :
    Calls Try.prog 18 #[.agg (Nd.row N v), .int .u8 b.toNat, .string T] w fun e w' => e = .returned (.bool true) ∧ Keep Nb w w' :=
  bey_any N v b.toNat (by omega) (by have := b.toNat_lt; omega) T w hl

end Go.Proofs.Ytkidjbfapldmbaa
