/- SubstItself. -/
import Derived.Test.YtkidjbfapldmbaaAwk
namespace Go.Proofs.Ytkidjbfapldmbaa
set_option linter.unusedVariables false
set_option linter.unusedSimpArgs false
open Go.RowKit P8

theorem fill_self (L : List UInt8) (c : Caps) : fillF L [((0 : Int), (⟨#[]⟩ : ByteArray))] c = match c 0 with | some (a, b) => seg L a b | none => [] := by
  simp only [fillF, partF, List.flatMap_cons, List.flatMap_nil, List.append_nil]
  rw [if_neg (by decide), if_pos (by decide)]
  rfl

theorem span_ok {L : List UInt8} {n : Nd} (hn : okT n) : SpanOk L.length (found L false n hn) := fun p hp ho a b h => by
  have := ((found_ok L n hn p hp).2 ho).2.2 a b h
  exact this

theorem its_put (N : Nd) (T : ByteArray) : ∃ (o : ByteArray) (k e : Int), putV N [((0 : Int), (⟨#[]⟩ : ByteArray))] 1 true T = .tuple #[.string o, .int .i64 k, .int .i64 e] ∧ (e ≠ 0 → o = ⟨#[]⟩ ∧ k = 0) ∧
    (e = 0 → o = T ∧ ∃ s ok, findV N T 0 false = .tuple #[.agg (fLit s), .bool ok, .int .i64 0] ∧ decide (0 < k) = ok) := by
  by_cases hr : rightB N [((0 : Int), (⟨#[]⟩ : ByteArray))] 1 T = true
  · obtain ⟨hf, hT, _⟩ := right_formed hr
    rw [putV, dif_pos hr]
    have hsp : SpanOk T.toList.length (found T.toList false N (formed_ok hf)) := span_ok _
    have hfs : ∀ p, p ≤ T.toList.length → ∀ a b, bestC (found T.toList false N (formed_ok hf) p) 0 = some (a, b) → fillF T.toList [((0 : Int), (⟨#[]⟩ : ByteArray))] (bestC (found T.toList false N (formed_ok hf) p)) = seg T.toList a b := fun p _ a b h => by
      rw [fill_self, h]
    cases hrun : runV N [((0 : Int), (⟨#[]⟩ : ByteArray))] 1 true T hf with
    | none => exact ⟨⟨#[]⟩, 0, 12, rfl, fun _ => ⟨rfl, rfl⟩, fun h => absurd h (by decide)⟩
    | some q =>
      have hrun' := hrun
      unfold runV at hrun
      have e1 : (max (1 : Int) 1).toNat = 1 := rfl
      rw [e1] at hrun
      obtain ⟨g1, g2⟩ := putS_itself hsp hfs _ _ _ hrun (by simp [Stays, begP])
      have ho : q.out ++ T.toList.drop q.pos = T.toList := by rw [g1, List.take_append_drop]
      have hl : ¬ 600 < (q.out ++ T.toList.drop q.pos).length := by rw [ho, toList_len]; omega
      refine ⟨⟨(q.out ++ T.toList.drop q.pos).toArray⟩, q.pt, 0, by rw [putW, if_neg hl], fun h => absurd rfl h, fun _ => ⟨by rw [ho, ByteArray.toList_eq], ?_⟩⟩
      -- the first find
      have hv : findV N T 0 false = findW (found T.toList false N (formed_ok hf) 0) := by
        rw [findV, dif_pos ⟨hf, hT, by omega, by omega⟩]; rfl
      have fo := found_ok T.toList N (formed_ok hf) 0 (Nat.zero_le _)
      rcases putS_cases hsp hrun with ⟨n1, _⟩ | ⟨h1, h2, h5⟩
      · exact absurd ⟨Nat.zero_le _, .inl rfl⟩ n1
      · rw [show begP.pos = 0 from rfl] at h2 h5
        have hov : ¬ (found T.toList false N (formed_ok hf) 0).over = true := fun h => h2 (.inl h)
        rw [findW, if_neg hov, fLit_eq, (fo.2 (by simpa using hov)).2.1] at hv
        refine ⟨_, _, hv, ?_⟩
        rcases h5 with ⟨h3, rfl⟩ | ⟨a, b, h3, x1, x2, x3, h4⟩
        · rw [h3]; rfl
        · rw [h3]
          have hst := stays_step (fl := fillF T.toList [((0 : Int), (⟨#[]⟩ : ByteArray))]) (nth := 1) (p := begP) (s := found T.toList false N (formed_ok hf) 0) (by simp [Stays, begP]) x1 x2 (fun _ => hfs 0 (Nat.zero_le _) a b h3)
          have g3 := (putS_itself hsp hfs _ _ _ h4 hst).2
          have g4 : (stepP T.toList (fillF T.toList [((0 : Int), (⟨#[]⟩ : ByteArray))]) 1 begP (found T.toList false N (formed_ok hf) 0) a b).pt = 1 := by
            unfold stepP
            rw [if_neg (by simp [begP])]
            split <;> simp [begP]
          simp only [Option.isSome_some, decide_eq_true_eq]
          omega
  · rw [putV, dif_neg hr]
    exact ⟨⟨#[]⟩, 0, 1, rfl, fun _ => ⟨rfl, rfl⟩, fun h => absurd h (by decide)⟩

theorem its_false (N : Nd) (v : Value) (T : ByteArray) (w : World) (hl : Lies w N v) (hf : few N = false) :
    Calls Try.prog 16 #[.agg (Nd.row N v), .string T] w fun e w' => e = .returned (.bool true) ∧ Keep Nb w w' := by
  have h1 := fun wx => few_any N v wx
  rw [hf] at h1
  have H1 := Lib.hid h1; clear h1 hf
  obtain ⟨A, cap, rfl, _⟩ := Lies_def.1 hl
  simp only [Nd.row]
  go_enter Try.func16, Try.ntmps16
  go_wp2_with fail
  refine (awake18 _).mono ?_
  rintro e w2 ⟨rfl, hk2⟩
  have hb1 : Blk w2 w.heap.size (Nd.row N (.slice A N.l.length cap)) 27 := (Blk.new w _ _).keep hk2 id
  have hk2' : Keep Nb w w2 := Keep.trans (by repeat (first | assumption | exact Keep.refl _ _ | refine Keep.alloc ?_ _ | refine Keep.drew ?_ | refine Keep.setCell ?_ (Or.inl (by simp)) _ | refine Keep.setRow ?_ (Or.inl (by simp)) _)) hk2 (fun _ _ h => h)
  (have o0 := Blk.cell hb1 0 (u := .int .i64 N.h.k) rfl; have o1 := Blk.cell hb1 1 (u := .int .u8 N.h.c) rfl; have o2 := Blk.cell hb1 2 (u := .int .u64 N.h.s0) rfl; have o3 := Blk.cell hb1 3 (u := .int .u64 N.h.s1) rfl; have o4 := Blk.cell hb1 4 (u := .int .u64 N.h.s2) rfl; have o5 := Blk.cell hb1 5 (u := .int .u64 N.h.s3) rfl; have o6 := Blk.cell hb1 6 (u := .int .i64 N.h.n) rfl; have o7 := Blk.cell hb1 7 (u := .int .i64 N.h.mn) rfl; have o8 := Blk.cell hb1 8 (u := .int .i64 N.h.mx) rfl; have o9 := Blk.cell hb1 9 (u := (.slice A N.l.length cap)) rfl)
  have lo := hb1.lt
  go_wp2_with fail
  refine (H1.out _ (Lies_keep hk2' hl)).mono ?_
  rintro e w3 ⟨rfl, hk3⟩
  go_wp2_with fail
  refine (awake18 _).mono ?_
  rintro e w4 ⟨rfl, hk4⟩
  go_wp2_with fail
  go_ret
  exact ⟨rfl, (hk2'.trans hk3 (fun _ _ h => h)).trans hk4 (fun _ _ h => h)⟩

set_option maxRecDepth 100000 in
set_option maxHeartbeats 4000000 in
theorem its_true (N : Nd) (v : Value) (T : ByteArray) (w : World) (hl : Lies w N v) (hf : few N = true) :
    Calls Try.prog 16 #[.agg (Nd.row N v), .string T] w fun e w' => e = .returned (.bool true) ∧ Keep Nb w w' := by
  have h1 := fun wx => few_any N v wx
  have hcT := (few_count hf).1
  rw [hf] at h1
  have H1 := Lib.hid h1; clear h1 hf
  obtain ⟨A, cap, rfl, _⟩ := Lies_def.1 hl
  have HTH := Lib.hid (fun wx hx => theirs_any 400 (by omega) N (by omega) (.slice A N.l.length cap) wx hx)
  obtain ⟨o, k, er, hput, hne, heq⟩ := its_put N T
  have hP := fun A1 n1 pv wx hx hp => put_any N (by omega) A1 n1 [((0 : Int), (⟨#[]⟩ : ByteArray))] (by decide) pv 1 true T wx hx hp
  rw [hput] at hP
  have HP := Lib.hid hP
  have HTP := Lib.hid (fun pv wx hp => theirparts_any [((0 : Int), (⟨#[]⟩ : ByteArray))] (by simp) pv wx hp)
  have HNE := Lib.hid hne
  have HEQ := Lib.hid heq
  have HCT := Lib.hid hcT
  clear hP hput hne heq hcT
  simp only [Nd.row]
  go_enter Try.func16, Try.ntmps16
  go_wp2_with fail
  refine (awake18 _).mono ?_
  rintro e w2 ⟨rfl, hk2⟩
  have hb1 : Blk w2 w.heap.size (Nd.row N (.slice A N.l.length cap)) 27 := (Blk.new w _ _).keep hk2 id
  have hk2' : Keep Nb w w2 := Keep.trans (by repeat (first | assumption | exact Keep.refl _ _ | refine Keep.alloc ?_ _ | refine Keep.drew ?_ | refine Keep.setCell ?_ (Or.inl (by simp)) _ | refine Keep.setRow ?_ (Or.inl (by simp)) _)) hk2 (fun _ _ h => h)
  (have o0 := Blk.cell hb1 0 (u := .int .i64 N.h.k) rfl; have o1 := Blk.cell hb1 1 (u := .int .u8 N.h.c) rfl; have o2 := Blk.cell hb1 2 (u := .int .u64 N.h.s0) rfl; have o3 := Blk.cell hb1 3 (u := .int .u64 N.h.s1) rfl; have o4 := Blk.cell hb1 4 (u := .int .u64 N.h.s2) rfl; have o5 := Blk.cell hb1 5 (u := .int .u64 N.h.s3) rfl; have o6 := Blk.cell hb1 6 (u := .int .i64 N.h.n) rfl; have o7 := Blk.cell hb1 7 (u := .int .i64 N.h.mn) rfl; have o8 := Blk.cell hb1 8 (u := .int .i64 N.h.mx) rfl; have o9 := Blk.cell hb1 9 (u := (.slice A N.l.length cap)) rfl)
  have lo := hb1.lt
  go_wp2_with fail
  refine (H1.out _ (Lies_keep hk2' hl)).mono ?_
  rintro e w3 ⟨rfl, hk3⟩
  have hb3 := hb1.keep hk3 (fun h => h)
  have hk3' := hk2'.trans hk3 (fun _ _ h => h)
  clear o0 o1 o2 o3 o4 o5 o6 o7 o8 o9 lo hb1 hk2 hk2' hk3
  (have o0 := Blk.cell hb3 0 (u := .int .i64 N.h.k) rfl; have o1 := Blk.cell hb3 1 (u := .int .u8 N.h.c) rfl; have o2 := Blk.cell hb3 2 (u := .int .u64 N.h.s0) rfl; have o3 := Blk.cell hb3 3 (u := .int .u64 N.h.s1) rfl; have o4 := Blk.cell hb3 4 (u := .int .u64 N.h.s2) rfl; have o5 := Blk.cell hb3 5 (u := .int .u64 N.h.s3) rfl; have o6 := Blk.cell hb3 6 (u := .int .i64 N.h.n) rfl; have o7 := Blk.cell hb3 7 (u := .int .i64 N.h.mn) rfl; have o8 := Blk.cell hb3 8 (u := .int .i64 N.h.mx) rfl; have o9 := Blk.cell hb3 9 (u := (.slice A N.l.length cap)) rfl)
  have lo := hb3.lt
  go_wp2_with fail
  refine (HTH.out _ (Lies_keep hk3' hl)).mono ?_
  rintro e w4 ⟨S1, rfl, hB1, hk4⟩
  obtain ⟨A1, n1, rfl, _⟩ := LiesP_def.1 hB1
  have HL4 := Lib.hid (LiesP_all hB1)
  have HK4 := Lib.hid (hk3'.trans hk4 (fun _ _ h => h))
  clear o0 o1 o2 o3 o4 o5 o6 o7 o8 o9 lo hb3 hk4 hk3' H1 hB1
  simp only [Nd.row]
  go_upto_region 4 with fail
  have hu : Blk (w4.alloc (.cells (Nd.row N (.slice A1 N.l.length n1)) 33)) w4.heap.size (Nd.row N (.slice A1 N.l.length n1)) 33 := Blk.new w4 _ _
  have ku : Keep Nb w4 (w4.alloc (.cells (Nd.row N (.slice A1 N.l.length n1)) 33)) := Keep.alloc (Keep.refl _ _) _
  have hx : w4.alloc (.cells #[.int .i64 N.h.k, .int .u8 N.h.c, .int .u64 N.h.s0, .int .u64 N.h.s1, .int .u64 N.h.s2, .int .u64 N.h.s3, .int .i64 N.h.n, .int .i64 N.h.mn, .int .i64 N.h.mx, .slice A1 N.l.length n1] 33) = w4.alloc (.cells (Nd.row N (.slice A1 N.l.length n1)) 33) := rfl
  rw [hx]
  clear hx
  generalize w4.alloc (.cells (Nd.row N (.slice A1 N.l.length n1)) 33) = w5 at hu ku ⊢
  generalize w4.heap.size = u5 at hu ⊢
  have HL5 := Lib.hid (Lies_keep ku HL4.out)
  have HK5 := Lib.hid (HK4.out.trans ku (fun _ _ h => h))
  have HU5 := Lib.hid hu
  clear hu ku HL4 HK4
  (refine wp_region_f [12] (InX Nb _) (by kernel_rfl) (InX.mk (Keep.drew (Keep.refl _ _))) (fun hI => ?_))
  have xx : ∀ k, ¬ Nb k := fun _ h => h
  have hD : Keep Nb w5 w5.drew := (Keep.refl _ _).drew
  generalize w5.drew = x0 at hI hD ⊢
  (refine wpF_row3 0 rfl (by kernel_rfl) (fun _ _ _ _ h => h) hI rfl 33 (.tmp 5) rfl u5 rfl 33 _ (0, 0) _ (fun _ hS => InX.bk hS HU5.out (fun h => h)) Try.underlying33 rfl (by kernel_rfl) ?_; simp only [Act.put, tk])
  (refine wpI_from 1 ?_; (iterate 1 ((first | (refine wpI_take3' (v := ?_) rfl (by kernel_rfl) (fun _ _ _ h => h) hI rfl ?_ ?_; rotate_left; (focus (rintro _ ⟨E, rfl⟩; go_simp; (try with_reducible rfl)))) | refine wpI_skip3' rfl (by kernel_rfl) (fun _ _ _ h => h) hI rfl ?_); simp only [Act.put, tk, Nat.reduceAdd])); refine wpI_till ?_)
  (refine wpI_from 4 ?_; (iterate 1 ((first | (refine wpI_take3' (v := ?_) rfl (by kernel_rfl) (fun _ _ _ h => h) hI rfl ?_ ?_; rotate_left; (focus (rintro _ ⟨E, rfl⟩; go_simp; (try with_reducible rfl)))) | refine wpI_skip3' rfl (by kernel_rfl) (fun _ _ _ h => h) hI rfl ?_); simp only [Act.put, tk, Nat.reduceAdd])); refine wpI_till ?_)
  (refine wpF_one 2 rfl (by kernel_rfl) rfl (fun K hK => ?_))
  go_simp
  have hq : Blk (x0.alloc (.cells #[.int .i64 0, .string ⟨#[]⟩] 78)) x0.heap.size #[.int .i64 0, .string ⟨#[]⟩] 78 := Blk.new x0 _ _
  have kq : Keep Nb x0 (x0.alloc (.cells #[.int .i64 0, .string ⟨#[]⟩] 78)) := Keep.alloc (Keep.refl _ _) _
  generalize x0.alloc (.cells #[.int .i64 0, .string ⟨#[]⟩] 78) = x1 at hq kq ⊢
  generalize x0.heap.size = q1 at hq ⊢
  replace hD := hD.trans kq (fun _ _ h => h)
  clear kq
  (refine hK _ _ (fun _ => InX.mk hD) (fun hI => ?_); have hI := hI (by simp); clear hK K; try simp only [Act.put, tk])
  (refine wpF_one 3 rfl (by kernel_rfl) rfl (fun K hK => ?_))
  go_simp
  have hp1 : PartsAt x1 (.slice (some ⟨q1, 0, none⟩) 1 1) [((0 : Int), (⟨#[]⟩ : ByteArray))] := ⟨_, 1, rfl, by simp, by unfold maxLen; omega, fun i hi => by
    obtain rfl : i = 0 := by simpa using hi
    exact ⟨q1, 0, rfl, hq.cell 0 rfl, hq.cell 1 rfl⟩⟩
  refine (HTP.out _ x1 hp1).mono ?_
  rintro e x2 ⟨A6, c6, rfl, hp2, kd⟩
  replace hD := hD.trans kd (fun _ _ h => h)
  clear kd hp1 hq
  (refine hK _ _ (fun _ => InX.mk hD) (fun hI => ?_); have hI := hI (by simp); clear hK K; try simp only [Act.put, tk])
  (refine wpF_one 5 rfl (by kernel_rfl) rfl (fun K hK => ?_))
  go_simp
  refine (HP.out A1 n1 _ x2 (Lies_keep hD HL5.out) hp2).mono ?_
  rintro e x3 ⟨rfl, kd⟩
  replace hD := hD.trans kd (fun _ _ h => h)
  clear kd hp2
  (refine hK _ _ (fun _ => InX.mk hD) (fun hI => ?_); have hI := hI (by simp); clear hK K; try simp only [Act.put, tk])
  (refine wpI_from 6 ?_; (iterate 6 ((first | (refine wpI_take3' (v := ?_) rfl (by kernel_rfl) (fun _ _ _ h => h) hI rfl ?_ ?_; rotate_left; (focus (rintro _ ⟨E, rfl⟩; go_simp; (try with_reducible rfl)))) | refine wpI_skip3' rfl (by kernel_rfl) (fun _ _ _ h => h) hI rfl ?_); simp only [Act.put, tk, Nat.reduceAdd])); refine wpI_till ?_)
  (refine wpF_one 12 rfl (by kernel_rfl) rfl (fun K hK => ?_))
  go_simp
  (refine hK _ _ (fun h => absurd (by simp) h) (fun _ => ?_); clear hK K; try simp only [Act.put, tk])
  (refine wpF_done (by kernel_rfl) ?_ _)
  have HU6 := Lib.hid (HU5.out.keep hD (fun h => h))
  have HL6 := Lib.hid (Lies_keep hD HL5.out)
  have HK6 := Lib.hid (HK5.out.trans hD (fun _ _ h => h))
  clear hD hI HU5 HL5 HK5
  by_cases he : er = 0
  · obtain ⟨rfl, s, ok, hv, hk⟩ := HEQ.out he
    subst he
    have hF := fun A1 n1 wx hx => find_any N (by have := HCT.out; omega) A1 n1 o 0 false wx hx
    rw [hv] at hF
    have HF := Lib.hid hF
    have HONE := Lib.hid (fLit_one s)
    clear hF hv
    have hu6 := HU6.out
    go_wp2_with (refine wpList_load_row rfl 33 (.tmp 5) rfl u5 rfl 33 _ (0, 0) _ hu6 Try.underlying33 rfl (by kernel_rfl) ?_)
    refine (HF.out A1 n1 x3 HL6.out).mono ?_
    rintro e x4 ⟨rfl, kd⟩
    have HK7 := Lib.hid (HK6.out.trans kd (fun _ _ h => h))
    have hzb : Blk (x4.alloc (.cells zeroFnd 49)) x4.heap.size zeroFnd 49 := Blk.new x4 _ _
    clear kd hu6
    go_wp2_with (refine wpList_store_row rfl 49 (.tmp 9) (.tmp 44) rfl x4.heap.size _ rfl rfl 49 _ hzb sizeFo rfl HONE.out ?_)
    go_ret
    exact ⟨rfl, Keep.setRow (Keep.alloc HK7.out _) (Or.inl HK7.out.size) _⟩
  · obtain ⟨rfl, rfl⟩ := HNE.out he
    have m1 : (er == 0) = false := beq_eq_false_iff_ne.2 he
    clear he
    go_wp2_with fail
    go_ret
    exact ⟨rfl, HK6.out⟩

theorem its_any (N : Nd) (v : Value) (T : ByteArray) (w : World) (hl : Lies w N v) :
    Calls Try.prog 16 #[.agg (Nd.row N v), .string T] w fun e w' => e = .returned (.bool true) ∧ Keep Nb w w' := by
  by_cases hf : few N = true
  · exact its_true N v T w hl hf
  · exact its_false N v T w hl (by simpa using hf)

end Go.Proofs.Ytkidjbfapldmbaa
