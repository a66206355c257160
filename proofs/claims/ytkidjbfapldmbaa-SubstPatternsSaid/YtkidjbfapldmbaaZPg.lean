import Derived.Test.YtkidjbfapldmbaaZPf
set_option linter.unusedVariables false
set_option linter.unusedSimpArgs false
namespace Go.Proofs.Ytkidjbfapldmbaa
open Go.RowKit P8
theorem findS_tries (L : List UInt8) (b : Bool) (n : Nd) (hn : okT n) (k : Nat) : ∀ (m a : Nat) (s x : St), findS k L b n m a s = some x → s.best = none → s.tries ≤ 3000 → a + m = L.length + 1 → x.tries ≤ 3000
 | 0, a, s, x, h, _, ht, _ => by rw [findS] at h; cases h; exact ht
 | m + 1, a, s, x, h, hb, ht, hm => by
  rw [findS, if_neg (by rw [hb]; simp), Option.bind_eq_some_iff] at h
  obtain ⟨s1, g1, g2⟩ := h
  have hs : StOk ⟨L, b, a⟩ s := ⟨ht, fun q c hq => by rw [hb] at hq; cases hq⟩
  have i1 := (inv_all ⟨L, b, a⟩ k).1 _ _ _ _ _ g1 hs (one_ok hn _ _) (by simp only []; omega) (noC_ok _)
  split at g2
  ·cases g2; exact i1.1.tries
  ·cases hb1 : s1.best with
   | none => exact findS_tries L b n hn k m (a + 1) s1 x g2 hb1 i1.1.tries (by omega)
   | some o =>
    have hx : x = s1 := by
     cases m with
     | zero => rw [findS] at g2; cases g2; rfl
     | succ m => rw [findS, if_pos (by rw [hb1]; rfl)] at g2; cases g2; rfl
    subst hx
    exact i1.1.tries
theorem found_ok (L : List UInt8) (n : Nd) (hn : okT n) (p : Nat) (hp : p ≤ L.length) : (found L false n hn p).tries ≤ 3000 ∧ ((found L false n hn p).over = false → CapsOk L.length (bestC (found L false n hn p)) ∧ ((found L false n hn p).best.isSome = (bestC (found L false n hn p) 0).isSome) ∧ ∀ a b, bestC (found L false n hn p) 0 = some (a, b) → p ≤ a ∧ a ≤ b ∧ b ≤ L.length) := by
 obtain ⟨k, hk⟩ := found_spec L false n hn p
 have h1 := findS_tries L false n hn k _ _ _ _ hk rfl (Nat.zero_le _) (by omega)
 have h2 := find_again L false n hn k _ _ _ _ hk rfl (Nat.zero_le _) (by omega)
 generalize found L false n hn p = S at h1 h2
 refine ⟨h1, fun ho => ?_⟩
 cases hb : S.best with
 | none => simp only [bestC, hb]; exact ⟨(fun _ _ _ h => by cases h), rfl, (fun a b h => by cases h)⟩
 | some o =>
  obtain ⟨q, c⟩ := o
  obtain ⟨g1, st, g2, g3, g4, _⟩ := h2 ho q c hb
  simp only [bestC, hb]
  refine ⟨g1, by rw [g2]; rfl, fun a b h => ?_⟩
  rw [g2] at h
  cases h
  have := g1 0 _ _ g2
  omega
def findO (P : PS) (s : St) (bb : Bool) (err : Int) : Value := if err = 0 ∧ 3000 < P.tries + s.tries then .tuple #[.agg zeroFnd, .bool false, .int .i64 12] else .tuple #[.agg (fLit s), .bool bb, .int .i64 err]
def FoundAt (base p : Nat) (N : Nd) (S pv : Value) (T : ByteArray) (P : PS) (s : St) (w : World) (f : Nat) (wr : World) : Prop :=
 PtAt base p N S pv T P wr ∧ Blk wr f (fLit s) 49 ∧ Blk wr w.heap.size zeroFnd 49 ∧ Keep Nb w wr ∧ f ≠ w.heap.size ∧ w.heap.size ≤ f
set_option maxRecDepth 100000 in
set_option maxHeartbeats 8000000 in
theorem putfind_any (base p : Nat) (N : Nd) (hcn : count N ≤ 900000) (A : Option Addr) (cap : Nat) (pv : Value) (T : ByteArray) (P : PS) (hp : P.pos ≤ 601) (ht : P.tries ≤ 100000) (s : St) (bb : Bool) (err : Int) (hs : s.tries ≤ 3000)
  (hv : findV N T (P.pos : Int) false = .tuple #[.agg (fLit s), .bool bb, .int .i64 err]) (w : World) (h : PtAt base p N (.slice A N.l.length cap) pv T P w) (hl : Lies w N (.slice A N.l.length cap)) :
  Calls Try.prog 74 #[.pointer (some ⟨p, 0, none⟩)] w fun e w' => e = .returned (findO P s bb err) ∧ PtAt base p N (.slice A N.l.length cap) pv T { P with tries := P.tries + s.tries } w' ∧ KeepU base p w w' := by
 have hF := fun wx hx => find_any N hcn A cap T (P.pos : Int) false wx hx
 rw [hv] at hF
 have HF := Lib.hid hF
 have HONE := Lib.hid (fLit_one s)
 have hlow := h.low
 have hl1 := hlow.2
 have HLOW := Lib.hid hlow
 have HL := Lib.hid hl
 have HP := Lib.hid h
 have HT := Lib.hid ht
 have HS := Lib.hid hs
 clear hF hv hcn hlow hl ht hs
 go_enter Try.func74, Try.ntmps74
 go_upto_region 1 with fail
 have k0 : Keep Nb w (w.alloc (.cells zeroFnd 49)) := Keep.alloc (Keep.refl _ _) _
 have r0 : Blk (w.alloc (.cells zeroFnd 49)) w.heap.size zeroFnd 49 := Blk.new w _ _
 have hx : w.alloc (.cells #[.complex .f64 0 0, .complex .f64 0 0, .complex .f64 0 0, .complex .f64 0 0, .complex .f64 0 0, .complex .f64 0 0, .complex .f64 0 0, .complex .f64 0 0, .complex .f64 0 0, .complex .f64 0 0, .complex .f64 0 0, .bool false, .bool false, .bool false, .bool false, .bool false, .bool false, .bool false, .bool false, .bool false, .bool false, .int .i64 0] 49) = w.alloc (.cells zeroFnd 49) := rfl
 rw [hx]; clear hx
 have p0 := HP.out.keep k0 (fun _ _ h => h)
 generalize w.alloc (.cells zeroFnd 49) = w1 at k0 r0 p0 ⊢
 have P0 := Lib.hid p0
 have K0 := Lib.hid k0
 have R0 := Lib.hid r0
 have L0 := Lib.hid (Lies_keep k0 HL.out)
 clear p0 r0 k0 h
 go_cut [5, 6, 7] (fun x y z wx => ∃ f : Nat, x = .pointer (some ⟨f, 0, none⟩) ∧ y = .bool bb ∧ z = .int .i64 err ∧ Hid (FoundAt base p N (.slice A N.l.length cap) pv T P s w f wx))
 case first =>
  obtain ⟨q, v, hB⟩ := P0.out
  have hlp := hB.blk.lt
  have c0 := hB.blk.cell 0 (u := .int .i64 N.h.k) rfl
  have c1 := hB.blk.cell 1 (u := .int .u8 N.h.c) rfl
  have c2 := hB.blk.cell 2 (u := .int .u64 N.h.s0) rfl
  have c3 := hB.blk.cell 3 (u := .int .u64 N.h.s1) rfl
  have c4 := hB.blk.cell 4 (u := .int .u64 N.h.s2) rfl
  have c5 := hB.blk.cell 5 (u := .int .u64 N.h.s3) rfl
  have c6 := hB.blk.cell 6 (u := .int .i64 N.h.n) rfl
  have c7 := hB.blk.cell 7 (u := .int .i64 N.h.mn) rfl
  have c8 := hB.blk.cell 8 (u := .int .i64 N.h.mx) rfl
  have c9 := hB.blk.cell 9 (u := .slice A N.l.length cap) rfl
  have c11 := hB.blk.cell 11 (u := .string T) rfl
  have c14 := hB.blk.cell 14 (u := .int .i64 (P.pos : Int)) rfl
  clear hB
  (refine wp_region_f [20] (InX Nb _) (by kernel_rfl) (InX.mk (Keep.drew (Keep.refl _ _))) (fun hI => ?_))
  have xx : ∀ k, ¬ Nb k := fun _ h => h
  have hD : Keep Nb w1 w1.drew := (Keep.refl _ _).drew
  generalize w1.drew = x0 at hI hD ⊢
  (refine wpI_from 0 ?_; (iterate 12 ((first | (refine wpI_take3' (v := ?_) rfl (by kernel_rfl) (fun _ _ _ h => h) hI rfl ?_ ?_; rotate_left; (focus (rintro _ ⟨E, rfl⟩; go_simp; (try with_reducible rfl)))) | refine wpI_skip3' rfl (by kernel_rfl) (fun _ _ _ h => h) hI rfl ?_); simp only [Act.put, tk, Nat.reduceAdd])); refine wpI_till ?_)
  clear c0 c1 c2 c3 c4 c5 c6 c7 c8 c9 c11 c14
  refine wpF_many [12, 17] (by kernel_rfl) (by simp) ?_
  refine many_cons ?_ (many_cons ?_ many_nil)
  ·refine wpF_way 12 rfl rfl (fun K hK => ?_)
   go_simp
   refine (HF.out x0 (Lies_keep hD L0.out)).mono ?_
   rintro e x1 ⟨rfl, kd⟩
   replace hD := Keep.trans hD kd (fun _ _ h => h)
   clear kd
   (refine hK _ _ (fun _ => InX.mk hD) (fun hI => ?_); have hI := hI (by simp); clear hK K; try simp only [Act.put, tk])
   (refine wpI_from 13 ?_; (iterate 4 ((first | (refine wpI_take3' (v := ?_) rfl (by kernel_rfl) (fun _ _ _ h => h) hI rfl ?_ ?_; rotate_left; (focus (rintro _ ⟨E, rfl⟩; go_simp; (try with_reducible rfl)))) | refine wpI_skip3' rfl (by kernel_rfl) (fun _ _ _ h => h) hI rfl ?_); simp only [Act.put, tk, Nat.reduceAdd])); refine wpI_till ?_)
   (refine wpF_one 17 rfl (by kernel_rfl) rfl (fun K hK => ?_))
   go_simp
   have hP := Blk.new x1 zeroFnd 49
   have hkn : Keep Nb x1 (x1.alloc (.cells zeroFnd 49)) := Keep.alloc (Keep.refl _ _) _
   rw [show (#[.complex .f64 0 0, .complex .f64 0 0, .complex .f64 0 0, .complex .f64 0 0, .complex .f64 0 0, .complex .f64 0 0, .complex .f64 0 0, .complex .f64 0 0, .complex .f64 0 0, .complex .f64 0 0, .complex .f64 0 0, .bool false, .bool false, .bool false, .bool false, .bool false, .bool false, .bool false, .bool false, .bool false, .bool false, .int .i64 0] : Array Value) = zeroFnd from rfl]
   have hsz := hD.size
   generalize x1.alloc (.cells zeroFnd 49) = x2 at hP hkn ⊢
   generalize ep : x1.heap.size = f at hP ⊢
   replace hD := Keep.trans hD hkn (fun _ _ h => h)
   have hfl : w1.heap.size ≤ f := by omega
   clear ep hsz hkn
   (refine hK _ _ (fun _ => InX.mk hD) (fun hI => ?_); have hI := hI (by simp); clear hK K; try simp only [Act.put, tk])
   (refine wpF_one 18 rfl (by kernel_rfl) rfl (fun K hK => ?_))
   refine wp_store_row 49 (.tmp 5) (.tmp 22) rfl f _ rfl rfl 49 _ hP sizeFo rfl HONE.out ?_
   replace hD := Keep.setRow hD (Or.inl hfl) (fLit s)
   replace hP := hP.setRow (fLit s)
   (refine hK _ _ (fun _ => InX.mk hD) (fun hI => ?_); have hI := hI (by simp); clear hK K; try simp only [Act.put, tk])
   (refine wpF_one 19 rfl (by kernel_rfl) rfl (fun K hK => ?_))
   go_simp
   (refine hK _ _ (fun _ => InX.mk hD) (fun hI => ?_); have hI := hI (by simp); clear hK K; try simp only [Act.put, tk])
   (refine wpF_one 20 rfl (by kernel_rfl) rfl (fun K hK => ?_))
   go_simp
   (refine hK _ _ (fun h => absurd (by simp) h) (fun _ => ?_); clear hK K; try simp only [Act.put, tk])
   (refine wpF_done (by kernel_rfl) ?_ _)
   have hw1 : w.heap.size < w1.heap.size := R0.out.lt
   have HFZ : Hid (FoundAt base p N (.slice A N.l.length cap) pv T P s w f (x2.setRow f (fLit s))) := Lib.hid ⟨P0.out.keep hD (fun _ _ h => h), hP, R0.out.keep hD (fun h => h), K0.out.trans hD (fun _ _ h => h), by omega, by omega⟩
   clear hP hD hfl hw1 hI
   go_wp2_with fail
   go_meet
   exact ⟨f, rfl, rfl, rfl, HFZ⟩
  ·refine wpF_way 17 rfl rfl (fun K hK => ?_)
   go_simp
   have hP := Blk.new x0 zeroFnd 49
   have hkn : Keep Nb x0 (x0.alloc (.cells zeroFnd 49)) := Keep.alloc (Keep.refl _ _) _
   rw [show (#[.complex .f64 0 0, .complex .f64 0 0, .complex .f64 0 0, .complex .f64 0 0, .complex .f64 0 0, .complex .f64 0 0, .complex .f64 0 0, .complex .f64 0 0, .complex .f64 0 0, .complex .f64 0 0, .complex .f64 0 0, .bool false, .bool false, .bool false, .bool false, .bool false, .bool false, .bool false, .bool false, .bool false, .bool false, .int .i64 0] : Array Value) = zeroFnd from rfl]
   have hsz := hD.size
   generalize x0.alloc (.cells zeroFnd 49) = x2 at hP hkn ⊢
   generalize ep : x0.heap.size = f at hP ⊢
   replace hD := Keep.trans hD hkn (fun _ _ h => h)
   have hfl : w1.heap.size ≤ f := by omega
   clear ep hsz hkn
   (refine hK _ _ (fun _ => InX.mk hD) (fun hI => ?_); have hI := hI (by simp); clear hK K; try simp only [Act.put, tk])
   (refine wpF_one 12 rfl (by kernel_rfl) rfl (fun K hK => ?_))
   go_simp
   refine (HF.out x2 (Lies_keep hD L0.out)).mono ?_
   rintro e x1 ⟨rfl, kd⟩
   replace hD := Keep.trans hD kd (fun _ _ h => h)
   replace hP := hP.keep kd (fun h => h)
   clear kd
   (refine hK _ _ (fun _ => InX.mk hD) (fun hI => ?_); have hI := hI (by simp); clear hK K; try simp only [Act.put, tk])
   (refine wpI_from 13 ?_; (iterate 4 ((first | (refine wpI_take3' (v := ?_) rfl (by kernel_rfl) (fun _ _ _ h => h) hI rfl ?_ ?_; rotate_left; (focus (rintro _ ⟨E, rfl⟩; go_simp; (try with_reducible rfl)))) | refine wpI_skip3' rfl (by kernel_rfl) (fun _ _ _ h => h) hI rfl ?_); simp only [Act.put, tk, Nat.reduceAdd])); refine wpI_till ?_)
   (refine wpF_one 18 rfl (by kernel_rfl) rfl (fun K hK => ?_))
   refine wp_store_row 49 (.tmp 5) (.tmp 22) rfl f _ rfl rfl 49 _ hP sizeFo rfl HONE.out ?_
   replace hD := Keep.setRow hD (Or.inl hfl) (fLit s)
   replace hP := hP.setRow (fLit s)
   (refine hK _ _ (fun _ => InX.mk hD) (fun hI => ?_); have hI := hI (by simp); clear hK K; try simp only [Act.put, tk])
   (refine wpF_one 19 rfl (by kernel_rfl) rfl (fun K hK => ?_))
   go_simp
   (refine hK _ _ (fun _ => InX.mk hD) (fun hI => ?_); have hI := hI (by simp); clear hK K; try simp only [Act.put, tk])
   (refine wpF_one 20 rfl (by kernel_rfl) rfl (fun K hK => ?_))
   go_simp
   (refine hK _ _ (fun h => absurd (by simp) h) (fun _ => ?_); clear hK K; try simp only [Act.put, tk])
   (refine wpF_done (by kernel_rfl) ?_ _)
   have hw1 : w.heap.size < w1.heap.size := R0.out.lt
   have HFZ : Hid (FoundAt base p N (.slice A N.l.length cap) pv T P s w f (x1.setRow f (fLit s))) := Lib.hid ⟨P0.out.keep hD (fun _ _ h => h), hP, R0.out.keep hD (fun h => h), K0.out.trans hD (fun _ _ h => h), by omega, by omega⟩
   clear hP hD hfl hw1 hI
   go_wp2_with fail
   go_meet
   exact ⟨f, rfl, rfl, rfl, HFZ⟩
 case rest =>
 obtain ⟨f, rfl, rfl, rfl, HFA⟩ := hcut
 clear P0 K0 R0 L0 HF
 have hf := HFA.out.2.1
 have c21 := hf.cell 21 (u := .int .i64 (s.tries : Int)) rfl
 have lf := hf.lt
 obtain ⟨q, v, hB⟩ := HFA.out.1
 have c16 := hB.blk.cell 16 (u := .int .i64 (P.tries : Int)) rfl
 have f16 := hB.blk.frozen 16
 have lp := hB.blk.lt
 obtain ⟨t2, ht2⟩ : ∃ t2, t2 = P.tries + s.tries := ⟨_, rfl⟩
 have W1 : IntKind.i64.wrap ((P.tries : Int) + (s.tries : Int)) = (t2 : Int) := by rw [IntKind.wrap_i64]; have := HT.out; have := HS.out; omega
 have HT2 := Lib.hid ht2
 clear ht2
 clear hB hf
 go_wp2_with fail
 (refine wp_region_f [9] (InX Nb _) (by kernel_rfl) (InX.mk (Keep.drew (Keep.refl _ _))) (fun hI => ?_))
 have xx : ∀ k, ¬ Nb k := fun _ h => h
 have hD : Keep Nb wc wc.drew := (Keep.refl _ _).drew
 have c16' : wc.drew.cell? ⟨p, 16, none⟩ = some (.int .i64 (P.tries : Int)) := c16
 have f16' : wc.drew.frozen? ⟨p, 16, none⟩ = false := f16
 have lp' : p < wc.drew.heap.size := lp
 generalize wc.drew = x0 at hI hD c16' f16' lp' ⊢
 (refine wpI_from 0 ?_; (iterate 9 ((first | (refine wpI_take3' (v := ?_) rfl (by kernel_rfl) (fun _ _ _ h => h) hI rfl ?_ ?_; rotate_left; (focus (rintro _ ⟨E, rfl⟩; go_simp; (try with_reducible rfl)))) | refine wpI_skip3' rfl (by kernel_rfl) (fun _ _ _ h => h) hI rfl ?_); simp only [Act.put, tk, Nat.reduceAdd])); refine wpI_till ?_)
 (refine wpF_one 9 rfl (by kernel_rfl) rfl (fun K hK => ?_))
 go_simp
 (refine hK _ _ (fun h => absurd (by simp) h) (fun _ => ?_); clear hK K; try simp only [Act.put, tk])
 (refine wpF_done (by kernel_rfl) ?_ _)
 have hP2 : PtAt base p N (.slice A N.l.length cap) pv T { P with tries := P.tries + s.tries } (x0.setCell ⟨p, 16, none⟩ (.int .i64 (t2 : Int))) :=
  (HFA.out.1.keep hD (fun _ _ h => h)).set { P with tries := P.tries + s.tries } 16 _ (by decide) rfl (fun _ _ => by rw [HT2.out]; rfl)
 have hpf : p ≠ f := by have := HLOW.out.2; have := HFA.out.2.2.2.2.2; omega
 have hpr : p ≠ w.heap.size := by have := HLOW.out.2; omega
 have hF2 : Blk (x0.setCell ⟨p, 16, none⟩ (.int .i64 (t2 : Int))) f (fLit s) 49 := (HFA.out.2.1.keep hD (fun h => h)).setOther (p := ⟨p, 16, none⟩) hpf _
 have hR2 : Blk (x0.setCell ⟨p, 16, none⟩ (.int .i64 (t2 : Int))) w.heap.size zeroFnd 49 := (HFA.out.2.2.1.keep hD (fun h => h)).setOther (p := ⟨p, 16, none⟩) hpr _
 have hK2 : KeepU base p w (x0.setCell ⟨p, 16, none⟩ (.int .i64 (t2 : Int))) := ((HFA.out.2.2.2.1.trans hD (fun _ _ h => h)).u base p).trans (KeepU.ob (Keep.setOb _ _ _ _) HLOW.out.1)
 have HP2 := Lib.hid hP2
 have HK2 := Lib.hid hK2
 obtain ⟨q2, v2, hB2⟩ := hP2
 have d16 := hB2.blk.cell 16 (u := .int .i64 (t2 : Int)) (by rw [HT2.out]; rfl)
 have lp2 := hB2.blk.lt
 clear hB2 hK2 c16 f16 lp c16' f16' lp' c21 lf hD hI hpf hpr
 generalize x0.setCell ⟨p, 16, none⟩ (.int .i64 (t2 : Int)) = w3 at HP2 HK2 hF2 hR2 d16 lp2 ⊢
 have HNP : Hid (w.heap.size ≠ p) := Lib.hid (by have := HLOW.out.2; omega)
 by_cases he : err = 0
 ·subst he
  by_cases hx : 3000 < P.tries + s.tries
  ·have m1 : decide ((3000 : Int) < (t2 : Int)) = true := by have := HT2.out; simp; omega
   have HE : Hid (Ending.returned (.tuple #[.agg zeroFnd, .bool false, .int .i64 12]) = .returned (findO P s bb 0)) := Lib.hid (by rw [findO, if_pos ⟨rfl, hx⟩])
   clear hx
   go_wp2_with (refine wpList_store_row rfl 49 (.tmp 2) (.tmp 43) rfl w.heap.size _ rfl rfl 49 _ hR2 sizeFo rfl (by simp [Value.oneCell']) ?_)
   exact bodyPost_ret (v := .tuple #[.agg zeroFnd, .bool false, .int .i64 12]) (results_ctt Try.results74 _ _ w.heap.size 49 _ (0, 0) _ rfl (hR2.setRow zeroFnd) Try.underlying49 rfl sizeFo) rfl ⟨HE.out, HP2.out.keepB hR2 (by decide) HNP.out (Keep.setRow (X := Ob w.heap.size) (Keep.refl _ _) (Or.inr rfl) _), Keep.setRow HK2.out (Or.inl (Nat.le_refl _)) _⟩
  ·have m1 : decide ((3000 : Int) < (t2 : Int)) = false := by have := HT2.out; simp; omega
   have HE : Hid (Ending.returned (.tuple #[.agg (fLit s), .bool bb, .int .i64 0]) = .returned (findO P s bb 0)) := Lib.hid (by rw [findO, if_neg (fun h => hx h.2)])
   clear hx
   go_wp2_with (first
    | (refine wpList_load_row rfl 49 (.tmp 5) rfl f rfl 49 (fLit s) (0, 0) _ hF2 Try.underlying49 rfl sizeFo ?_)
    | (refine wpList_store_row rfl 49 (.tmp 2) (.tmp 44) rfl w.heap.size _ rfl rfl 49 _ hR2 sizeFo rfl HONE.out ?_))
   exact bodyPost_ret (v := .tuple #[.agg (fLit s), .bool bb, .int .i64 0]) (results_ctt Try.results74 _ _ w.heap.size 49 _ (0, 0) _ rfl (hR2.setRow (fLit s)) Try.underlying49 rfl sizeFo) rfl ⟨HE.out, HP2.out.keepB hR2 (by decide) HNP.out (Keep.setRow (X := Ob w.heap.size) (Keep.refl _ _) (Or.inr rfl) _), Keep.setRow HK2.out (Or.inl (Nat.le_refl _)) _⟩
 ·have m1 : (err == 0) = false := beq_eq_false_iff_ne.2 he
  have HE : Hid (Ending.returned (.tuple #[.agg (fLit s), .bool bb, .int .i64 err]) = .returned (findO P s bb err)) := Lib.hid (by rw [findO, if_neg (fun h => he h.1)])
  clear he
  go_wp2_with (first
   | (refine wpList_load_row rfl 49 (.tmp 5) rfl f rfl 49 (fLit s) (0, 0) _ hF2 Try.underlying49 rfl sizeFo ?_)
   | (refine wpList_store_row rfl 49 (.tmp 2) (.tmp 44) rfl w.heap.size _ rfl rfl 49 _ hR2 sizeFo rfl HONE.out ?_))
  exact bodyPost_ret (v := .tuple #[.agg (fLit s), .bool bb, .int .i64 err]) (results_ctt Try.results74 _ _ w.heap.size 49 _ (0, 0) _ rfl (hR2.setRow (fLit s)) Try.underlying49 rfl sizeFo) rfl ⟨HE.out, HP2.out.keepB hR2 (by decide) HNP.out (Keep.setRow (X := Ob w.heap.size) (Keep.refl _ _) (Or.inr rfl) _), Keep.setRow HK2.out (Or.inl (Nat.le_refl _)) _⟩
end Go.Proofs.Ytkidjbfapldmbaa
