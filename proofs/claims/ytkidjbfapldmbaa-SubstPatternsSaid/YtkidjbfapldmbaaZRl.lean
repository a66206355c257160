import Derived.Test.YtkidjbfapldmbaaZRg
set_option linter.unusedVariables false
set_option linter.unusedSimpArgs false
namespace Go.Proofs.Ytkidjbfapldmbaa
open Go.RowKit P8
def NdsAt (base : Nat) (w : World) (o : Value) (ps : List (Nd × Value)) : Prop :=
 (∀ q, q ∈ ps → LiesP (fun b => base ≤ b ∧ b < w.heap.size ∧ some b ≠ o.ownBlock) w q.1 q.2) ∧ w.ownsRow base 27 10 o ps.length (rowsOf ps)
theorem NdsAt.nil (base : Nat) (w : World) : NdsAt base w (.slice none 0 0) [] := ⟨by simp, World.ownsRow_nil _ _ _ _⟩
theorem NdsAt.keep {X : Nat → Prop} {base : Nat} {w w' : World} {o : Value} {ps : List (Nd × Value)} (h : NdsAt base w o ps) (hk : Keep X w w') (hx : ∀ b, base ≤ b → ¬ X b) : NdsAt base w' o ps :=
 ⟨fun q hq => LiesP_mono (fun b _ _ hb _ => ⟨hb.1, Nat.lt_of_lt_of_le hb.2.1 hk.size, hb.2.2⟩) _ _ (LiesP_keep hk (fun b hb => hx b hb.1) (h.1 q hq)), ownsRow_keep h.2 hk (fun g hg => hx g (h.2.lt g hg).1)⟩
theorem NdsAt.own {base : Nat} {w : World} {o : Value} {ps : List (Nd × Value)} (h : NdsAt base w o ps) {b : Nat} (hb : w.heap.size ≤ b) : some b ≠ o.ownBlock := fun e => by
 have := (h.2.lt b e.symm).2; omega
theorem NdsAt.lies {base : Nat} {w : World} {o : Value} {ps : List (Nd × Value)} (h : NdsAt base w o ps) : ∃ A c, o = .slice A (ps.map (·.1)).length c ∧ (ps.map (·.1)).length ≤ c ∧ c ≤ maxLen ∧ LiesPL (fun b => base ≤ b) w A 0 (ps.map (·.1)) := by
 obtain ⟨A4, c4, hAe, hc1, hc2, hLL⟩ := LiesPL_owns (Ok := fun b => base ≤ b) h.2 (fun p hp => LiesP_mono (fun b _ _ hb _ => hb.1) _ _ (h.1 p hp)) (fun g hg => (h.2.lt g hg).1)
 exact ⟨A4, c4, by rw [List.length_map]; exact hAe, by rw [List.length_map]; exact hc1, hc2, hLL⟩
theorem wpList_append_one {w : World} {ops : Array Oper} {rest : List Oper} {o : Oper} {a : Act} {Q : Exit → Act → World → Prop} (hgd : o.guard = none) (s x : Operand)
  (ho : o.op = .call { callee := .builtin .append, args := #[s, x], argTypes := #[25, 25] })
  (base : Nat) (V : Value) (ps : List (Nd × Value)) (hs : a.eval s = V) (T : Nd) (S : Value) (q : Nat) (hx : a.eval x = .slice (some ⟨q, 0, none⟩) 1 1)
  (hN : NdsAt base w V ps) (hq : Blk w q (Nd.row T S) 27) (hqb : base ≤ q ∧ some q ≠ V.ownBlock) (hT : LiesP (fun b => base ≤ b ∧ some b ≠ V.ownBlock) w T S)
  (hlen : ps.length ≤ 100000) (hbase : base ≤ w.heap.size)
  (h : ∀ V' w' S', NdsAt base w' V' (ps ++ [(T, S')]) → Keep (fun b => base ≤ b) w w' → wpList Try.prog ops Q rest (a.put o.dst V') w') : wpList Try.prog ops Q (o :: rest) a w := by
 obtain ⟨i0, hi0, hz0, hz1, hz2⟩ := info_parts info27
 have hl1 : LiesPL (fun b => base ≤ b ∧ b < w.heap.size ∧ some b ≠ V.ownBlock) w (some ⟨q, 0, none⟩) 0 [T] :=
  one_lies hq ⟨hqb.1, hq.lt, hqb.2⟩ (LiesP_mono (fun b _ _ hb hc => ⟨hb.1, cell_lt hc, hb.2⟩) _ _ hT)
 refine wpList_append_nodes hgd s x 25 ho base 27 i0 _ Try.underlying25 hi0 hz0 hz1 hz2 rfl V ps.length ps hs hN.2 (some ⟨q, 0, none⟩) [T] 1 hx hl1 (by simp; omega) hbase ?_
 intro V' w' qs g1 g2 g3 g4 g5
 obtain ⟨y, rfl⟩ : ∃ y, qs = [y] := by
  cases qs with
  | nil => simp at g1
  | cons y r => cases r with
   | nil => exact ⟨y, rfl⟩
   | cons z r => simp at g1
 obtain ⟨y1, y2⟩ := y
 obtain rfl : y1 = T := by simpa using g1
 have hg : Keep (fun b => base ≤ b) w w' := (Keep.of_grown g4).mono (fun b hb e => (hN.2.lt b e.symm).1)
 refine h V' w' y2 ⟨fun r hr => ?_, by rw [List.length_append]; exact g3⟩ hg
 rcases List.mem_append.1 hr with hr | hr
 ·exact grown_lies rfl g4 g5 (fun b hb => ⟨hb.2.1, hb.2.2⟩) (fun b hb h1 h2 => ⟨hb.1, h1, h2⟩) (hN.1 r hr)
 ·exact grown_lies rfl g4 g5 (fun b hb => ⟨hb.2.1, hb.2.2⟩) (fun b hb h1 h2 => ⟨hb.1, h1, h2⟩) (g2 r hr)
def AtomSays (p : Nat) (s : ByteArray) (x : Bool) (m : Nat) : Prop := ∀ (a g : Nat) (β : Bool) (w : World), PdAt w p s a x g false → a < s.size → g ≤ 9 → s.size - a ≤ m →
 Calls Try.prog 107 #[.pointer (some ⟨p, 0, none⟩), .bool β] w fun e w' => ReadR p s x a 0 w w' e
def rdAt (w : World) (p : Nat) : Nat := match w.cell? ⟨p, 1, none⟩ with
 | some (.int _ a) => a.toNat
 | _ => 0
def rdBad (w : World) (p : Nat) : Nat := match w.cell? ⟨p, 4, none⟩ with
 | some (.bool true) => 0
 | _ => 1
theorem PdAt.at {w : World} {p : Nat} {s : ByteArray} {a : Nat} {x : Bool} {g : Nat} {b : Bool} (h : PdAt w p s a x g b) : rdAt w p = a := by
 unfold rdAt; rw [h.cell 1 (u := .int .i64 (a : Int)) rfl]; simp
theorem PdAt.bad {w : World} {p : Nat} {s : ByteArray} {a : Nat} {x : Bool} {g : Nat} {b : Bool} (h : PdAt w p s a x g b) : rdBad w p = if b = true then 0 else 1 := by
 unfold rdBad; rw [h.cell 4 (u := .bool b) rfl]; cases b <;> rfl
def BrAt (p : Nat) (s : ByteArray) (x : Bool) (a : Nat) (w wr : World) (o : Value) (ps : List (Nd × Value)) (a' g' : Nat) (b' : Bool) : Prop :=
 PdAt wr p s a' x g' b' ∧ Blk wr w.heap.size zeroNode 27 ∧ Keep (Ob p) w wr ∧ (a ≤ a' ∧ a' ≤ s.size ∧ g' ≤ 9) ∧ NdsAt (w.heap.size + 1) wr o ps ∧ countL (ps.map (·.1)) ≤ 4 * (a' - a) + (if b' = true then 1 else 0)
theorem BrAt.keep {p : Nat} {s : ByteArray} {x : Bool} {a : Nat} {w wr wz : World} {o : Value} {ps : List (Nd × Value)} {a' g' : Nat} {b' : Bool} (h : BrAt p s x a w wr o ps a' g' b') (hk : Keep Nb wr wz) : BrAt p s x a w wz o ps a' g' b' :=
 ⟨h.1.keep hk (fun h => h), h.2.1.keep hk (fun h => h), Keep.trans h.2.2.1 hk (fun _ _ h => h.elim), h.2.2.2.1, h.2.2.2.2.1.keep hk (fun _ _ h => h), h.2.2.2.2.2⟩
set_option maxRecDepth 100000 in
set_option maxHeartbeats 16000000 in
theorem pbranch_h (p : Nat) (s : ByteArray) (x : Bool) (m : Nat) (HA : AtomSays p s x m) (a g : Nat) (w : World) (hb : PdAt w p s a x g false) (ha : a ≤ s.size) (hs : s.size ≤ 600) (hg : g ≤ 9) (hm : s.size - a ≤ m) :
  Calls Try.prog 91 #[.pointer (some ⟨p, 0, none⟩)] w fun e w' => WholeR p s x a 1 w w' e := by
 have HS := Lib.hid hs
 have HMM := Lib.hid hm
 have HAA := Lib.hid HA
 have hl := hb.lt
 go_enter Try.func91, Try.ntmps91
 go_upto_region 1 with fail
 have hb1 : PdAt (w.alloc (.cells zeroNode 27)) p s a x g false := hb.alloc _
 have hr1 : Blk (w.alloc (.cells zeroNode 27)) w.heap.size zeroNode 27 := Blk.new w _ _
 have hk1 : Keep Nb w (w.alloc (.cells zeroNode 27)) := Keep.alloc (Keep.refl _ _) _
 have hx : w.alloc (.cells #[.int .i64 0, .int .u8 0, .int .u64 0, .int .u64 0, .int .u64 0, .int .u64 0, .int .i64 0, .int .i64 0, .int .i64 0, .slice none 0 0] 27) = w.alloc (.cells zeroNode 27) := rfl
 rw [hx]; clear hx
 have HB1 : Hid (BrAt p s x a w (w.alloc (.cells zeroNode 27)) (.slice none 0 0) [] a g false) := Lib.hid ⟨hb1, hr1, hk1.ob, ⟨Nat.le_refl _, ha, hg⟩, NdsAt.nil _ _, by simp [countL]⟩
 generalize w.alloc (.cells zeroNode 27) = w1 at HB1 ⊢
 have hne : p ≠ w.heap.size := by omega
 have HNE := Lib.hid hne
 have nn : ¬ Nb p := fun h => h
 clear hb1 hr1 hk1 HA hs ha hg hm hb hne
 go_wp2_with fail
 go_loopw [3, 4] (fun o v wr => ∃ (ps : List (Nd × Value)) (a' g' : Nat) (b' φ : Bool), v = .bool φ ∧ Hid (BrAt p s x a w wr o ps a' g' b')) (fun _ _ wr => 2 * (s.size - rdAt wr p) + rdBad wr p)
 case atStart => exact ⟨[], a, g, false, true, rfl, HB1⟩
 case round =>
  clear HB1
  obtain ⟨ps, a1, g1, b1, φ, rfl, HB⟩ := hrel
  have hmeas : 2 * (s.size - rdAt wr p) + rdBad wr p = 2 * (s.size - a1) + (if b1 = true then 0 else 1) := by rw [HB.out.1.at, HB.out.1.bad]
  have HME := Lib.hid hmeas
  clear hmeas
  go_upto_region 3 with fail
  go_cut [34] (fun y wx => ∃ β : Bool, y = .bool β ∧ Hid (β = true → b1 = false ∧ a1 < s.size) ∧ Hid (BrAt p s x a w wx u3 ps a1 g1 b1))
  case first =>
   have hb := HB.out.1
   have hl1 := hb.lt
   have c4 := hb.cell 4 (u := .bool b1) rfl
   have HA1 : Hid (a1 ≤ s.size) := Lib.hid HB.out.2.2.2.1.2.1
   cases b1 with
   | true =>
    go_wp2_with fail
    go_meet
    exact ⟨false, rfl, Lib.hid (by simp), HB⟩
   | false =>
   go_wp2_with fail
   refine (pend_any p s a1 x g1 false wr hb).mono ?_
   rintro e w2 ⟨rfl, kd⟩
   have HB2 := Lib.hid (HB.out.keep kd)
   clear kd hb hl1 c4
   by_cases he : s.size ≤ a1
   ·have m1 : decide (s.size ≤ a1) = true := by simpa using he
    clear he
    go_wp2_with fail
    go_meet
    exact ⟨false, rfl, Lib.hid (by simp), HB2⟩
   have m1 : decide (s.size ≤ a1) = false := by simpa using he
   have HLT : Hid (a1 < s.size) := Lib.hid (by omega)
   clear he
   go_wp2_with fail
   refine (pshut_x p s a1 x g1 false w2 HB2.out.1).mono ?_
   rintro e y2 ⟨rfl, rfl⟩
   go_wp2_with fail
   refine (phas_any p s a1 x g1 false (shutT x) y2 HB2.out.1 HA1.out HS.out (by have := shutT_size x; omega)).mono ?_
   rintro e w3 ⟨r, rfl, h1, kd⟩
   have HB3 := Lib.hid (HB2.out.keep kd)
   clear kd h1 m1
   cases r with
   | true =>
    go_wp2_with fail
    go_meet
    exact ⟨false, rfl, Lib.hid (by simp), HB3⟩
   | false =>
   have hb3 := HB3.out.1
   have hl3 := hb3.lt
   have c2 := hb3.cell 2 (u := .bool x) rfl
   cases x with
   | false =>
    go_wp2_with fail
    go_meet
    exact ⟨true, rfl, Lib.hid (fun _ => ⟨(by first | rfl | trivial), HLT.out⟩), HB3⟩
   | true =>
    go_wp2_with fail
    refine (phas_any p s a1 true g1 false _ w3 hb3 HA1.out HS.out (by decide)).mono ?_
    rintro e w4 ⟨r, rfl, h1, kd⟩
    have HB4 := Lib.hid (HB3.out.keep kd)
    clear kd h1 hb3 hl3 c2
    cases r with
    | true =>
     go_wp2_with fail
     go_meet
     exact ⟨false, rfl, Lib.hid (by simp), HB4⟩
    | false =>
     go_wp2_with fail
     go_meet
     exact ⟨true, rfl, Lib.hid (fun _ => ⟨(by first | rfl | trivial), HLT.out⟩), HB4⟩
  case rest =>
  obtain ⟨β, rfl, Hβ, HB2⟩ := hcut
  clear HB
  cases β with
  | false =>
   clear Hβ HME
   obtain ⟨A, c, hAe, hc1, hc2, hLL⟩ := HB2.out.2.2.2.2.1.lies
   have HLL := Lib.hid hLL
   rw [List.length_map] at hAe
   subst hAe
   have hb2 := HB2.out.1
   have hl2 := hb2.lt
   have c4 := hb2.cell 4 (u := .bool b1) rfl
   have c2 := hb2.cell 2 (u := .bool x) rfl
   clear hLL hc1 hc2
   go_upto_region 12 with fail
   go_cut [119] (fun y wx => ∃ γ : Bool, y = .bool γ ∧ Hid (γ = true → b1 = false) ∧ wx = wc)
   case first =>
    cases b1 with
    | true =>
     go_wp2_with fail
     go_meet
     exact ⟨false, rfl, Lib.hid (by simp), rfl⟩
    | false =>
     cases x with
     | false =>
      go_wp2_with fail
      go_meet
      exact ⟨false, rfl, Lib.hid (by simp), rfl⟩
     | true =>
      go_wp2_with fail
      go_meet
      exact ⟨_, rfl, (by first | exact Lib.hid (fun _ => rfl) | exact Lib.hid (by simp) | exact Lib.hid trivial), rfl⟩
   case rest =>
   obtain ⟨γ, rfl, Hγ, rfl⟩ := hcut
   cases γ with
   | true =>
    obtain rfl := Hγ.out rfl
    clear Hγ c4 c2
    go_wp2_with fail
    refine (pfail_any p s a1 x g1 false wc hb2).mono ?_
    rintro e wf ⟨rfl, hbf, kd⟩
    have hrf := HB2.out.2.1.keep kd (fun h => HNE.out h.symm)
    have hkf := Keep.trans HB2.out.2.2.1 kd (fun _ _ h => h)
    clear kd
    go_wp2_with (refine wpList_store_row rfl 27 (.tmp 2) (.tmp _) rfl w.heap.size _ rfl rfl 27 _ hrf size27 rfl (by simp [Nd.row, Value.oneCell']) ?_)
    exact bodyPost_ret (results_cell_row Try.results91 _ _ w.heap.size 27 _ (0, 0) _ rfl (hrf.setRow (Nd.row nd0 (.slice none 0 0))) Try.underlying27 rfl size27) rfl ⟨nd0, _, a1, g1, true, rfl, lies_leaf _ _, hbf.setRowOther HNE.out _, Keep.setRow hkf (Or.inl (Nat.le_refl _)) _, HB2.out.2.2.2.1, by simp [nd0, count, countL]⟩
   | false =>
    clear Hγ c4 c2
    have HCN : Hid (countL (ps.map (·.1)) ≤ 900000) := Lib.hid (by
     have h1 := HB2.out.2.2.2.2.2
     have h2 := HB2.out.2.2.2.1
     have h3 := HS.out
     have h4 : (if b1 = true then 1 else 0) ≤ 1 := by split <;> omega
     omega)
    have HCJ := Lib.hid (count_joinT (ps.map (·.1)))
    have HJ0 := Lib.hid (rjoin_any (ps.map (·.1)) HCN.out A c wc HLL.out)
    generalize joinT (ps.map (·.1)) = T at HCJ HJ0
    go_wp2_with fail
    have hJ := HJ0.out
    rw [List.length_map] at hJ
    refine hJ.mono ?_
    clear hJ
    rintro e w3 ⟨S, rfl, hL3, kd⟩
    obtain ⟨A3, c3, rfl, z1, z2, z3⟩ := LiesP_def.1 hL3
    have HL3 := Lib.hid hL3
    have HB3 := Lib.hid (HB2.out.keep kd)
    have HKD := Lib.hid (HB2.out.2.2.1.size)
    have hr3 := HB3.out.2.1
    clear z1 z2 z3 hL3 kd hb2 hl2
    go_wp2_with (refine wpList_store_row rfl 27 (.tmp 2) (.tmp _) rfl w.heap.size _ rfl rfl 27 _ hr3 size27 rfl (by simp [Nd.row, Value.oneCell']) ?_)
    exact bodyPost_ret (results_cell_row Try.results91 _ _ w.heap.size 27 _ (0, 0) _ rfl (hr3.setRow (Nd.row T (.slice A3 T.l.length c3))) Try.underlying27 rfl size27) rfl
     ⟨T, _, a1, g1, b1, rfl, LiesP_mono (fun q _ _ hq _ => by have := HKD.out; rcases hq with hq | hq <;> omega) _ _ (LiesP_keep (Keep.setRow (X := Ob w.heap.size) (Keep.refl _ _) (Or.inr rfl) _) (fun q hq e => by have := HB2.out.2.1.lt; simp only [Ob] at e; rcases hq with hq | hq <;> omega) HL3.out),
      HB3.out.1.setRowOther HNE.out _, Keep.setRow HB3.out.2.2.1 (Or.inl (Nat.le_refl _)) _, HB2.out.2.2.2.1, by have := HCJ.out; have := HB2.out.2.2.2.2.2; omega⟩
  | true =>
   obtain ⟨rfl, hlt⟩ := Hβ.out rfl
   have HLT := Lib.hid hlt
   clear Hβ hlt
   obtain ⟨A, c, hAe, hc1, hc2, hLL⟩ := HB2.out.2.2.2.2.1.lies
   have HLL := Lib.hid hLL
   rw [List.length_map] at hAe
   subst hAe
   clear hLL hc1 hc2
   have hb2 := HB2.out.1
   have hl2 := hb2.lt
   have c2 := hb2.cell 2 (u := .bool x) rfl
   go_upto_region 4 with fail
   go_cut [5] (fun y wx => ∃ σ : Bool, y = .bool σ ∧ Hid (BrAt p s x a w wx (.slice A ps.length c) ps a1 g1 false))
   case first =>
    cases x with
    | true =>
     go_wp2_with fail
     go_meet
     exact ⟨_, rfl, HB2⟩
    | false =>
     go_wp2_with fail
     refine (phas_any p s a1 false g1 false _ wc hb2 (Nat.le_of_lt HLT.out) HS.out (by decide)).mono ?_
     rintro e w3 ⟨r, rfl, h1, kd⟩
     have HB3 := Lib.hid (HB2.out.keep kd)
     have HKD := Lib.hid kd
     clear kd h1 hb2 hl2 c2
     cases r with
     | false =>
      go_wp2_with fail
      go_meet
      exact ⟨_, rfl, HB3⟩
     | true =>
     cases φ with
     | true =>
      go_wp2_with fail
      go_meet
      exact ⟨_, rfl, HB3⟩
     | false =>
      by_cases h1 : ps.length = 1
      ·have m1 : ((ps.length : Int) == 1) = true := by simp [h1]
       obtain ⟨b, off, A2, n2, rfl, hob, hten, hly⟩ := HLL.out.atP 0 (by rw [List.length_map]; omega)
       rw [Nat.zero_mul, Nat.add_zero] at hten
       obtain ⟨kk, c0⟩ : ∃ kk, w3.cell? ⟨b, off, none⟩ = some (.int .i64 kk) := ⟨_, (hten.keep HKD.out).c0⟩
       have lt0 := (hten.keep HKD.out).lt
       have h0 : (0 : Int) < (ps.length : Int) := by omega
       clear hten hob hly h1
       go_wp2_with fail
       all_goals
        go_meet
        exact ⟨_, rfl, HB3⟩
      ·have m1 : ((ps.length : Int) == 1) = false := beq_eq_false_iff_ne.2 (by omega)
       clear h1
       go_wp2_with fail
       go_meet
       exact ⟨_, rfl, HB3⟩
   case rest =>
   obtain ⟨σ, rfl, HB3⟩ := hcut
   clear HB2 hb2 hl2 c2 HLL
   have hb3 := HB3.out.1
   have hl3 := hb3.lt
   go_upto_region 5 with fail
   go_cut [67] (fun y wx => ∃ γ : Bool, y = .bool γ ∧ Hid (BrAt p s x a w wx (.slice A ps.length c) ps a1 g1 false))
   case first =>
    go_wp2_with fail
    refine (prepeats_any p s a1 x g1 false wc hb3 (Nat.le_of_lt HLT.out) HS.out).mono ?_
    rintro e w4 ⟨r, rfl, h1, kd⟩
    have HB4 := Lib.hid (HB3.out.keep kd)
    clear kd h1 hb3 hl3
    cases r with
    | false =>
     go_wp2_with fail
     go_meet
     exact ⟨_, rfl, HB4⟩
    | true =>
     cases σ with
     | true =>
      go_wp2_with fail
      go_meet
      exact ⟨_, rfl, HB4⟩
     | false =>
      go_wp2_with fail
      go_meet
      exact ⟨_, rfl, HB4⟩
   case rest =>
   obtain ⟨γ, rfl, HB4⟩ := hcut
   clear HB3 hb3 hl3
   have hb4 := HB4.out.1
   have hl4 := hb4.lt
   cases γ with
   | true =>
    go_wp2_with fail
    refine (pfail_any p s a1 x g1 false wc hb4).mono ?_
    rintro e wf ⟨rfl, hbf, kd⟩
    have hrf := HB4.out.2.1.keep kd (fun h => HNE.out h.symm)
    have hkf := Keep.trans HB4.out.2.2.1 kd (fun _ _ h => h)
    clear kd
    go_wp2_with (refine wpList_store_row rfl 27 (.tmp 2) (.tmp _) rfl w.heap.size _ rfl rfl 27 _ hrf size27 rfl (by simp [Nd.row, Value.oneCell']) ?_)
    exact bodyPost_ret (results_cell_row Try.results91 _ _ w.heap.size 27 _ (0, 0) _ rfl (hrf.setRow (Nd.row nd0 (.slice none 0 0))) Try.underlying27 rfl size27) rfl ⟨nd0, _, a1, g1, true, rfl, lies_leaf _ _, hbf.setRowOther HNE.out _, Keep.setRow hkf (Or.inl (Nat.le_refl _)) _, HB4.out.2.2.2.1, by simp [nd0, count, countL]⟩
   | false =>
   go_wp2_with fail
   refine (HAA.out a1 g1 φ wc hb4 HLT.out HB4.out.2.2.2.1.2.2 (by have := HMM.out; have := HB4.out.2.2.2.1.1; omega)).mono ?_
   rintro e w5 ⟨T, S, a2, g2, b2, rfl, hL5, hb5, kd, hh, hpr, hcnt⟩
   obtain ⟨A1, c1, rfl, z1, z2, z3⟩ := LiesP_def.1 hL5
   have hr5 := HB4.out.2.1.keep kd (fun h => HNE.out h.symm)
   have hk5 := Keep.trans HB4.out.2.2.1 kd (fun _ _ h => h)
   have hn5 := HB4.out.2.2.2.2.1.keep kd (fun b hb e => by simp only [Ob] at e; omega)
   have hbase : w.heap.size + 1 ≤ wc.heap.size := HB4.out.2.1.lt
   have hsz5 := kd.size
   have HB5 : Hid (BrAt p s x a w w5 (.slice A ps.length c) ps a2 g2 b2) := Lib.hid ⟨hb5, hr5, hk5, ⟨by have := HB4.out.2.2.2.1; omega, hh.2.1, hh.2.2⟩, hn5, by have h1 := HB4.out.2.2.2.2.2; have h2 := HB4.out.2.2.2.1; simp at h1; omega⟩
   have HC5 : Hid (countL (ps.map (·.1)) ≤ 4 * (a1 - a) ∧ a ≤ a1) := Lib.hid ⟨by have h1 := HB4.out.2.2.2.2.2; simpa using h1, HB4.out.2.2.2.1.1⟩
   have HT5 : Hid (LiesP (fun q => w.heap.size + 1 ≤ q ∧ some q ≠ (Value.slice A ps.length c).ownBlock) w5 T (.slice A1 T.l.length c1)) := Lib.hid (LiesP_mono (fun q _ _ hq _ => ⟨by omega, HB4.out.2.2.2.2.1.own hq⟩) _ _ hL5)
   have HPR := Lib.hid hpr
   have HCT := Lib.hid hcnt
   have HH := Lib.hid hh
   clear z1 z2 z3 hL5 hpr hcnt hh hr5 hk5 hn5 kd hb4 hl4
   go_upto_region 8 with (refine wpList_store_row rfl 27 (.tmp 6) (.tmp _) rfl w5.heap.size _ rfl rfl 27 _ (Blk.new w5 #[.int .i64 0, .int .u8 0, .int .u64 0, .int .u64 0, .int .u64 0, .int .u64 0, .int .i64 0, .int .i64 0, .int .i64 0, .slice none 0 0] 27) size27 rfl (by simp [Nd.row, Value.oneCell']) ?_)
   try simp only [Act.put, tk]
   have hn1 : w.heap.size ≠ w5.heap.size := by omega
   have hn2 : p ≠ w5.heap.size := by omega
   have hkW : Keep (Ob w5.heap.size) (w5.alloc (.cells zeroNode 27)) ((w5.alloc (.cells zeroNode 27)).setRow w5.heap.size (Nd.row T (.slice A1 T.l.length c1))) := Keep.setRow (X := Ob w5.heap.size) (Keep.refl _ _) (Or.inr rfl) _
   have hkA : Keep Nb w5 ((w5.alloc (.cells zeroNode 27)).setRow w5.heap.size (Nd.row T (.slice A1 T.l.length c1))) := Keep.setRow (Keep.alloc (Keep.refl _ _) _) (Or.inl (Nat.le_refl _)) _
   have HB6 : Hid (BrAt p s x a w ((w5.alloc (.cells zeroNode 27)).setRow w5.heap.size (Nd.row T (.slice A1 T.l.length c1))) (.slice A ps.length c) ps a2 g2 b2) := Lib.hid (HB5.out.keep hkA)
   have HT6 : Hid (LiesP (fun q => w.heap.size + 1 ≤ q ∧ some q ≠ (Value.slice A ps.length c).ownBlock) ((w5.alloc (.cells zeroNode 27)).setRow w5.heap.size (Nd.row T (.slice A1 T.l.length c1))) T (.slice A1 T.l.length c1)) := Lib.hid (Lies_keep hkA HT5.out)
   have HQ6 : Hid (Blk ((w5.alloc (.cells zeroNode 27)).setRow w5.heap.size (Nd.row T (.slice A1 T.l.length c1))) w5.heap.size (Nd.row T (.slice A1 T.l.length c1)) 27) := Lib.hid ((Blk.new w5 _ _).setRow _)
   have HO6 : Hid (w.heap.size + 1 ≤ w5.heap.size ∧ some w5.heap.size ≠ (Value.slice A ps.length c).ownBlock) := Lib.hid ⟨by omega, HB5.out.2.2.2.2.1.own (Nat.le_refl _)⟩
   have hx : ∀ V : Array Value, (w5.alloc (.cells #[.int .i64 0, .int .u8 0, .int .u64 0, .int .u64 0, .int .u64 0, .int .u64 0, .int .i64 0, .int .i64 0, .int .i64 0, .slice none 0 0] 27)).setRow w5.heap.size V = (w5.alloc (.cells zeroNode 27)).setRow w5.heap.size V := fun _ => rfl
   rw [hx]
   clear hx hkW hkA hn1 hn2 hb5 HB5 HT5 hsz5
   generalize ((w5.alloc (.cells zeroNode 27)).setRow w5.heap.size (Nd.row T (.slice A1 T.l.length c1))) = w6 at HB6 HT6 HQ6 ⊢
   generalize w5.heap.size = q6 at HQ6 HO6 ⊢
   go_upto_region 9 with fail
   go_cut [93] (fun y wx => ∃ δ : Bool, y = .bool δ ∧ Hid (BrAt p s x a w wx (.slice A ps.length c) ps a2 g2 b2) ∧ Hid (LiesP (fun q => w.heap.size + 1 ≤ q ∧ some q ≠ (Value.slice A ps.length c).ownBlock) wx T (.slice A1 T.l.length c1)) ∧ Hid (Blk wx q6 (Nd.row T (.slice A1 T.l.length c1)) 27))
   case first =>
    have hb6 := HB6.out.1
    have hl6 := hb6.lt
    have c4 := hb6.cell 4 (u := .bool b2) rfl
    have c2 := hb6.cell 2 (u := .bool x) rfl
    have q0 := HQ6.out.cell 0 (u := .int .i64 T.h.k) rfl
    have lq := HQ6.out.lt
    cases b2 with
    | true =>
     go_wp2_with fail
     go_meet
     exact ⟨_, rfl, HB6, HT6, HQ6⟩
    | false =>
     by_cases hk4 : T.h.k = 4
     ·have m1 : (T.h.k == 4) = true := by simp [hk4]
      clear hk4
      cases x with
      | true =>
       go_wp2_with fail
       go_meet
       exact ⟨_, rfl, HB6, HT6, HQ6⟩
      | false =>
       go_wp2_with fail
       refine (phas_any p s a2 false g2 false _ w6 hb6 HH.out.2.1 HS.out (by decide)).mono ?_
       rintro e w7 ⟨r, rfl, h1, kd⟩
       have HB7 := Lib.hid (HB6.out.keep kd)
       have HT7 := Lib.hid (Lies_keep kd HT6.out)
       have HQ7 := Lib.hid (HQ6.out.keep kd (fun h => h))
       clear kd h1 hb6 hl6 c4 c2 q0 lq
       go_wp2_with fail
       go_meet
       exact ⟨_, rfl, HB7, HT7, HQ7⟩
     ·have m1 : (T.h.k == 4) = false := beq_eq_false_iff_ne.2 hk4
      clear hk4
      go_wp2_with fail
      go_meet
      exact ⟨_, rfl, HB6, HT6, HQ6⟩
   case rest =>
   obtain ⟨δ, rfl, HB7, HT7, HQ7⟩ := hcut
   clear HB6 HT6 HQ6
   have hq7 := HQ7.out
   have lq7 := hq7.lt
   cases δ with
   | true =>
    go_upto_region 10 with fail
    have hkA : Keep Nb wc (wc.alloc (.cells (Nd.row T (.slice A1 T.l.length c1)) 27)) := Keep.alloc (Keep.refl _ _) _
    have HBA := Lib.hid (HB7.out.keep hkA)
    have HTA := Lib.hid (Lies_keep hkA HT7.out)
    have HQA : Hid (Blk (wc.alloc (.cells (Nd.row T (.slice A1 T.l.length c1)) 27)) wc.heap.size (Nd.row T (.slice A1 T.l.length c1)) 27) := Lib.hid (Blk.new wc _ _)
    have HOA : Hid (w.heap.size + 1 ≤ wc.heap.size ∧ some wc.heap.size ≠ (Value.slice A ps.length c).ownBlock) := Lib.hid ⟨by have := HO6.out; omega, HB7.out.2.2.2.2.1.own (Nat.le_refl _)⟩
    have HLE : Hid (ps.length ≤ 100000) := Lib.hid (by have h1 := HC5.out.1; have h2 := countL_len (ps.map (·.1)); rw [List.length_map] at h2; have := HS.out; have := HH.out; omega)
    have HSZ : Hid (w.heap.size + 1 ≤ (wc.alloc (.cells (Nd.row T (.slice A1 T.l.length c1)) 27)).heap.size) := Lib.hid (by have := HOA.out; simp; omega)
    clear hkA
    go_wp2_with (first
     | ((refine wpList_load_row rfl 27 (.tmp 6) rfl q6 rfl 27 _ (0, 0) _ hq7 Try.underlying27 rfl size27 ?_); simp only [Nd.row])
     | (refine wpList_append_one rfl _ _ rfl (w.heap.size + 1) (.slice A ps.length c) ps rfl T (.slice A1 T.l.length c1) wc.heap.size rfl HBA.out.2.2.2.2.1 HQA.out HOA.out HTA.out HLE.out HSZ.out ?_))
    intro V' w9 S9 hN9 kG
    have HN9 := Lib.hid hN9
    have HKG := Lib.hid kG
    have hb9 : PdAt w9 p s a2 x g2 b2 := HBA.out.1.keep kG (fun h => by omega)
    have HB9 : Hid (BrAt p s x a w w9 V' (ps ++ [(T, S9)]) a2 g2 b2) := Lib.hid ⟨hb9, HBA.out.2.1.keep kG (fun h => by omega), Keep.trans HBA.out.2.2.1 kG (fun b hb h => by omega), HBA.out.2.2.2.1, hN9, by
     rw [List.map_append, countL_append]
     have h1 := HC5.out
     have h2 := HCT.out
     have h3 := HH.out
     skip
     simp only [List.map_cons, List.map_nil, countL]
     omega⟩
    have HMS : Hid (2 * (s.size - rdAt w9 p) + rdBad w9 p < 2 * (s.size - rdAt wr p) + rdBad wr p) := Lib.hid (by
     rw [HME.out, hb9.at, hb9.bad]
     have h3 := HH.out
     have h4 := HLT.out
     have h5 := HPR.out
     skip
     cases b2 <;> simp_all <;> omega)
    clear hN9 kG hb9
    go_wp2_with fail
    go_roundw
    case rel => exact ⟨_, a2, g2, b2, false, rfl, HB9⟩
    case measure => exact HMS.out
   | false =>
    go_wp2_with (refine wpList_load_row rfl 27 (.tmp 6) rfl q6 rfl 27 _ (0, 0) _ hq7 Try.underlying27 rfl size27 ?_)
    refine (prepeated_any p s a2 x g2 b2 T (.slice A1 T.l.length c1) wc HB7.out.1 HT7.out HH.out.2.1 HS.out).mono ?_
    rintro e w8 ⟨T8, S8, a3, b3, rfl, hL8, hb8, kd, hh3, hc3, hbb⟩
    obtain ⟨A8, c8, rfl, z1, z2, z3⟩ := LiesP_def.1 hL8
    have hsz8 := kd.size
    have HB8 : Hid (BrAt p s x a w w8 (.slice A ps.length c) ps a3 g2 b3) := Lib.hid ⟨hb8, HB7.out.2.1.keep kd (fun h => HNE.out h.symm), Keep.trans HB7.out.2.2.1 kd (fun _ _ h => h), ⟨by have := HB7.out.2.2.2.1; omega, hh3.2, HB7.out.2.2.2.1.2.2⟩, HB7.out.2.2.2.2.1.keep kd (fun b hb e => by simp only [Ob] at e; omega), by have h1 := HC5.out; have h2 := HH.out; omega⟩
    have HT8 : Hid (LiesP (fun q => w.heap.size + 1 ≤ q ∧ some q ≠ (Value.slice A ps.length c).ownBlock) w8 T8 (.slice A8 T8.l.length c8)) := Lib.hid (LiesP_mono (fun q _ _ hq _ => by
     rcases hq with hq | hq
     ·exact hq
     ·exact ⟨by have := HO6.out; omega, HB7.out.2.2.2.2.1.own hq⟩) _ _ hL8)
    have HC8 : Hid (count T8 ≤ count T + (a3 - a2) ∧ a2 ≤ a3 ∧ (b2 = true → b3 = true)) := Lib.hid ⟨hc3, hh3.1, hbb⟩
    have hkA : Keep Nb w8 (w8.alloc (.cells (Nd.row T8 (.slice A8 T8.l.length c8)) 27)) := Keep.alloc (Keep.refl _ _) _
    have HBA := Lib.hid (HB8.out.keep hkA)
    have HTA := Lib.hid (Lies_keep hkA HT8.out)
    have HQA : Hid (Blk (w8.alloc (.cells (Nd.row T8 (.slice A8 T8.l.length c8)) 27)) w8.heap.size (Nd.row T8 (.slice A8 T8.l.length c8)) 27) := Lib.hid (Blk.new w8 _ _)
    have HOA : Hid (w.heap.size + 1 ≤ w8.heap.size ∧ some w8.heap.size ≠ (Value.slice A ps.length c).ownBlock) := Lib.hid ⟨by have := HO6.out; omega, HB8.out.2.2.2.2.1.own (Nat.le_refl _)⟩
    have HLE : Hid (ps.length ≤ 100000) := Lib.hid (by have h1 := HC5.out.1; have h2 := countL_len (ps.map (·.1)); rw [List.length_map] at h2; have := HS.out; have := HH.out; omega)
    have HSZ : Hid (w.heap.size + 1 ≤ (w8.alloc (.cells (Nd.row T8 (.slice A8 T8.l.length c8)) 27)).heap.size) := Lib.hid (by have := HOA.out; simp; omega)
    clear z1 z2 z3 hL8 hb8 kd hh3 hc3 hbb hkA hq7 lq7 hsz8
    simp only [Nd.row] at HBA HTA HQA HSZ ⊢
    go_wp2_with (refine wpList_append_one rfl _ _ rfl (w.heap.size + 1) (.slice A ps.length c) ps rfl T8 (.slice A8 T8.l.length c8) w8.heap.size rfl HBA.out.2.2.2.2.1 HQA.out HOA.out HTA.out HLE.out HSZ.out ?_)
    intro V' w9 S9 hN9 kG
    have HN9 := Lib.hid hN9
    have HKG := Lib.hid kG
    have hb9 : PdAt w9 p s a3 x g2 b3 := HBA.out.1.keep kG (fun h => by omega)
    have HB9 : Hid (BrAt p s x a w w9 V' (ps ++ [(T8, S9)]) a3 g2 b3) := Lib.hid ⟨hb9, HBA.out.2.1.keep kG (fun h => by omega), Keep.trans HBA.out.2.2.1 kG (fun b hb h => by omega), HBA.out.2.2.2.1, hN9, by
     rw [List.map_append, countL_append]
     have h1 := HC5.out
     have h2 := HCT.out
     have h3 := HH.out
     have h6 := HC8.out
     have h7 : (if b2 = true then 1 else 0) ≤ (if b3 = true then 1 else 0) := by have := h6.2.2; cases b2 <;> cases b3 <;> simp_all
     simp only [List.map_cons, List.map_nil, countL]
     omega⟩
    have HMS : Hid (2 * (s.size - rdAt w9 p) + rdBad w9 p < 2 * (s.size - rdAt wr p) + rdBad wr p) := Lib.hid (by
     rw [HME.out, hb9.at, hb9.bad]
     have h3 := HH.out
     have h4 := HLT.out
     have h5 := HPR.out
     have h6 := HC8.out
     have h7 : (if b2 = true then 1 else 0) ≤ (if b3 = true then 1 else 0) := by have := h6.2.2; cases b2 <;> cases b3 <;> simp_all
     cases b2 <;> cases b3 <;> simp_all <;> omega)
    clear hN9 kG hb9
    go_wp2_with fail
    go_roundw
    case rel => exact ⟨_, a3, g2, b3, false, rfl, HB9⟩
    case measure => exact HMS.out
def BranchSays (p : Nat) (s : ByteArray) (x : Bool) (m : Nat) : Prop := ∀ (a g : Nat) (w : World), PdAt w p s a x g false → a ≤ s.size → g ≤ 9 → s.size - a ≤ m →
 Calls Try.prog 91 #[.pointer (some ⟨p, 0, none⟩)] w fun e w' => WholeR p s x a 1 w w' e
def WhAt (p : Nat) (s : ByteArray) (x : Bool) (a : Nat) (w wr : World) (o : Value) (ps : List (Nd × Value)) (a' g' : Nat) (b' : Bool) : Prop :=
 PdAt wr p s a' x g' b' ∧ Blk wr w.heap.size zeroNode 27 ∧ Keep (Ob p) w wr ∧ (a ≤ a' ∧ a' ≤ s.size ∧ g' ≤ 9) ∧ NdsAt (w.heap.size + 1) wr o ps ∧ countL (ps.map (·.1)) ≤ 4 * (a' - a) + (if b' = true then 1 else 0) + 1
theorem WhAt.keep {p : Nat} {s : ByteArray} {x : Bool} {a : Nat} {w wr wz : World} {o : Value} {ps : List (Nd × Value)} {a' g' : Nat} {b' : Bool} (h : WhAt p s x a w wr o ps a' g' b') (hk : Keep Nb wr wz) : WhAt p s x a w wz o ps a' g' b' :=
 ⟨h.1.keep hk (fun h => h), h.2.1.keep hk (fun h => h), Keep.trans h.2.2.1 hk (fun _ _ h => h.elim), h.2.2.2.1, h.2.2.2.2.1.keep hk (fun _ _ h => h), h.2.2.2.2.2⟩
theorem NdsAt.one {base : Nat} {w : World} {q : Nat} {T : Nd} {S : Value} (hq : Blk w q (Nd.row T S) 27) (hb : base ≤ q) (hT : LiesP (fun b => base ≤ b ∧ b ≠ q) w T S) : NdsAt base w (.slice (some ⟨q, 0, none⟩) 1 1) [(T, S)] := by
 refine ⟨fun r hr => ?_, ?_⟩
 ·obtain rfl : r = (T, S) := by simpa using hr
  refine LiesP_mono (fun b _ _ hb hc => ⟨hb.1, cell_lt hc, ?_⟩) _ _ hT
  intro e
  simp [Value.ownBlock] at e
  exact hb.2 e
 ·refine ⟨by simp [rowsOf, Nd.row], .inr ⟨q, 1, Nd.row T S, rfl, hb, hq, by simp, by unfold maxLen; omega, by simp [Nd.row], by simp [rowsOf, Nd.row]⟩⟩
set_option maxRecDepth 100000 in
set_option maxHeartbeats 16000000 in
theorem pwhole_h (p : Nat) (s : ByteArray) (x : Bool) (m : Nat) (HB : BranchSays p s x m) (hs : s.size ≤ 600) : WholeSays p s x m := by
 intro a g w hb ha hg hm
 have HS := Lib.hid hs
 have HMM := Lib.hid hm
 have HBB := Lib.hid HB
 have HA := Lib.hid ha
 have HG := Lib.hid hg
 have hl := hb.lt
 go_enter Try.func68, Try.ntmps68
 go_upto_region 1 with fail
 have hb1 : PdAt (w.alloc (.cells zeroNode 27)) p s a x g false := hb.alloc _
 have hr1 : Blk (w.alloc (.cells zeroNode 27)) w.heap.size zeroNode 27 := Blk.new w _ _
 have hk1 : Keep Nb w (w.alloc (.cells zeroNode 27)) := Keep.alloc (Keep.refl _ _) _
 have hx : w.alloc (.cells #[.int .i64 0, .int .u8 0, .int .u64 0, .int .u64 0, .int .u64 0, .int .u64 0, .int .i64 0, .int .i64 0, .int .i64 0, .slice none 0 0] 27) = w.alloc (.cells zeroNode 27) := rfl
 rw [hx]; clear hx
 have HZ : Hid (w.heap.size + 1 = (w.alloc (.cells zeroNode 27)).heap.size) := Lib.hid (by simp)
 generalize w.alloc (.cells zeroNode 27) = w1 at hb1 hr1 hk1 HZ ⊢
 have hne : p ≠ w.heap.size := by omega
 have HNE := Lib.hid hne
 clear HB hs ha hg hm hb hne
 go_wp2_with fail
 refine (HBB.out a g w1 hb1 HA.out HG.out HMM.out).mono ?_
 rintro e w2 ⟨T, S, a1, g1, b1, rfl, hL, hb2, kd, hh, hcnt⟩
 obtain ⟨A1, c1, rfl, z1, z2, z3⟩ := LiesP_def.1 hL
 have hr2 := hr1.keep kd (fun h => HNE.out h.symm)
 have hk2 := Keep.trans hk1.ob kd (fun _ _ h => h)
 have hz2 : w.heap.size + 1 ≤ w2.heap.size := by have := kd.size; have := HZ.out; omega
 have hkA : Keep Nb w2 (w2.alloc (.cells (Nd.row T (.slice A1 T.l.length c1)) 27)) := Keep.alloc (Keep.refl _ _) _
 have hT : LiesP (fun b => w.heap.size + 1 ≤ b ∧ b ≠ w2.heap.size) (w2.alloc (.cells (Nd.row T (.slice A1 T.l.length c1)) 27)) T (.slice A1 T.l.length c1) :=
  Lies_keep hkA (LiesP_mono (fun b _ _ hb hc => ⟨by have := HZ.out; omega, by have := cell_lt hc; omega⟩) _ _ hL)
 have HW1 : Hid (WhAt p s x a w (w2.alloc (.cells (Nd.row T (.slice A1 T.l.length c1)) 27)) (.slice (some ⟨w2.heap.size, 0, none⟩) 1 1) [(T, .slice A1 T.l.length c1)] a1 g1 b1) := Lib.hid
  ⟨hb2.alloc _, hr2.alloc _, Keep.trans hk2 hkA (fun _ _ h => h.elim), hh, NdsAt.one (Blk.new w2 _ _) hz2 hT, by simp [countL]; omega⟩
 clear hT hkA hz2 hk2 hr2 kd hh hcnt z1 z2 z3 hL hb2 hb1 hr1 hk1 HZ
 simp only [Nd.row] at HW1 ⊢
 go_wp2_with fail
 go_loopw [3] (fun o wr => ∃ (ps : List (Nd × Value)) (a' g' : Nat) (b' : Bool), Hid (WhAt p s x a w wr o ps a' g' b')) (fun _ wr => s.size - rdAt wr p)
 case atStart => exact ⟨_, a1, g1, b1, HW1⟩
 case round =>
  clear HW1
  obtain ⟨ps, a2, g2, b2, HB2⟩ := hrel
  obtain ⟨A, c, hAe, hc1, hc2, hLL⟩ := HB2.out.2.2.2.2.1.lies
  have HLL := Lib.hid hLL
  rw [List.length_map] at hAe
  subst hAe
  have hmeas : s.size - rdAt wr p = s.size - a2 := by rw [HB2.out.1.at]
  have HME := Lib.hid hmeas
  have hb2 := HB2.out.1
  have hl2 := hb2.lt
  have c2 := hb2.cell 2 (u := .bool x) rfl
  clear hLL hc1 hc2 hmeas
  have HEND : Hid (∀ wz : World, WhAt p s x a w wz (.slice A ps.length c) ps a2 g2 b2 → LiesPL (fun b => w.heap.size + 1 ≤ b) wz A 0 (ps.map (·.1)) ∧ countL (ps.map (·.1)) ≤ 900000) := Lib.hid (fun wz h => by
   obtain ⟨A', c', h1, _, _, h2⟩ := h.2.2.2.2.1.lies
   injection h1 with e1 _ e3
   subst e1
   refine ⟨h2, ?_⟩
   have h1 := h.2.2.2.2.2
   have h2 := h.2.2.2.1
   have h3 := HS.out
   have h4 : (if b2 = true then 1 else 0) ≤ 1 := by split <;> omega
   omega)
  cases x with
  | false =>
   go_wp2_with fail
   have HCJ := Lib.hid (count_eitherT (ps.map (·.1)))
   have HJ0 := Lib.hid (reither_any (ps.map (·.1)) (HEND.out _ HB2.out).2 A c wr (HEND.out _ HB2.out).1)
   generalize eitherT (ps.map (·.1)) = T9 at HCJ HJ0
   have hJ := HJ0.out
   rw [List.length_map] at hJ
   refine hJ.mono ?_
   clear hJ
   rintro e w6 ⟨S6, rfl, hL6, kd⟩
   obtain ⟨A6, c6, rfl, z1, z2, z3⟩ := LiesP_def.1 hL6
   have HL6 := Lib.hid hL6
   have HB6 := Lib.hid (HB2.out.keep kd)
   have HKD := Lib.hid (HB2.out.2.2.1.size)
   have hr6 := HB6.out.2.1
   clear z1 z2 z3 hL6 kd
   go_wp2_with (refine wpList_store_row rfl 27 (.tmp 2) (.tmp _) rfl w.heap.size _ rfl rfl 27 _ hr6 size27 rfl (by simp [Nd.row, Value.oneCell']) ?_)
   exact bodyPost_ret (results_cell_row Try.results68 _ _ w.heap.size 27 _ (0, 0) _ rfl (hr6.setRow (Nd.row T9 (.slice A6 T9.l.length c6))) Try.underlying27 rfl size27) rfl
    ⟨T9, _, a2, g2, b2, rfl, LiesP_mono (fun q _ _ hq _ => by have := HKD.out; rcases hq with hq | hq <;> omega) _ _ (LiesP_keep (Keep.setRow (X := Ob w.heap.size) (Keep.refl _ _) (Or.inr rfl) _) (fun q hq e => by have := HB2.out.2.1.lt; simp only [Ob] at e; rcases hq with hq | hq <;> omega) HL6.out),
     HB6.out.1.setRowOther HNE.out _, Keep.setRow HB6.out.2.2.1 (Or.inl (Nat.le_refl _)) _, HB6.out.2.2.2.1, by have := HCJ.out; have := HB6.out.2.2.2.2.2; omega⟩
  | true =>
   go_wp2_with fail
   refine (phas_any p s a2 true g2 b2 _ wr hb2 HB2.out.2.2.2.1.2.1 HS.out (by decide)).mono ?_
   rintro e w3 ⟨r, rfl, h1, kd⟩
   have HB3 := Lib.hid (HB2.out.keep kd)
   have H1 : Hid (r = true → a2 + 1 ≤ s.size ∧ b2 = false) := Lib.hid h1
   clear kd h1 hb2 hl2 c2
   cases r with
   | false =>
    go_wp2_with fail
    have HCJ := Lib.hid (count_eitherT (ps.map (·.1)))
    have HJ0 := Lib.hid (reither_any (ps.map (·.1)) (HEND.out _ HB3.out).2 A c w3 (HEND.out _ HB3.out).1)
    generalize eitherT (ps.map (·.1)) = T9 at HCJ HJ0
    have hJ := HJ0.out
    rw [List.length_map] at hJ
    refine hJ.mono ?_
    clear hJ
    rintro e w6 ⟨S6, rfl, hL6, kd⟩
    obtain ⟨A6, c6, rfl, z1, z2, z3⟩ := LiesP_def.1 hL6
    have HL6 := Lib.hid hL6
    have HB6 := Lib.hid (HB3.out.keep kd)
    have HKD := Lib.hid (HB3.out.2.2.1.size)
    have hr6 := HB6.out.2.1
    clear z1 z2 z3 hL6 kd
    go_wp2_with (refine wpList_store_row rfl 27 (.tmp 2) (.tmp _) rfl w.heap.size _ rfl rfl 27 _ hr6 size27 rfl (by simp [Nd.row, Value.oneCell']) ?_)
    exact bodyPost_ret (results_cell_row Try.results68 _ _ w.heap.size 27 _ (0, 0) _ rfl (hr6.setRow (Nd.row T9 (.slice A6 T9.l.length c6))) Try.underlying27 rfl size27) rfl
     ⟨T9, _, a2, g2, b2, rfl, LiesP_mono (fun q _ _ hq _ => by have := HKD.out; rcases hq with hq | hq <;> omega) _ _ (LiesP_keep (Keep.setRow (X := Ob w.heap.size) (Keep.refl _ _) (Or.inr rfl) _) (fun q hq e => by have := HB3.out.2.1.lt; simp only [Ob] at e; rcases hq with hq | hq <;> omega) HL6.out),
      HB6.out.1.setRowOther HNE.out _, Keep.setRow HB6.out.2.2.1 (Or.inl (Nat.le_refl _)) _, HB6.out.2.2.2.1, by have := HCJ.out; have := HB6.out.2.2.2.2.2; omega⟩
   | true =>
    obtain ⟨hlt, rfl⟩ := H1.out rfl
    have HLT := Lib.hid hlt
    have hb3 := HB3.out.1
    have hl3 := hb3.lt
    have c1 := hb3.cell 1 (u := .int .i64 (a2 : Int)) rfl
    have f1 := hb3.frozen 1
    have W1 : IntKind.i64.wrap ((a2 : Int) + 1) = (a2 : Int) + 1 := wr_small (by omega) (by have := HS.out; omega)
    clear hlt H1
    go_upto_region 4 with fail
    have HB4 : Hid (WhAt p s true a w (w3.setCell ⟨p, 1, none⟩ (.int .i64 ((a2 : Int) + 1))) (.slice A ps.length c) ps (a2 + 1) g2 false) := Lib.hid (by
     obtain ⟨k1, k2, k3, k4, k5, k6⟩ := HB3.out
     exact ⟨k1.set 1 (.int .i64 ((a2 : Int) + 1)), k2.setOther (p := ⟨p, 1, none⟩) HNE.out _, Keep.trans k3 (Keep.setOb _ _ _ _) (fun _ _ h => h), ⟨by omega, HLT.out, k4.2.2⟩, k5.keep (Keep.setOb _ _ _ _) (fun b hb e => by simp only [Ob] at e; omega), by simp at k6 ⊢; omega⟩)
    have HC4 : Hid (countL (ps.map (·.1)) ≤ 4 * (a2 - a) + 1 ∧ a ≤ a2) := Lib.hid ⟨by have := HB3.out.2.2.2.2.2; simpa using this, HB3.out.2.2.2.1.1⟩
    clear hb3 hl3 c1 f1 W1 HB2 HB3 HLL
    generalize w3.setCell ⟨p, 1, none⟩ (.int .i64 ((a2 : Int) + 1)) = w4 at HB4 ⊢
    go_wp2_with fail
    refine (HBB.out (a2 + 1) g2 w4 HB4.out.1 HB4.out.2.2.2.1.2.1 HB4.out.2.2.2.1.2.2 (by have := HMM.out; have := HC4.out; omega)).mono ?_
    rintro e w5 ⟨T5, S5, a3, g3, b3, rfl, hL5, hb5, kd, hh, hcnt⟩
    obtain ⟨A5, c5, rfl, z1, z2, z3⟩ := LiesP_def.1 hL5
    have hbase : w.heap.size + 1 ≤ w4.heap.size := HB4.out.2.1.lt
    have hsz5 := kd.size
    have hn5 := HB4.out.2.2.2.2.1.keep kd (fun b hb e => by simp only [Ob] at e; omega)
    have HT5 : Hid (LiesP (fun q => w.heap.size + 1 ≤ q ∧ some q ≠ (Value.slice A ps.length c).ownBlock) w5 T5 (.slice A5 T5.l.length c5)) := Lib.hid (LiesP_mono (fun q _ _ hq _ => ⟨by omega, HB4.out.2.2.2.2.1.own hq⟩) _ _ hL5)
    have HB5 : Hid (PdAt w5 p s a3 true g3 b3 ∧ Blk w5 w.heap.size zeroNode 27 ∧ Keep (Ob p) w w5 ∧ NdsAt (w.heap.size + 1) w5 (.slice A ps.length c) ps) := Lib.hid ⟨hb5, HB4.out.2.1.keep kd (fun h => HNE.out h.symm), Keep.trans HB4.out.2.2.1 kd (fun _ _ h => h), hn5⟩
    have HH := Lib.hid hh
    have HCT := Lib.hid hcnt
    have hkA : Keep Nb w5 (w5.alloc (.cells (Nd.row T5 (.slice A5 T5.l.length c5)) 27)) := Keep.alloc (Keep.refl _ _) _
    have HBA : Hid (PdAt (w5.alloc (.cells (Nd.row T5 (.slice A5 T5.l.length c5)) 27)) p s a3 true g3 b3 ∧ Blk (w5.alloc (.cells (Nd.row T5 (.slice A5 T5.l.length c5)) 27)) w.heap.size zeroNode 27 ∧ Keep (Ob p) w (w5.alloc (.cells (Nd.row T5 (.slice A5 T5.l.length c5)) 27)) ∧ NdsAt (w.heap.size + 1) (w5.alloc (.cells (Nd.row T5 (.slice A5 T5.l.length c5)) 27)) (.slice A ps.length c) ps) := Lib.hid ⟨hb5.alloc _, HB5.out.2.1.alloc _, Keep.trans HB5.out.2.2.1 hkA (fun _ _ h => h.elim), hn5.keep hkA (fun _ _ h => h)⟩
    have HTA := Lib.hid (Lies_keep hkA HT5.out)
    have HQA : Hid (Blk (w5.alloc (.cells (Nd.row T5 (.slice A5 T5.l.length c5)) 27)) w5.heap.size (Nd.row T5 (.slice A5 T5.l.length c5)) 27) := Lib.hid (Blk.new w5 _ _)
    have HOA : Hid (w.heap.size + 1 ≤ w5.heap.size ∧ some w5.heap.size ≠ (Value.slice A ps.length c).ownBlock) := Lib.hid ⟨by omega, hn5.own (Nat.le_refl _)⟩
    have HLE : Hid (ps.length ≤ 100000) := Lib.hid (by have h1 := HC4.out.1; have h2 := countL_len (ps.map (·.1)); rw [List.length_map] at h2; have := HS.out; have := HH.out; omega)
    have HSZ : Hid (w.heap.size + 1 ≤ (w5.alloc (.cells (Nd.row T5 (.slice A5 T5.l.length c5)) 27)).heap.size) := Lib.hid (by have := HOA.out; simp; omega)
    clear hn5 hb5 kd hh hcnt z1 z2 z3 hL5 hkA hsz5 hbase
    simp only [Nd.row] at HBA HTA HQA HSZ ⊢
    go_wp2_with (refine wpList_append_one rfl _ _ rfl (w.heap.size + 1) (.slice A ps.length c) ps rfl T5 (.slice A5 T5.l.length c5) w5.heap.size rfl HBA.out.2.2.2 HQA.out HOA.out HTA.out HLE.out HSZ.out ?_)
    intro V' w9 S9 hN9 kG
    have HN9 := Lib.hid hN9
    have hb9 : PdAt w9 p s a3 true g3 b3 := HBA.out.1.keep kG (fun h => by omega)
    have HB9 : Hid (WhAt p s true a w w9 V' (ps ++ [(T5, S9)]) a3 g3 b3) := Lib.hid ⟨hb9, HBA.out.2.1.keep kG (fun h => by omega), Keep.trans HBA.out.2.2.1 kG (fun b hb h => by omega), ⟨by have := HC4.out; have := HH.out; omega, HH.out.2.1, HH.out.2.2⟩, hN9, by
     rw [List.map_append, countL_append]
     have h1 := HC4.out
     have h2 := HCT.out
     have h3 := HH.out
     simp only [List.map_cons, List.map_nil, countL]
     omega⟩
    have HMS : Hid (s.size - rdAt w9 p < s.size - rdAt wr p) := Lib.hid (by
     rw [HME.out, hb9.at]
     have h3 := HH.out
     have h4 := HLT.out
     omega)
    clear hN9 kG hb9
    go_wp2_with fail
    go_roundw
    case rel => exact ⟨_, a3, g3, b3, HB9⟩
    case measure => exact HMS.out
end Go.Proofs.Ytkidjbfapldmbaa
