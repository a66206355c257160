/- A set's bytes are written, each row of them as a range: runs, Print. -/
import Derived.Test.YtfjipiibkmapkaaWritten
namespace Go.Proofs.Ytfjipiibkmapkaa
set_option linter.unusedVariables false
set_option linter.unusedSimpArgs false
open Go.RowKit

theorem IsB.keep {B b : Nat} {bs : List Value} {w w' : World} {X : Nat → Prop} (h : IsB B b bs w) (hk : Keep X w w') (hX : ∀ k, X k → k < B) : IsB B b bs w' := by
  have key : ∀ p, AtB B b p bs w → AtB B b p bs w' := fun p h => by
    obtain ⟨hB, v, hbk, hown, hne⟩ := h
    refine ⟨hB, v, hk.obj hbk (fun hx => by have := hX b hx; omega), ⟨hown.1, ?_⟩, hne⟩
    rcases hown.2 with h2 | ⟨g, cap, cur, fz, rfl, hb, hg, r⟩
    · exact .inl h2
    · exact .inr ⟨g, cap, cur, fz, rfl, hb, hk.obj hg (fun hx => by have := hX g hx; omega), r⟩
  rcases h with h | h
  · exact .inl (key _ h)
  · exact .inr (key _ h)
theorem new_builder (w : World) (b : Nat) (hb : b = w.heap.size) : IsB b b (Lib.byteCells []) (w.alloc (.cells #[.pointer none, .slice none 0 0] 68)) := by
  subst hb
  exact .inl ⟨Nat.le_refl _, _, heap_alloc_new w _, World.ownsRowF_nil _ _ _ _, by simp [Value.ownBlock]⟩
theorem cells_app (l : List UInt8) (s : ByteArray) : Lib.byteCells l ++ Lib.strCells s = Lib.byteCells (l ++ s.toList) := by
  rw [Lib.strCells_eq, ByteArray.toList_eq]; simp [Lib.byteCells]

/-- Behind a call that writes into the builder. -/
theorem put_str (B : Nat) (l : List UInt8) (s : ByteArray) (t : List UInt8) (hs : s.toList = t) (w : World) (h : IsB B B (Lib.byteCells l) w) (hl : l.length + t.length ≤ 1000000) (hBw : B ≤ w.heap.size) :
    Calls Try.prog 37 #[.pointer (some ⟨B, 0, none⟩), .string s] w fun e w' => e = .returned (.tuple #[.int .i64 s.size, .nilIface]) ∧ (IsB B B (Lib.byteCells (l ++ t)) w' ∧ Below B w w') := by
  subst hs
  have := writeString_any B B (Lib.byteCells l) s w h (by rw [Lib.byteCells_length, ← toList_len]; omega) hBw
  rw [cells_app] at this
  exact this

theorem wr5 (x : UInt8) : (wr x).length ≤ 5 := by unfold wr; split; simp; split <;> simp
theorem wn5 (c : Nat) : (wn c).length ≤ 5 := wr5 _

/-- In which state the rows are written. -/
structure At (f : Nat → Int) (w wr : World) (l : List UInt8) : Prop where
  set : Blk wr w.heap.size (setRow f) 26
  out : IsB (w.heap.size + 1) (w.heap.size + 1) (Lib.byteCells l) wr
  keep : Keep Nb w wr
  size : w.heap.size + 1 ≤ wr.heap.size
theorem At.quiet {f : Nat → Int} {w w1 w2 : World} {l : List UInt8} (h : At f w w1 l) (hk : Keep Nb w1 w2) : At f w w2 l :=
  ⟨h.set.keep hk id, h.out.keep hk (fun _ hx => hx.elim), h.keep.trans hk (fun _ _ h => h), Nat.le_trans h.size hk.size⟩
theorem At.put {f : Nat → Int} {w w1 w2 : World} {l t : List UInt8} (h : At f w w1 l) (hi : IsB (w.heap.size + 1) (w.heap.size + 1) (Lib.byteCells (l ++ t)) w2) (hb : Below (w.heap.size + 1) w1 w2) : At f w w2 (l ++ t) :=
  ⟨h.set.keep (Keep.of_below hb) (by omega), hi, h.keep.above hb (by omega), Nat.le_trans h.size hb.size⟩
theorem At.box {f : Nat → Int} {w wr : World} {l : List UInt8} (h : At f w wr l) : Blk wr w.heap.size (setRow f) 26 := h.set
theorem u8w {c : Nat} (h : c < 256) : IntKind.u8.wrap (c : Int) = ((UInt8.ofNat c).toNat : Int) := by rw [nat8 h, IntKind.wrap_u8]; omega
theorem run_left {m : Nat → Bool} {k c : Nat} (hc : c < 256) (hm : m c = true) : runsN m (k + 1) c = runT c (endR m 256 c) ++ runsN m k (endR m 256 c + 1) := by rw [runsN, if_pos hc, if_pos hm]
theorem run_skip {m : Nat → Bool} {k c : Nat} (hc : c < 256) (hm : m c = false) : runsN m (k + 1) c = runsN m k (c + 1) := by rw [runsN, if_pos hc, if_neg (by rw [hm]; simp)]
theorem run_end {m : Nat → Bool} {k c : Nat} (hc : 256 ≤ c) : runsN m k c = [] := by
  cases k with
  | zero => rfl
  | succ k => rw [runsN, if_neg (by omega)]
theorem end_go {m : Nat → Bool} {k c : Nat} (hc : c < 255) (hm : m (c + 1) = true) (hk : 255 - c ≤ k) : ∃ j, k = j + 1 ∧ endR m k c = endR m j (c + 1) := by
  obtain ⟨j, rfl⟩ : ∃ j, k = j + 1 := ⟨k - 1, by omega⟩
  exact ⟨j, rfl, by rw [endR, if_pos ⟨hc, hm⟩]⟩
theorem end_no {m : Nat → Bool} {k c : Nat} (h : ¬ (c < 255 ∧ m (c + 1) = true)) : endR m k c = c := by
  cases k with
  | zero => rfl
  | succ k => rw [endR, if_neg h]

set_option maxRecDepth 100000 in
set_option maxHeartbeats 4000000 in
theorem runs_any (f : Nat → Int) (w : World) :
    Calls Try.prog 31 #[.agg (setRow f)] w fun e w' => SaysL (runsN (hasF f) 256 0) e ∧ Keep Nb w w' := by
  have HH := Lib.hid (fun (c : Nat) (hc : c < 256) wx => has_t f c hc wx)
  have HW := Lib.hid (fun (c : Nat) (_ : c < 256) wx => written_any (UInt8.ofNat c) wx)
  have HP := Lib.hid (fun l s t hs wx hx hl hw => put_str (w.heap.size + 1) l s t hs wx hx hl hw)
  have H277 := Lib.hid (runs_277 (hasF f))
  generalize hasF f = m at HH H277 ⊢
  simp only [setRow] at HH ⊢
  go_enter Try.func31, Try.ntmps31
  go_wp2_with fail
  have hA0 : At f w ((w.alloc (.cells (setRow f) 26)).alloc (.cells #[.pointer none, .slice none 0 0] 68)) [] :=
    ⟨(Blk.new w _ _).alloc _, new_builder _ _ (by simp), Keep.alloc (Keep.alloc (Keep.refl _ _) _) _, by simp⟩
  simp only [setRow] at hA0
  generalize ((w.alloc (.cells #[.int .u64 (f 0), .int .u64 (f 1), .int .u64 (f 2), .int .u64 (f 3)] 26)).alloc (.cells #[.pointer none, .slice none 0 0] 68)) = w0 at hA0 ⊢
  go_loopw [4] (fun o wr => ∃ (c k : Nat) (l : List UInt8), o = .int .i64 (c : Int) ∧ Hid (c ≤ 256 ∧ 256 - c ≤ k) ∧ Hid (l ++ runsN m k c = runsN m 256 0) ∧ Hid (At f w wr l)) (fun o _ => 256 - (intOf o).toNat)
  case atStart => exact ⟨0, 256, [], rfl, Lib.hid (by omega), Lib.hid rfl, Lib.hid hA0⟩
  case round =>
    obtain ⟨c, k, l, rfl, hC, hL, hA⟩ := hrel
    clear hA0
    have hc := hC.out
    have hl : l.length ≤ 277 := by have h1 := H277.out; rw [← hL.out, List.length_append] at h1; omega
    have HLL := Lib.hid hl
    clear hl
    by_cases hlt : c < 256
    · have g1 : decide ((c : Int) < 256) = true := by simp; omega
      have g2 : decide (c < 256) = true := by simp; omega
      have x1 : IntKind.u8.wrap (c : Int) = (c : Int) := by rw [IntKind.wrap_u8]; omega
      obtain ⟨k, rfl⟩ : ∃ j, k = j + 1 := ⟨k - 1, by omega⟩
      have b0 := hA.out.set
      simp only [setRow] at b0
      have c0 := b0.cell 0 (u := .int .u64 (f 0)) rfl
      have c1 := b0.cell 1 (u := .int .u64 (f 1)) rfl
      have c2 := b0.cell 2 (u := .int .u64 (f 2)) rfl
      have c3 := b0.cell 3 (u := .int .u64 (f 3)) rfl
      have HLT := Lib.hid hlt
      clear b0
      go_wp2_with fail
      refine (HH.out c HLT.out _).mono ?_
      rintro e w1 ⟨rfl, hkn⟩
      have hA1 := Lib.hid (hA.out.quiet hkn)
      clear hkn c0 c1 c2 c3 hA
      cases hm : m c with
      | false =>
        have HL2 := Lib.hid (show l ++ runsN m k (c + 1) = runsN m 256 0 by rw [← run_skip HLT.out hm]; exact hL.out)
        have hw : IntKind.i64.wrap ((c : Int) + 1) = (c : Int) + 1 := by rw [IntKind.wrap_i64]; omega
        have hw2 : wrap64 ((c : Int) + 1) = (c : Int) + 1 := by unfold wrap64; omega
        clear hm hL
        go_wp2_with fail
        go_roundw
        case rel => exact ⟨c + 1, k, l, by go_num, Lib.hid (by have := hC.out; have := HLT.out; omega), HL2.out, hA1.out⟩
        case measure => simp [intOf]; have := HLT.out; omega
      | true =>
        have HL2 := Lib.hid (show l ++ (runT c (endR m 256 c) ++ runsN m k (endR m 256 c + 1)) = runsN m 256 0 by rw [← run_left HLT.out hm]; exact hL.out)
        have HE := Lib.hid (endR_spec m 256 c HLT.out (by omega) hm)
        obtain ⟨E, hE⟩ : ∃ E, E = endR m 256 c := ⟨_, rfl⟩
        rw [← hE] at HL2 HE
        have HEE := Lib.hid hE.symm
        clear hm hL hE g1 g2 x1
        go_wp2_with fail
        go_loopw [4] (fun o wr => ∃ (d j : Nat), o = .int .i64 (d : Int) ∧ Hid (c ≤ d ∧ d < 256 ∧ 255 - d ≤ j) ∧ Hid (endR m j d = E) ∧ Hid (At f w wr l)) (fun o _ => 256 - (intOf o).toNat)
        case atStart => exact ⟨c, 256, rfl, Lib.hid (by have := HLT.out; omega), HEE, hA1⟩
        case round =>
          obtain ⟨d, j, rfl, hD, hJ, hA2⟩ := hrel
          clear hA1
          have hd := hD.out
          have y1 : IntKind.i64.wrap ((d : Int) + 1) = (d : Int) + 1 := by rw [IntKind.wrap_i64]; omega
          have HY1 := Lib.hid y1
          have HY2 := Lib.hid (show wrap64 ((d : Int) + 1) = (d : Int) + 1 by unfold wrap64; omega)
          clear y1
          by_cases h5 : d < 255
          · have g1 : decide ((d : Int) < 255) = true := by simp; omega
            have g2 : decide (d < 255) = true := by simp; omega
            have HX2 := Lib.hid (show IntKind.u8.wrap ((d : Int) + 1) = (d : Int) + 1 by rw [IntKind.wrap_u8]; omega)
            have HH5 := Lib.hid h5
            have HHs := Lib.hid (fun wx => HH.out (d + 1) (by omega) wx)
            have HH2 : Hid (∀ wx, Calls Try.prog 10 #[.agg #[.int .u64 (f 0), .int .u64 (f 1), .int .u64 (f 2), .int .u64 (f 3)], .int .u8 ((d : Int) + 1)] wx fun e w' => e = .returned (.bool (m (d + 1))) ∧ Keep Nb wx w') := Lib.hid HHs.out
            have b0 := hA2.out.set
            simp only [setRow] at b0
            have c0 := b0.cell 0 (u := .int .u64 (f 0)) rfl
            have c1 := b0.cell 1 (u := .int .u64 (f 1)) rfl
            have c2 := b0.cell 2 (u := .int .u64 (f 2)) rfl
            have c3 := b0.cell 3 (u := .int .u64 (f 3)) rfl
            clear b0 h5 HHs
            have y1 := HY1.out
            have y2 := HY2.out
            have x2 := HX2.out
            cases hm2 : m (d + 1) with
            | true =>
              rw [hm2] at HH2
              obtain ⟨j', rfl, hj'⟩ := end_go HH5.out hm2 hd.2.2
              rw [hJ.out] at hj'
              have HJ2 := Lib.hid hj'.symm
              have HD2 := Lib.hid (show c ≤ d + 1 ∧ d + 1 < 256 ∧ 255 - (d + 1) ≤ j' by have := HH5.out; omega)
              clear hm2 hj' hJ hd
              go_wp2_with fail
              refine (HH2.out _).mono ?_
              rintro e w2 ⟨rfl, hkn⟩
              have hA3 := Lib.hid (hA2.out.quiet hkn)
              clear hkn c0 c1 c2 c3 hA2
              go_wp2_with fail
              go_roundw
              case rel => exact ⟨d + 1, j', by go_num, HD2.out, HJ2.out, hA3.out⟩
              case measure => simp [intOf]; have := HH5.out; omega
            | false =>
              rw [hm2] at HH2
              have hdE : d = E := by have := hJ.out; rw [end_no (by rw [hm2]; simp)] at this; exact this
              subst hdE
              clear hm2 hJ hd
              go_wp2_with fail
              refine (HH2.out _).mono ?_
              rintro e w2 ⟨rfl, hkn⟩
              have hA3 := Lib.hid (hA2.out.quiet hkn)
              clear hkn c0 c1 c2 c3 hA2
              have HDC := Lib.hid HE.out.1
              have HDL := Lib.hid HE.out.2.1
              have x3 : IntKind.u8.wrap (c : Int) = ((UInt8.ofNat c).toNat : Int) := u8w HLT.out
              have x4 : IntKind.u8.wrap (d : Int) = ((UInt8.ofNat d).toNat : Int) := u8w HDL.out
              have x5 : IntKind.i64.wrap ((d : Int) - (c : Int)) = (d : Int) - (c : Int) := by have := HDC.out; have := HDL.out; rw [IntKind.wrap_i64]; omega
              have x6 : wrap64 ((d : Int) - (c : Int)) = (d : Int) - (c : Int) := by have := HDC.out; have := HDL.out; unfold wrap64; omega
              have HX3 := Lib.hid x3; have HX4 := Lib.hid x4; have HX5 := Lib.hid x5; have HX6 := Lib.hid x6
              clear x4 x5 x6 y1 y2 x2 HX2
              go_wp2_with fail
              refine (HW.out c HLT.out _).mono ?_
              rintro e w3 ⟨⟨S1, hS1, rfl⟩, hkn⟩
              have hA4 := Lib.hid (hA3.out.quiet hkn)
              have HS1 := Lib.hid hS1
              clear hkn hA3 x3 hS1
              go_wp2_with fail
              refine (HP.out l S1 _ HS1.out _ hA4.out.out (by have := HLL.out; have := wn5 c; have := wr5 (UInt8.ofNat c); omega) hA4.out.size).mono ?_
              rintro e w4 ⟨rfl, hi4, hb4⟩
              have hA5 := Lib.hid (hA4.out.put hi4 hb4)
              clear hi4 hb4 hA4
              by_cases e0 : d = c
              · subst e0
                have HT := Lib.hid (show runT d d = wn d by rw [runT, if_pos rfl, List.append_nil])
                have hsub : (d : Int) - (d : Int) = 0 := by omega
                have z1 := HX6.out
                have z2 := HX5.out
                rw [hsub] at z1 z2
                have y1 := HY1.out
                have y2 := HY2.out
                go_wp2_with fail
                go_roundw
                case rel => exact ⟨d + 1, k, l ++ wn d, by go_num, Lib.hid (by have := hC.out; have := HLT.out; omega), Lib.hid (by have := HL2.out; rw [HT.out, ← List.append_assoc] at this; exact this), hA5.out⟩
                case measure => simp [intOf]; have := HLT.out; omega
              have HE0 := Lib.hid e0
              by_cases e1 : d = c + 1
              · have HE1 := Lib.hid e1
                have HT := Lib.hid (show runT c d = wn c ++ wn d by rw [runT, if_neg e0, if_pos e1])
                have z1 : wrap64 ((d : Int) - (c : Int)) = 1 := by have := HX6.out; rw [this]; omega
                have z2 : IntKind.i64.wrap ((d : Int) - (c : Int)) = 1 := by have := HX5.out; rw [this]; omega
                have x4 := HX4.out
                clear e0 e1
                go_wp2_with fail
                refine (HW.out d HDL.out _).mono ?_
                rintro e w5 ⟨⟨S2, hS2, rfl⟩, hkn⟩
                have hA6 := Lib.hid (hA5.out.quiet hkn)
                have HS2 := Lib.hid hS2
                clear hkn hA5 x4 hS2 z1 z2
                go_wp2_with fail
                refine (HP.out (l ++ wn c) S2 _ HS2.out _ hA6.out.out (by have := HLL.out; have := wn5 c; have := wn5 d; have := wr5 (UInt8.ofNat c); have := wr5 (UInt8.ofNat d); rw [List.length_append]; omega) hA6.out.size).mono ?_
                rintro e w6 ⟨rfl, hi6, hb6⟩
                have hA7 := Lib.hid (hA6.out.put hi6 hb6)
                clear hi6 hb6 hA6
                have y1 := HY1.out
                have y2 := HY2.out
                go_wp2_with fail
                go_roundw
                case rel => exact ⟨d + 1, k, l ++ wn c ++ wn d, by go_num, Lib.hid (by have := hC.out; have := HDL.out; have := HDC.out; omega), Lib.hid (by have := HL2.out; rw [HT.out] at this; rw [← this]; simp only [List.append_assoc]), hA7.out⟩
                case measure => simp [intOf]; have := HDL.out; have := HDC.out; have := HLT.out; omega
              have HE1 := Lib.hid e1
              have HT := Lib.hid (show runT c d = wn c ++ (45 :: wn d) by rw [runT, if_neg e0, if_neg e1])
              have z1 := HX6.out
              have z2 := HX5.out
              have z3 : (((d : Int) - (c : Int)) == 0) = false := beq_eq_false_iff_ne.2 (by omega)
              have z4 : (((d : Int) - (c : Int)) == 1) = false := beq_eq_false_iff_ne.2 (by omega)
              have z5 : ¬ ((d : Int) - (c : Int)) = 0 := by omega
              have z6 : ¬ ((d : Int) - (c : Int)) = 1 := by omega
              have x4 := HX4.out
              clear e0 e1
              go_wp2_with fail
              refine (HW.out d HDL.out _).mono ?_
              rintro e w5 ⟨⟨S2, hS2, rfl⟩, hkn⟩
              have hA6 := Lib.hid (hA5.out.quiet hkn)
              have HS2 := Lib.hid hS2
              have hsz : S2.size ≤ 5 := by rw [← toList_len, hS2]; exact wr5 _
              have ad := add_okk ⟨#[45]⟩ S2 (by show 1 + S2.size ≤ 1000000; omega)
              have hT3 : (⟨#[45]⟩ ++ S2 : ByteArray).toList = 45 :: wn d := by rw [app_toList, hS2, ByteArray.toList_eq]; rfl
              generalize (⟨#[45]⟩ ++ S2 : ByteArray) = S3 at ad hT3
              have HS3 := Lib.hid hT3
              clear hkn hA5 x4 hS2 z1 z2 z3 z4 z5 z6 hsz hT3
              go_wp2_with fail
              refine (HP.out (l ++ wn c) S3 _ HS3.out _ hA6.out.out (by have := HLL.out; have := wn5 c; have := wn5 d; have := wr5 (UInt8.ofNat c); have := wr5 (UInt8.ofNat d); rw [List.length_append, List.length_cons]; omega) hA6.out.size).mono ?_
              rintro e w6 ⟨rfl, hi6, hb6⟩
              have hA7 := Lib.hid (hA6.out.put hi6 hb6)
              clear hi6 hb6 hA6 ad
              have y1 := HY1.out
              have y2 := HY2.out
              go_wp2_with fail
              go_roundw
              case rel => exact ⟨d + 1, k, l ++ wn c ++ (45 :: wn d), by go_num, Lib.hid (by have := hC.out; have := HDL.out; have := HDC.out; omega), Lib.hid (by have := HL2.out; rw [HT.out] at this; rw [← this]; simp only [List.append_assoc]), hA7.out⟩
              case measure => simp [intOf]; have := HDL.out; have := HDC.out; have := HLT.out; omega
          · have g1 : decide ((d : Int) < 255) = false := by simp; omega
            have g2 : decide (d < 255) = false := by simp; omega
            have hdE : d = E := by have := hJ.out; rw [end_no (by omega)] at this; exact this
            subst hdE
            have hA3 := hA2
            clear hJ hd hA2
            obtain ⟨w2, hw2⟩ : ∃ w2, w2 = wr := ⟨_, rfl⟩
            subst hw2
            have HDC := Lib.hid HE.out.1
            have HDL := Lib.hid HE.out.2.1
            have x3 : IntKind.u8.wrap (c : Int) = ((UInt8.ofNat c).toNat : Int) := u8w HLT.out
            have x4 : IntKind.u8.wrap (d : Int) = ((UInt8.ofNat d).toNat : Int) := u8w HDL.out
            have x5 : IntKind.i64.wrap ((d : Int) - (c : Int)) = (d : Int) - (c : Int) := by have := HDC.out; have := HDL.out; rw [IntKind.wrap_i64]; omega
            have x6 : wrap64 ((d : Int) - (c : Int)) = (d : Int) - (c : Int) := by have := HDC.out; have := HDL.out; unfold wrap64; omega
            have HX3 := Lib.hid x3; have HX4 := Lib.hid x4; have HX5 := Lib.hid x5; have HX6 := Lib.hid x6
            clear x4 x5 x6
            go_wp2_with fail
            refine (HW.out c HLT.out _).mono ?_
            rintro e w3 ⟨⟨S1, hS1, rfl⟩, hkn⟩
            have hA4 := Lib.hid (hA3.out.quiet hkn)
            have HS1 := Lib.hid hS1
            clear hkn hA3 x3 hS1
            go_wp2_with fail
            refine (HP.out l S1 _ HS1.out _ hA4.out.out (by have := HLL.out; have := wn5 c; have := wr5 (UInt8.ofNat c); omega) hA4.out.size).mono ?_
            rintro e w4 ⟨rfl, hi4, hb4⟩
            have hA5 := Lib.hid (hA4.out.put hi4 hb4)
            clear hi4 hb4 hA4
            by_cases e0 : d = c
            · subst e0
              have HT := Lib.hid (show runT d d = wn d by rw [runT, if_pos rfl, List.append_nil])
              have hsub : (d : Int) - (d : Int) = 0 := by omega
              have z1 := HX6.out
              have z2 := HX5.out
              rw [hsub] at z1 z2
              have y1 := HY1.out
              have y2 := HY2.out
              go_wp2_with fail
              go_roundw
              case rel => exact ⟨d + 1, k, l ++ wn d, by go_num, Lib.hid (by have := hC.out; have := HLT.out; omega), Lib.hid (by have := HL2.out; rw [HT.out, ← List.append_assoc] at this; exact this), hA5.out⟩
              case measure => simp [intOf]; have := HLT.out; omega
            have HE0 := Lib.hid e0
            by_cases e1 : d = c + 1
            · have HE1 := Lib.hid e1
              have HT := Lib.hid (show runT c d = wn c ++ wn d by rw [runT, if_neg e0, if_pos e1])
              have z1 : wrap64 ((d : Int) - (c : Int)) = 1 := by have := HX6.out; rw [this]; omega
              have z2 : IntKind.i64.wrap ((d : Int) - (c : Int)) = 1 := by have := HX5.out; rw [this]; omega
              have x4 := HX4.out
              clear e0 e1
              go_wp2_with fail
              refine (HW.out d HDL.out _).mono ?_
              rintro e w5 ⟨⟨S2, hS2, rfl⟩, hkn⟩
              have hA6 := Lib.hid (hA5.out.quiet hkn)
              have HS2 := Lib.hid hS2
              clear hkn hA5 x4 hS2 z1 z2
              go_wp2_with fail
              refine (HP.out (l ++ wn c) S2 _ HS2.out _ hA6.out.out (by have := HLL.out; have := wn5 c; have := wn5 d; have := wr5 (UInt8.ofNat c); have := wr5 (UInt8.ofNat d); rw [List.length_append]; omega) hA6.out.size).mono ?_
              rintro e w6 ⟨rfl, hi6, hb6⟩
              have hA7 := Lib.hid (hA6.out.put hi6 hb6)
              clear hi6 hb6 hA6
              have y1 := HY1.out
              have y2 := HY2.out
              go_wp2_with fail
              go_roundw
              case rel => exact ⟨d + 1, k, l ++ wn c ++ wn d, by go_num, Lib.hid (by have := hC.out; have := HDL.out; have := HDC.out; omega), Lib.hid (by have := HL2.out; rw [HT.out] at this; rw [← this]; simp only [List.append_assoc]), hA7.out⟩
              case measure => simp [intOf]; have := HDL.out; have := HDC.out; have := HLT.out; omega
            have HE1 := Lib.hid e1
            have HT := Lib.hid (show runT c d = wn c ++ (45 :: wn d) by rw [runT, if_neg e0, if_neg e1])
            have z1 := HX6.out
            have z2 := HX5.out
            have z3 : (((d : Int) - (c : Int)) == 0) = false := beq_eq_false_iff_ne.2 (by omega)
            have z4 : (((d : Int) - (c : Int)) == 1) = false := beq_eq_false_iff_ne.2 (by omega)
            have z5 : ¬ ((d : Int) - (c : Int)) = 0 := by omega
            have z6 : ¬ ((d : Int) - (c : Int)) = 1 := by omega
            have x4 := HX4.out
            clear e0 e1
            go_wp2_with fail
            refine (HW.out d HDL.out _).mono ?_
            rintro e w5 ⟨⟨S2, hS2, rfl⟩, hkn⟩
            have hA6 := Lib.hid (hA5.out.quiet hkn)
            have HS2 := Lib.hid hS2
            have hsz : S2.size ≤ 5 := by rw [← toList_len, hS2]; exact wr5 _
            have ad := add_okk ⟨#[45]⟩ S2 (by show 1 + S2.size ≤ 1000000; omega)
            have hT3 : (⟨#[45]⟩ ++ S2 : ByteArray).toList = 45 :: wn d := by rw [app_toList, hS2, ByteArray.toList_eq]; rfl
            generalize (⟨#[45]⟩ ++ S2 : ByteArray) = S3 at ad hT3
            have HS3 := Lib.hid hT3
            clear hkn hA5 x4 hS2 z1 z2 z3 z4 z5 z6 hsz hT3
            go_wp2_with fail
            refine (HP.out (l ++ wn c) S3 _ HS3.out _ hA6.out.out (by have := HLL.out; have := wn5 c; have := wn5 d; have := wr5 (UInt8.ofNat c); have := wr5 (UInt8.ofNat d); rw [List.length_append, List.length_cons]; omega) hA6.out.size).mono ?_
            rintro e w6 ⟨rfl, hi6, hb6⟩
            have hA7 := Lib.hid (hA6.out.put hi6 hb6)
            clear hi6 hb6 hA6 ad
            have y1 := HY1.out
            have y2 := HY2.out
            go_wp2_with fail
            go_roundw
            case rel => exact ⟨d + 1, k, l ++ wn c ++ (45 :: wn d), by go_num, Lib.hid (by have := hC.out; have := HDL.out; have := HDC.out; omega), Lib.hid (by have := HL2.out; rw [HT.out] at this; rw [← this]; simp only [List.append_assoc]), hA7.out⟩
            case measure => simp [intOf]; have := HDL.out; have := HDC.out; have := HLT.out; omega
    · have g1 : decide ((c : Int) < 256) = false := by simp; omega
      have g2 : decide (c < 256) = false := by simp; omega
      have hLL := hL.out
      rw [run_end (by omega), List.append_nil] at hLL
      have HQ := Lib.hid (string_any (w.heap.size + 1) (w.heap.size + 1) l wr hA.out.out hA.out.size)
      have HLQ := Lib.hid hLL
      clear hLL hL
      go_wp2_with fail
      refine HQ.out.mono ?_
      rintro e w2 ⟨rfl, hb⟩
      have hk2 := Lib.hid (hA.out.keep.above hb (by omega))
      clear hb
      go_wp2_with fail
      go_ret
      exact ⟨⟨_, by rw [ByteArray.toList_eq]; exact HLQ.out, rfl⟩, hk2.out⟩

set_option maxRecDepth 100000 in
set_option maxHeartbeats 1000000 in
theorem print_any (f : Nat → Int) (hf : inU f) (w : World) :
    Calls Try.prog 23 #[.agg (setRow f)] w fun e w' => SaysL (printF f) e ∧ Keep Nb w w' := by
  have hl := lenN_eq f (fun i _ => hf i) 4 (by omega)
  have HL := Lib.hid (fun wx => len_t f wx)
  rw [hl] at HL
  have HN := Lib.hid (fun wx => not_t f wx)
  have HR := Lib.hid (fun g wx => runs_any g wx)
  have HR2 := Lib.hid (fun wx => runs_any f wx)
  have h277 := runs_277 (hasF f)
  have h278 := runs_277 (hasF (notF f))
  unfold printF
  clear hl
  by_cases h0 : cntF f 256 = 0
  · rw [if_pos h0]
    rw [show 64 * 4 = 256 from rfl, h0] at HL
    have HRR := Lib.hid (fun wx => HR.out (notF f) wx)
    generalize runsN (hasF (notF f)) 256 0 = L at HRR h278 ⊢
    clear h0 h277 HR HR2
    have H278 := Lib.hid h278
    clear h278
    simp only [setRow] at HL HN HRR ⊢
    go_enter Try.func23, Try.ntmps23
    go_wp2_with fail
    have b0 : Blk (w.alloc (.cells (setRow f) 26)) w.heap.size (setRow f) 26 := Blk.new w _ _
    have k0 : Keep Nb w (w.alloc (.cells (setRow f) 26)) := Keep.alloc (Keep.refl _ _) _
    simp only [setRow] at b0 k0
    refine (HL.out _).mono ?_
    rintro e w1 ⟨rfl, hkn⟩
    have b1 := b0.keep hkn id
    have k1 := k0.trans hkn (fun _ _ h => h)
    have c0 := b1.cell 0 (u := .int .u64 (f 0)) rfl
    have c1 := b1.cell 1 (u := .int .u64 (f 1)) rfl
    have c2 := b1.cell 2 (u := .int .u64 (f 2)) rfl
    have c3 := b1.cell 3 (u := .int .u64 (f 3)) rfl
    clear hkn b0 k0 b1
    go_wp2_with fail
    refine (HN.out _).mono ?_
    rintro e w2 ⟨rfl, hkn⟩
    have k2 := k1.trans hkn (fun _ _ h => h)
    clear hkn k1 c0 c1 c2 c3
    simp only [setRow]
    go_wp2_with fail
    refine (HRR.out _).mono ?_
    rintro e w3 ⟨⟨S, hS, rfl⟩, hkn⟩
    have k3 := k2.trans hkn (fun _ _ h => h)
    have hz : S.size ≤ 277 := by rw [← toList_len, hS]; exact H278.out
    have a1 := add_okk ⟨#[91, 94]⟩ S (by show 2 + S.size ≤ 1000000; omega)
    have z1 : (⟨#[91, 94]⟩ ++ S : ByteArray).size = 2 + S.size := by rw [ByteArray.size_append]; rfl
    have t1 : (⟨#[91, 94]⟩ ++ S : ByteArray).toList = 91 :: 94 :: L := by rw [app_toList, hS, ByteArray.toList_eq]; rfl
    generalize (⟨#[91, 94]⟩ ++ S : ByteArray) = U at a1 z1 t1
    have a2 := add_okk U ⟨#[93]⟩ (by rw [z1]; show 2 + S.size + 1 ≤ 1000000; omega)
    have t2 : (U ++ ⟨#[93]⟩ : ByteArray).toList = 91 :: 94 :: (L ++ [93]) := by rw [app_toList, t1, ByteArray.toList_eq]; rfl
    generalize (U ++ ⟨#[93]⟩ : ByteArray) = V at a2 t2
    have T2 := Lib.hid t2
    clear hkn k2 hS hz z1 t1 t2
    go_wp2_with fail
    go_ret
    exact ⟨⟨_, T2.out, rfl⟩, k3⟩
  · rw [if_neg h0]
    rw [show 64 * 4 = 256 from rfl] at HL
    have g0 : (((cntF f 256 : Nat) : Int) == 0) = false := beq_eq_false_iff_ne.2 (by omega)
    have g1 : ¬ ((cntF f 256 : Nat) : Int) = 0 := by omega
    generalize cntF f 256 = n at HL g0 g1 h0
    generalize runsN (hasF f) 256 0 = L at HR2 h277 ⊢
    clear h278 HR HN
    have H278 := Lib.hid h277
    clear h277
    simp only [setRow] at HL HR2 ⊢
    go_enter Try.func23, Try.ntmps23
    go_wp2_with fail
    have b0 : Blk (w.alloc (.cells (setRow f) 26)) w.heap.size (setRow f) 26 := Blk.new w _ _
    have k0 : Keep Nb w (w.alloc (.cells (setRow f) 26)) := Keep.alloc (Keep.refl _ _) _
    simp only [setRow] at b0 k0
    refine (HL.out _).mono ?_
    rintro e w1 ⟨rfl, hkn⟩
    have b1 := b0.keep hkn id
    have k1 := k0.trans hkn (fun _ _ h => h)
    have c0 := b1.cell 0 (u := .int .u64 (f 0)) rfl
    have c1 := b1.cell 1 (u := .int .u64 (f 1)) rfl
    have c2 := b1.cell 2 (u := .int .u64 (f 2)) rfl
    have c3 := b1.cell 3 (u := .int .u64 (f 3)) rfl
    clear hkn b0 k0 b1
    go_wp2_with fail
    refine (HR2.out _).mono ?_
    rintro e w3 ⟨⟨S, hS, rfl⟩, hkn⟩
    have k3 := k1.trans hkn (fun _ _ h => h)
    have hz : S.size ≤ 277 := by rw [← toList_len, hS]; exact H278.out
    have a1 := add_okk ⟨#[91]⟩ S (by show 1 + S.size ≤ 1000000; omega)
    have z1 : (⟨#[91]⟩ ++ S : ByteArray).size = 1 + S.size := by rw [ByteArray.size_append]; rfl
    have t1 : (⟨#[91]⟩ ++ S : ByteArray).toList = 91 :: L := by rw [app_toList, hS, ByteArray.toList_eq]; rfl
    generalize (⟨#[91]⟩ ++ S : ByteArray) = U at a1 z1 t1
    have a2 := add_okk U ⟨#[93]⟩ (by rw [z1]; show 1 + S.size + 1 ≤ 1000000; omega)
    have t2 : (U ++ ⟨#[93]⟩ : ByteArray).toList = 91 :: (L ++ [93]) := by rw [app_toList, t1, ByteArray.toList_eq]; rfl
    generalize (U ++ ⟨#[93]⟩ : ByteArray) = V at a2 t2
    have T2 := Lib.hid t2
    clear hkn k1 hS hz z1 t1 t2 c0 c1 c2 c3
    go_wp2_with fail
    go_ret
    exact ⟨⟨_, T2.out, rfl⟩, k3⟩

end Go.Proofs.Ytfjipiibkmapkaa
