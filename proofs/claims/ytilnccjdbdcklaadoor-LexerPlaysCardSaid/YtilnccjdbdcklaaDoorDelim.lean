/- The lexer reads a delimited text, as a pattern, as a replacement: delimited. -/
import Derived.Test.YtilnccjdbdcklaaDoorEsc
namespace Go.Proofs.YtilnccjdbdcklaaDoor
set_option linter.unusedVariables false
set_option linter.unusedSimpArgs false
open Go.RowKit

set_option maxRecDepth 100000 in
set_option maxHeartbeats 2000000 in
theorem delim_f (p : Nat) (s : ByteArray) (d : UInt8) (text behind : List UInt8) (hs : s.toList = encD d text ++ d :: behind) (hd : d ≠ 92 ∧ d ≠ 10 ∧ d ≠ 110 ∧ d ≠ 91) (hx : ∀ c ∈ text, c ≠ 92 ∧ c ≠ 10 ∧ c ≠ 91) (ht : text.length ≤ 500) (hz : s.size ≤ 1000000) (w : World) (hb : LexAt w p s 0) :
    Calls Tryd.prog 32 #[.pointer (some ⟨p, 0, none⟩), .int .u8 d.toNat, .bool false] w fun e w' => e = .returned (.tuple #[.string ⟨text.toArray⟩, .int .i64 0]) ∧ LexAt w' p s ((encD d text).length + 1) ∧ Keep (Ob p) w w' := by
  have hl := hb.lt
  have hN := Lib.hid (fun a c wx hx h => next_at p s a c wx hx h hz)
  have hE := Lib.hid (fun a c wx hx h => end_not p s a c wx hx h)
  have hP := Lib.hid (fun a c wx hx h => peek_at p s a c wx hx h)
  have hK := Lib.hid (fun a n wx hx (ha : a ≤ 1000000) (hn : n ≤ 1000000) => skip_any p s a n wx hx ha hn)
  have hC := Lib.hid (fun wx => escape_same d false hd.2.2.1 wx)
  have HS := Lib.hid hs
  have m92 : ((d.toNat : Int) == 92) = false := u8_ne (n := 92) (by omega) hd.1
  have m10 : ((d.toNat : Int) == 10) = false := u8_ne (n := 10) (by omega) hd.2.1
  have n92' : ((92 : Int) == (d.toNat : Int)) = false := beq_eq_false_iff_ne.2 fun h => (beq_eq_false_iff_ne.1 m92) h.symm
  have mdd : ((d.toNat : Int) == (d.toNat : Int)) = true := by simp
  have hd91 := hd.2.2.2
  clear hs hd
  go_enter Tryd.func32, Tryd.ntmps32
  go_wp2_with fail
  go_loopw [9] (fun o wr => ∃ (j : Nat), j ≤ text.length ∧ Hid (LexAt wr p s (encD d (text.take j)).length) ∧ Hid (IsB w.heap.size w.heap.size (Lib.byteCells (text.take j)) wr) ∧ Keep (Ob p) w wr) (fun _ wr => s.size - posOf wr p)
  case atStart =>
    refine ⟨0, by omega, Lib.hid ?_, Lib.hid ?_, Keep.alloc (Keep.refl _ _) _⟩
    · exact hb.keep (X := Nb) (Keep.alloc (Keep.refl _ _) _) id
    · exact new_builder w _ rfl
  case round =>
    obtain ⟨j, hj, hlx, hbd, hk⟩ := hrel
    by_cases hlt : j < text.length
    · have hsp := encD_split d text j hlt
      have htk := encD_take d text j hlt
      have hc : text.take (j + 1) = text.take j ++ [text[j]] := List.take_succ_eq_append_getElem hlt
      obtain ⟨hc92, hc10, hc91⟩ := hx _ (List.getElem_mem hlt)
      generalize text[j] = c at hsp htk hc hc92 hc10 hc91
      have hds : ∀ m, s.toList[(encD d (text.take j)).length + m]? = (encD1 d c ++ (encD d (text.drop (j + 1)) ++ d :: behind))[m]? := fun m => by
        rw [HS.out, hsp, List.append_assoc, List.getElem?_append_right (by omega), Nat.add_sub_cancel_left, List.append_assoc]
      by_cases hesc : c = d
      · have he1 : encD1 d c = [92, c] := if_pos hesc
        rw [he1] at hds htk
        subst hesc
        have d0 : s.toList[(encD c (text.take j)).length]? = some 92 := by have := hds 0; simpa using this
        have d1 : s.toList[(encD c (text.take j)).length + 1]? = some c := by have := hds 1; simpa using this
        have htk2 : (encD c (text.take (j + 1))).length = (encD c (text.take j)).length + 1 + 1 := by rw [htk]; simp
        have haz := (byte_at d1).1
        clear htk hds he1 hsp hc92 hc10 hc91
        generalize (encD c (text.take j)).length = a at *
        have HTK := Lib.hid htk2
        have D0 := Lib.hid d0
        have D1 := Lib.hid d1
        clear htk2 d0 d1
        go_wp2_with fail
        refine (hP.out a 92 _ hlx.out D0.out).mono ?_
        rintro e w1 ⟨he, k1⟩
        rw [n92] at he
        subst he
        have HX1 := Lib.hid (hlx.out.keep k1 id)
        go_wp2_with fail
        refine (hE.out a 92 _ HX1.out D0.out).mono ?_
        rintro e w2 ⟨rfl, k2⟩
        have HX2 := Lib.hid (HX1.out.keep k2 id)
        go_wp2_with fail
        refine (hK.out a 1 _ HX2.out (by omega) (by omega)).mono ?_
        rintro e w3 ⟨rfl, x3, k3⟩
        have HX3 := Lib.hid x3
        clear x3
        go_wp2_with fail
        refine (hE.out (a + 1) c _ HX3.out D1.out).mono ?_
        rintro e w3b ⟨rfl, k3b⟩
        have HX5b := Lib.hid (HX3.out.keep k3b id)
        have HX5c := HX5b
        have k5b : Keep Nb w3b w3b := Keep.refl _ _
        go_wp2_with fail
        refine (hN.out (a + 1) c _ HX5c.out D1.out).mono ?_
        rintro e w3c ⟨rfl, x3c, k3c⟩
        go_wp2_with fail
        refine (hC.out _).mono ?_
        rintro e w4 ⟨rfl, k4⟩
        have x4 := x3c.keep k4 id
        clear x3c
        have kk : Keep (Ob p) wr w4 := (((k1.mono fun _ _ h => h.elim).trans (k2.mono fun _ _ h => h.elim) (fun _ _ h => h)).trans (k3.trans (k3b.mono fun _ _ h => h.elim) (fun _ _ h => h)) (fun _ _ h => h)).trans (((k5b.mono fun _ _ h => h.elim).trans k3c (fun _ _ h => h)).trans (k4.mono fun _ _ h => h.elim) (fun _ _ h => h)) (fun _ _ h => h)
        have hB4 := hbd.out.keep kk (fun k hx => by simp only [Ob] at hx; omega)
        have sz4 := kk.size
        have szr := hk.size
        have HB4 := Lib.hid hB4
        have HK4 := Lib.hid (hk.trans kk (fun _ _ h => h))
        have HX4 := Lib.hid x4
        clear hB4 x4
        go_wp2_with fail
        refine (writeString_any w.heap.size w.heap.size _ ⟨#[c]⟩ _ HB4.out (by rw [Lib.byteCells_length, List.length_take]; simp only [ByteArray.size]; simp; omega) (by omega)).mono ?_
        rintro e w5 ⟨he, hB5, bel⟩
        subst he
        rw [show Lib.strCells ⟨#[c]⟩ = [.int .u8 (c.toNat : Int)] from rfl, cells_snoc, ← hc] at hB5
        have HB5 := Lib.hid hB5
        clear hB5
        have x5 := HX4.out.keep (Keep.of_below bel) (by omega)
        have k5 : Keep (Ob p) w w5 := HK4.out.above bel (Nat.le_refl _)
        have hps := posOf_at x5
        have hpr := posOf_at hlx.out
        have HX5 := Lib.hid x5
        have HPS := Lib.hid hps
        have HPR := Lib.hid hpr
        clear x5 hps hpr
        go_wp2_with fail
        go_roundw
        case rel => exact ⟨j + 1, by omega, Lib.hid (by rw [HTK.out]; exact HX5.out), HB5, k5⟩
        case measure => rw [HPS.out, HPR.out]; omega
      · have he1 : encD1 d c = [c] := if_neg hesc
        rw [he1] at hds htk
        have d0 : s.toList[(encD d (text.take j)).length]? = some c := by have := hds 0; simpa using this
        have htk2 : (encD d (text.take (j + 1))).length = (encD d (text.take j)).length + 1 := by rw [htk]; simp
        have haz := (byte_at d0).1
        have c10 : ((c.toNat : Int) == 10) = false := u8_ne (n := 10) (by omega) hc10
        have c92 : ((c.toNat : Int) == 92) = false := u8_ne (n := 92) (by omega) hc92
        have c91 : ((c.toNat : Int) == 91) = false := u8_ne (n := 91) (by omega) hc91
        have cdd : ((c.toNat : Int) == (d.toNat : Int)) = false := beq_eq_false_iff_ne.2 fun h => hesc (UInt8.toNat_inj.1 (by omega))
        clear htk hds he1 hsp hesc hc92 hc10 hc91
        generalize (encD d (text.take j)).length = a at *
        have HTK := Lib.hid htk2
        have D0 := Lib.hid d0
        clear htk2 d0
        go_wp2_with fail
        refine (hP.out a c _ hlx.out D0.out).mono ?_
        rintro e w1 ⟨rfl, k1⟩
        have HX1 := Lib.hid (hlx.out.keep k1 id)
        go_wp2_with fail
        refine (hE.out a c _ HX1.out D0.out).mono ?_
        rintro e w2 ⟨rfl, k2⟩
        have HX2 := Lib.hid (HX1.out.keep k2 id)
        go_wp2_with fail
        refine (hN.out a c _ HX2.out D0.out).mono ?_
        rintro e w4 ⟨rfl, x4, k4⟩
        have kk : Keep (Ob p) wr w4 := ((k1.mono fun _ _ h => h.elim).trans (k2.mono fun _ _ h => h.elim) (fun _ _ h => h)).trans k4 (fun _ _ h => h)
        have hB4 := hbd.out.keep kk (fun k hx => by simp only [Ob] at hx; omega)
        have sz4 := kk.size
        have szr := hk.size
        have HB4 := Lib.hid hB4
        have HK4 := Lib.hid (hk.trans kk (fun _ _ h => h))
        have HX4 := Lib.hid x4
        clear hB4 x4
        go_wp2_with fail
        refine (writeByte_any w.heap.size w.heap.size _ _ _ HB4.out (by rw [Lib.byteCells_length, List.length_take]; omega) (by omega)).mono ?_
        rintro e w5 ⟨rfl, hB5, bel⟩
        rw [cells_snoc, ← hc] at hB5
        have HB5 := Lib.hid hB5
        clear hB5
        have x5 := HX4.out.keep (Keep.of_below bel) (by omega)
        have k5 : Keep (Ob p) w w5 := HK4.out.above bel (Nat.le_refl _)
        have hps := posOf_at x5
        have hpr := posOf_at hlx.out
        have HX5 := Lib.hid x5
        have HPS := Lib.hid hps
        have HPR := Lib.hid hpr
        clear x5 hps hpr
        go_wp2_with fail
        go_roundw
        case rel => exact ⟨j + 1, by omega, Lib.hid (by rw [HTK.out]; exact HX5.out), HB5, k5⟩
        case measure => rw [HPS.out, HPR.out]; omega
    · obtain rfl : j = text.length := by omega
      rw [List.take_length] at hlx hbd
      have d0 : s.toList[(encD d text).length]? = some d := by rw [HS.out, List.getElem?_append_right (Nat.le_refl _), Nat.sub_self]; rfl
      have haz := (byte_at d0).1
      have D0 := Lib.hid d0
      clear d0
      generalize hae : (encD d text).length = a at *
      go_wp2_with fail
      refine (hP.out a d _ hlx.out D0.out).mono ?_
      rintro e w1 ⟨rfl, k1⟩
      have HX1 := Lib.hid (hlx.out.keep k1 id)
      go_wp2_with fail
      refine (hE.out a d _ HX1.out D0.out).mono ?_
      rintro e w2 ⟨rfl, k2⟩
      have HX2 := Lib.hid (HX1.out.keep k2 id)
      go_wp2_with fail
      refine (hK.out a 1 _ HX2.out (by omega) (by omega)).mono ?_
      rintro e w3 ⟨rfl, x3, k3⟩
      have kk : Keep (Ob p) wr w3 := ((k1.mono fun _ _ h => h.elim).trans (k2.mono fun _ _ h => h.elim) (fun _ _ h => h)).trans k3 (fun _ _ h => h)
      have hB4 := Lib.hid (hbd.out.keep kk (fun k hx => by simp only [Ob] at hx; omega))
      have sz4 := kk.size
      have szr := hk.size
      go_wp2_with fail
      refine (string_any w.heap.size w.heap.size text _ hB4.out (by omega)).mono ?_
      rintro e w4 ⟨rfl, bel⟩
      go_wp2_with fail
      go_ret2
      subst hae
      exact ⟨rfl, x3.keep (Keep.of_below bel) (by omega), (hk.trans kk (fun _ _ h => h)).above bel (Nat.le_refl _)⟩

set_option maxRecDepth 100000 in
set_option maxHeartbeats 2000000 in
theorem delim_t (p : Nat) (s : ByteArray) (d : UInt8) (text behind : List UInt8) (hs : s.toList = encD d text ++ d :: behind) (hd : d ≠ 92 ∧ d ≠ 10 ∧ d ≠ 110 ∧ d ≠ 91) (hx : ∀ c ∈ text, c ≠ 92 ∧ c ≠ 10 ∧ c ≠ 91) (ht : text.length ≤ 500) (hz : s.size ≤ 1000000) (w : World) (hb : LexAt w p s 0) :
    Calls Tryd.prog 32 #[.pointer (some ⟨p, 0, none⟩), .int .u8 d.toNat, .bool true] w fun e w' => e = .returned (.tuple #[.string ⟨text.toArray⟩, .int .i64 0]) ∧ LexAt w' p s ((encD d text).length + 1) ∧ Keep (Ob p) w w' := by
  have hl := hb.lt
  have hN := Lib.hid (fun a c wx hx h => next_at p s a c wx hx h hz)
  have hE := Lib.hid (fun a c wx hx h => end_not p s a c wx hx h)
  have hP := Lib.hid (fun a c wx hx h => peek_at p s a c wx hx h)
  have hK := Lib.hid (fun a n wx hx (ha : a ≤ 1000000) (hn : n ≤ 1000000) => skip_any p s a n wx hx ha hn)
  have hC := Lib.hid (fun wx => escape_same d true hd.2.2.1 wx)
  have HS := Lib.hid hs
  have m92 : ((d.toNat : Int) == 92) = false := u8_ne (n := 92) (by omega) hd.1
  have m10 : ((d.toNat : Int) == 10) = false := u8_ne (n := 10) (by omega) hd.2.1
  have n92' : ((92 : Int) == (d.toNat : Int)) = false := beq_eq_false_iff_ne.2 fun h => (beq_eq_false_iff_ne.1 m92) h.symm
  have mdd : ((d.toNat : Int) == (d.toNat : Int)) = true := by simp
  have hd91 := hd.2.2.2
  clear hs hd
  go_enter Tryd.func32, Tryd.ntmps32
  go_wp2_with fail
  go_loopw [9] (fun o wr => ∃ (j : Nat), j ≤ text.length ∧ Hid (LexAt wr p s (encD d (text.take j)).length) ∧ Hid (IsB w.heap.size w.heap.size (Lib.byteCells (text.take j)) wr) ∧ Keep (Ob p) w wr) (fun _ wr => s.size - posOf wr p)
  case atStart =>
    refine ⟨0, by omega, Lib.hid ?_, Lib.hid ?_, Keep.alloc (Keep.refl _ _) _⟩
    · exact hb.keep (X := Nb) (Keep.alloc (Keep.refl _ _) _) id
    · exact new_builder w _ rfl
  case round =>
    obtain ⟨j, hj, hlx, hbd, hk⟩ := hrel
    by_cases hlt : j < text.length
    · have hsp := encD_split d text j hlt
      have htk := encD_take d text j hlt
      have hc : text.take (j + 1) = text.take j ++ [text[j]] := List.take_succ_eq_append_getElem hlt
      obtain ⟨hc92, hc10, hc91⟩ := hx _ (List.getElem_mem hlt)
      generalize text[j] = c at hsp htk hc hc92 hc10 hc91
      have hds : ∀ m, s.toList[(encD d (text.take j)).length + m]? = (encD1 d c ++ (encD d (text.drop (j + 1)) ++ d :: behind))[m]? := fun m => by
        rw [HS.out, hsp, List.append_assoc, List.getElem?_append_right (by omega), Nat.add_sub_cancel_left, List.append_assoc]
      by_cases hesc : c = d
      · have he1 : encD1 d c = [92, c] := if_pos hesc
        rw [he1] at hds htk
        subst hesc
        have d0 : s.toList[(encD c (text.take j)).length]? = some 92 := by have := hds 0; simpa using this
        have d1 : s.toList[(encD c (text.take j)).length + 1]? = some c := by have := hds 1; simpa using this
        have htk2 : (encD c (text.take (j + 1))).length = (encD c (text.take j)).length + 1 + 1 := by rw [htk]; simp
        have haz := (byte_at d1).1
        clear htk hds he1 hsp hc92 hc10 hc91
        generalize (encD c (text.take j)).length = a at *
        have HTK := Lib.hid htk2
        have D0 := Lib.hid d0
        have D1 := Lib.hid d1
        clear htk2 d0 d1
        go_wp2_with fail
        refine (hP.out a 92 _ hlx.out D0.out).mono ?_
        rintro e w1 ⟨he, k1⟩
        rw [n92] at he
        subst he
        have HX1 := Lib.hid (hlx.out.keep k1 id)
        go_wp2_with fail
        refine (hE.out a 92 _ HX1.out D0.out).mono ?_
        rintro e w2 ⟨rfl, k2⟩
        have HX2 := Lib.hid (HX1.out.keep k2 id)
        go_wp2_with fail
        refine (hK.out a 1 _ HX2.out (by omega) (by omega)).mono ?_
        rintro e w3 ⟨rfl, x3, k3⟩
        have HX3 := Lib.hid x3
        clear x3
        go_wp2_with fail
        refine (hE.out (a + 1) c _ HX3.out D1.out).mono ?_
        rintro e w3b ⟨rfl, k3b⟩
        have HX5b := Lib.hid (HX3.out.keep k3b id)
        go_wp2_with fail
        refine (hP.out (a + 1) c _ HX5b.out D1.out).mono ?_
        rintro e w5b ⟨rfl, k5b⟩
        have HX5c := Lib.hid (HX5b.out.keep k5b id)
        go_wp2_with fail
        refine (hN.out (a + 1) c _ HX5c.out D1.out).mono ?_
        rintro e w3c ⟨rfl, x3c, k3c⟩
        go_wp2_with fail
        refine (hC.out _).mono ?_
        rintro e w4 ⟨rfl, k4⟩
        have x4 := x3c.keep k4 id
        clear x3c
        have kk : Keep (Ob p) wr w4 := (((k1.mono fun _ _ h => h.elim).trans (k2.mono fun _ _ h => h.elim) (fun _ _ h => h)).trans (k3.trans (k3b.mono fun _ _ h => h.elim) (fun _ _ h => h)) (fun _ _ h => h)).trans (((k5b.mono fun _ _ h => h.elim).trans k3c (fun _ _ h => h)).trans (k4.mono fun _ _ h => h.elim) (fun _ _ h => h)) (fun _ _ h => h)
        have hB4 := hbd.out.keep kk (fun k hx => by simp only [Ob] at hx; omega)
        have sz4 := kk.size
        have szr := hk.size
        have HB4 := Lib.hid hB4
        have HK4 := Lib.hid (hk.trans kk (fun _ _ h => h))
        have HX4 := Lib.hid x4
        clear hB4 x4
        go_wp2_with fail
        refine (writeString_any w.heap.size w.heap.size _ ⟨#[c]⟩ _ HB4.out (by rw [Lib.byteCells_length, List.length_take]; simp only [ByteArray.size]; simp; omega) (by omega)).mono ?_
        rintro e w5 ⟨he, hB5, bel⟩
        subst he
        rw [show Lib.strCells ⟨#[c]⟩ = [.int .u8 (c.toNat : Int)] from rfl, cells_snoc, ← hc] at hB5
        have HB5 := Lib.hid hB5
        clear hB5
        have x5 := HX4.out.keep (Keep.of_below bel) (by omega)
        have k5 : Keep (Ob p) w w5 := HK4.out.above bel (Nat.le_refl _)
        have hps := posOf_at x5
        have hpr := posOf_at hlx.out
        have HX5 := Lib.hid x5
        have HPS := Lib.hid hps
        have HPR := Lib.hid hpr
        clear x5 hps hpr
        go_wp2_with fail
        go_roundw
        case rel => exact ⟨j + 1, by omega, Lib.hid (by rw [HTK.out]; exact HX5.out), HB5, k5⟩
        case measure => rw [HPS.out, HPR.out]; omega
      · have he1 : encD1 d c = [c] := if_neg hesc
        rw [he1] at hds htk
        have d0 : s.toList[(encD d (text.take j)).length]? = some c := by have := hds 0; simpa using this
        have htk2 : (encD d (text.take (j + 1))).length = (encD d (text.take j)).length + 1 := by rw [htk]; simp
        have haz := (byte_at d0).1
        have c10 : ((c.toNat : Int) == 10) = false := u8_ne (n := 10) (by omega) hc10
        have c92 : ((c.toNat : Int) == 92) = false := u8_ne (n := 92) (by omega) hc92
        have c91 : ((c.toNat : Int) == 91) = false := u8_ne (n := 91) (by omega) hc91
        have cdd : ((c.toNat : Int) == (d.toNat : Int)) = false := beq_eq_false_iff_ne.2 fun h => hesc (UInt8.toNat_inj.1 (by omega))
        clear htk hds he1 hsp hesc hc92 hc10 hc91
        generalize (encD d (text.take j)).length = a at *
        have HTK := Lib.hid htk2
        have D0 := Lib.hid d0
        clear htk2 d0
        go_wp2_with fail
        refine (hP.out a c _ hlx.out D0.out).mono ?_
        rintro e w1 ⟨rfl, k1⟩
        have HX1 := Lib.hid (hlx.out.keep k1 id)
        go_wp2_with fail
        refine (hE.out a c _ HX1.out D0.out).mono ?_
        rintro e w2 ⟨rfl, k2⟩
        have HX2 := Lib.hid (HX1.out.keep k2 id)
        go_wp2_with fail
        refine (hN.out a c _ HX2.out D0.out).mono ?_
        rintro e w4 ⟨rfl, x4, k4⟩
        have kk : Keep (Ob p) wr w4 := ((k1.mono fun _ _ h => h.elim).trans (k2.mono fun _ _ h => h.elim) (fun _ _ h => h)).trans k4 (fun _ _ h => h)
        have hB4 := hbd.out.keep kk (fun k hx => by simp only [Ob] at hx; omega)
        have sz4 := kk.size
        have szr := hk.size
        have HB4 := Lib.hid hB4
        have HK4 := Lib.hid (hk.trans kk (fun _ _ h => h))
        have HX4 := Lib.hid x4
        clear hB4 x4
        go_wp2_with fail
        refine (writeByte_any w.heap.size w.heap.size _ _ _ HB4.out (by rw [Lib.byteCells_length, List.length_take]; omega) (by omega)).mono ?_
        rintro e w5 ⟨rfl, hB5, bel⟩
        rw [cells_snoc, ← hc] at hB5
        have HB5 := Lib.hid hB5
        clear hB5
        have x5 := HX4.out.keep (Keep.of_below bel) (by omega)
        have k5 : Keep (Ob p) w w5 := HK4.out.above bel (Nat.le_refl _)
        have hps := posOf_at x5
        have hpr := posOf_at hlx.out
        have HX5 := Lib.hid x5
        have HPS := Lib.hid hps
        have HPR := Lib.hid hpr
        clear x5 hps hpr
        go_wp2_with fail
        go_roundw
        case rel => exact ⟨j + 1, by omega, Lib.hid (by rw [HTK.out]; exact HX5.out), HB5, k5⟩
        case measure => rw [HPS.out, HPR.out]; omega
    · obtain rfl : j = text.length := by omega
      rw [List.take_length] at hlx hbd
      have d0 : s.toList[(encD d text).length]? = some d := by rw [HS.out, List.getElem?_append_right (Nat.le_refl _), Nat.sub_self]; rfl
      have haz := (byte_at d0).1
      have D0 := Lib.hid d0
      clear d0
      generalize hae : (encD d text).length = a at *
      go_wp2_with fail
      refine (hP.out a d _ hlx.out D0.out).mono ?_
      rintro e w1 ⟨rfl, k1⟩
      have HX1 := Lib.hid (hlx.out.keep k1 id)
      go_wp2_with fail
      refine (hE.out a d _ HX1.out D0.out).mono ?_
      rintro e w2 ⟨rfl, k2⟩
      have HX2 := Lib.hid (HX1.out.keep k2 id)
      go_wp2_with fail
      refine (hK.out a 1 _ HX2.out (by omega) (by omega)).mono ?_
      rintro e w3 ⟨rfl, x3, k3⟩
      have kk : Keep (Ob p) wr w3 := ((k1.mono fun _ _ h => h.elim).trans (k2.mono fun _ _ h => h.elim) (fun _ _ h => h)).trans k3 (fun _ _ h => h)
      have hB4 := Lib.hid (hbd.out.keep kk (fun k hx => by simp only [Ob] at hx; omega))
      have sz4 := kk.size
      have szr := hk.size
      go_wp2_with fail
      refine (string_any w.heap.size w.heap.size text _ hB4.out (by omega)).mono ?_
      rintro e w4 ⟨rfl, bel⟩
      go_wp2_with fail
      go_ret2
      subst hae
      exact ⟨rfl, x3.keep (Keep.of_below bel) (by omega), (hk.trans kk (fun _ _ h => h)).above bel (Nat.le_refl _)⟩

end Go.Proofs.YtilnccjdbdcklaaDoor
