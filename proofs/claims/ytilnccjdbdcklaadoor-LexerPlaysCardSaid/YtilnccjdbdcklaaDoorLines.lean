/- The lexer reads text lines: Lines. -/
import Derived.Test.YtilnccjdbdcklaaDoorLex
namespace Go.Proofs.YtilnccjdbdcklaaDoor
set_option linter.unusedVariables false
set_option linter.unusedSimpArgs false
open Go.RowKit

/-- A byte as text lines have it. -/
def enc1 (c : UInt8) : List UInt8 := if c = 92 ∨ c = 10 then [92, c] else [c]
def enc (l : List UInt8) : List UInt8 := l.flatMap enc1
theorem enc_take (l : List UInt8) (j : Nat) (hj : j < l.length) : enc (l.take (j + 1)) = enc (l.take j) ++ enc1 l[j] := by
  rw [List.take_succ_eq_append_getElem hj, enc, List.flatMap_append]; simp [enc]
theorem enc_split (l : List UInt8) (j : Nat) (hj : j < l.length) : enc l = enc (l.take j) ++ (enc1 l[j] ++ enc (l.drop (j + 1))) := by
  conv => lhs; rw [← List.take_append_drop (j + 1) l]
  rw [enc, List.flatMap_append]
  have := enc_take l j hj
  rw [enc] at this
  rw [this, List.append_assoc]; rfl
theorem enc1_len (c : UInt8) : (enc1 c).length ≤ 2 := by unfold enc1; split <;> simp
theorem enc_len : ∀ l : List UInt8, (enc l).length ≤ 2 * l.length
  | [] => by simp [enc]
  | x :: r => by
    have h1 := enc_len r
    have h2 := enc1_len x
    rw [enc, List.flatMap_cons, List.length_append, List.length_cons]
    rw [enc] at h1
    omega

theorem byte_at {s : ByteArray} {a : Nat} {c : UInt8} (h : s.toList[a]? = some c) : ∃ ha : a < s.size, s[a] = c := by
  obtain ⟨h1, h2⟩ := List.getElem?_eq_some_iff.1 h
  refine ⟨by rwa [toList_len] at h1, ?_⟩
  rw [← h2]
  simp [ByteArray.toList_eq]
  rfl

theorem next_at (p : Nat) (s : ByteArray) (a : Nat) (c : UInt8) (w : World) (hb : LexAt w p s a) (h : s.toList[a]? = some c) (hs : s.size ≤ 1000000) :
    Calls Tryd.prog 19 #[.pointer (some ⟨p, 0, none⟩)] w fun e w' => e = .returned (.int .u8 c.toNat) ∧ LexAt w' p s (a + 1) ∧ Keep (Ob p) w w' := by
  obtain ⟨ha, rfl⟩ := byte_at h
  exact next_some p s a w hb ha hs
theorem end_not (p : Nat) (s : ByteArray) (a : Nat) (c : UInt8) (w : World) (hb : LexAt w p s a) (h : s.toList[a]? = some c) :
    Calls Tryd.prog 12 #[.pointer (some ⟨p, 0, none⟩)] w fun e w' => e = .returned (.bool false) ∧ Keep Nb w w' := by
  obtain ⟨ha, rfl⟩ := byte_at h
  have := end_any p s a w hb (Nat.le_of_lt ha)
  rwa [decide_eq_false (by omega)] at this

theorem cells_snoc (l : List UInt8) (c : UInt8) : Lib.byteCells l ++ [.int .u8 (c.toNat : Int)] = Lib.byteCells (l ++ [c]) := by simp [Lib.byteCells]

theorem u8_ne {c : UInt8} {n : Nat} (hn : n < 256) (h : c ≠ UInt8.ofNat n) : ((c.toNat : Int) == (n : Int)) = false := by
  refine beq_eq_false_iff_ne.2 fun e => h ?_
  have : c.toNat = n := by omega
  rw [← this]; simp

theorem new_builder (w : World) (b : Nat) (hb : b = w.heap.size) : IsB b b (Lib.byteCells []) (w.alloc (.cells #[.pointer none, .slice none 0 0] 63)) := by
  subst hb
  exact .inl ⟨Nat.le_refl _, _, heap_alloc_new w _, World.ownsRowF_nil _ _ _ _, by simp [Value.ownBlock]⟩

theorem n92 : (((92 : UInt8).toNat : Nat) : Int) = 92 := rfl
theorem n10 : (((10 : UInt8).toNat : Nat) : Int) = 10 := rfl

/-- The place of the lexer in block p. -/
def posOf (w : World) (p : Nat) : Nat := match w.cell? ⟨p, 1, none⟩ with
  | some (.int _ a) => a.toNat
  | _ => 0
theorem posOf_at {w : World} {p : Nat} {s : ByteArray} {a : Nat} (h : LexAt w p s a) : posOf w p = a := by
  unfold posOf; rw [Blk.cell h 1 (u := .int .i64 a) rfl]; rfl

set_option maxRecDepth 100000 in
set_option maxHeartbeats 2000000 in
theorem lines_any (p : Nat) (s : ByteArray) (text behind : List UInt8) (hs : s.toList = enc text ++ 10 :: behind) (ht : text.length ≤ 500) (hz : s.size ≤ 1000000) (w : World) (hb : LexAt w p s 0) :
    Calls Tryd.prog 29 #[.pointer (some ⟨p, 0, none⟩)] w fun e w' => e = .returned (.string ⟨text.toArray⟩) ∧ LexAt w' p s ((enc text).length + 1) ∧ Keep (Ob p) w w' := by
  have hl := hb.lt
  have hN := Lib.hid (fun a c wx hx h => next_at p s a c wx hx h hz)
  have hE := Lib.hid (fun a c wx hx h => end_not p s a c wx hx h)
  have HS := Lib.hid hs
  clear hs
  go_enter Tryd.func29, Tryd.ntmps29
  go_wp2_with fail
  go_loopw [4] (fun o wr => ∃ (j : Nat), j ≤ text.length ∧ Hid (LexAt wr p s (enc (text.take j)).length) ∧ Hid (IsB w.heap.size w.heap.size (Lib.byteCells (text.take j)) wr) ∧ Keep (Ob p) w wr) (fun _ wr => s.size - posOf wr p)
  case atStart =>
    refine ⟨0, by omega, Lib.hid ?_, Lib.hid ?_, Keep.alloc (Keep.refl _ _) _⟩
    · exact hb.keep (X := Nb) (Keep.alloc (Keep.refl _ _) _) id
    · exact new_builder w _ rfl
  case round =>
    obtain ⟨j, hj, hlx, hbd, hk⟩ := hrel
    by_cases hlt : j < text.length
    · have hsp := enc_split text j hlt
      have htk := enc_take text j hlt
      have hc : text.take (j + 1) = text.take j ++ [text[j]] := List.take_succ_eq_append_getElem hlt
      generalize text[j] = c at hsp htk hc
      have hds : ∀ m, s.toList[(enc (text.take j)).length + m]? = (enc1 c ++ (enc (text.drop (j + 1)) ++ 10 :: behind))[m]? := fun m => by
        rw [HS.out, hsp, List.append_assoc, List.getElem?_append_right (by omega), Nat.add_sub_cancel_left, List.append_assoc]
      by_cases hesc : c = 92 ∨ c = 10
      · have he1 : enc1 c = [92, c] := if_pos hesc
        rw [he1] at hds htk
        have d0 : s.toList[(enc (text.take j)).length]? = some 92 := by have := hds 0; simpa using this
        have d1 : s.toList[(enc (text.take j)).length + 1]? = some c := by have := hds 1; simpa using this
        have htk2 : (enc (text.take (j + 1))).length = (enc (text.take j)).length + 1 + 1 := by rw [htk]; simp
        have haz := (byte_at d1).1
        clear htk hds he1 hsp
        generalize (enc (text.take j)).length = a at *
        have HTK := Lib.hid htk2
        have D0 := Lib.hid d0
        have D1 := Lib.hid d1
        clear htk2 d0 d1
        go_wp2_with fail
        refine (hE.out a 92 _ hlx.out D0.out).mono ?_
        rintro e w1 ⟨rfl, k1⟩
        have HX1 := Lib.hid (hlx.out.keep k1 id)
        go_wp2_with fail
        refine (hN.out a 92 _ HX1.out D0.out).mono ?_
        rintro e w2 ⟨he, x2, k2⟩
        rw [n92] at he
        subst he
        have HX2 := Lib.hid x2
        clear x2
        go_wp2_with fail
        refine (hE.out (a + 1) c _ HX2.out D1.out).mono ?_
        rintro e w3 ⟨rfl, k3⟩
        have HX3 := Lib.hid (HX2.out.keep k3 id)
        go_wp2_with fail
        refine (hN.out (a + 1) c _ HX3.out D1.out).mono ?_
        rintro e w4 ⟨rfl, x4, k4⟩
        have kk : Keep (Ob p) wr w4 := ((k1.mono fun _ _ h => h.elim).trans k2 (fun _ _ h => h)).trans ((k3.mono fun _ _ h => h.elim).trans k4 (fun _ _ h => h)) (fun _ _ h => h)
        have hB4 := hbd.out.keep kk (fun k hx => by simp only [Ob] at hx; omega)
        have sz4 := kk.size
        have szr := hk.size
        have HB4 := Lib.hid hB4
        have HK4 := Lib.hid (hk.trans kk (fun _ _ h => h))
        have HX4 := Lib.hid x4
        clear hB4
        go_wp2_with fail
        refine (writeByte_any w.heap.size w.heap.size _ _ _ HB4.out (by simp [Lib.byteCells]; omega) (by omega)).mono ?_
        rintro e w5 ⟨rfl, hB5, bel⟩
        rw [cells_snoc, ← hc] at hB5
        have HB5 := Lib.hid hB5
        clear hB5
        have x5 := HX4.out.keep (Keep.of_below bel) (by omega)
        have k5 : Keep (Ob p) w w5 := HK4.out.above bel (Nat.le_refl _)
        have hps := posOf_at x5
        have hpr := posOf_at hlx.out
        have HX5 := Lib.hid x5
        have HPS := Lib.hid hps
        have HPR := Lib.hid hpr
        clear x5 hps hpr
        go_wp2_with fail
        go_roundw
        case rel => exact ⟨j + 1, by omega, Lib.hid (by rw [HTK.out]; exact HX5.out), HB5, k5⟩
        case measure => rw [HPS.out, HPR.out]; omega
      · have he1 : enc1 c = [c] := if_neg hesc
        rw [he1] at hds htk
        have d0 : s.toList[(enc (text.take j)).length]? = some c := by have := hds 0; simpa using this
        have htk2 : (enc (text.take (j + 1))).length = (enc (text.take j)).length + 1 := by rw [htk]; simp
        have haz := (byte_at d0).1
        have m10 : ((c.toNat : Int) == 10) = false := u8_ne (n := 10) (by omega) (fun h => hesc (.inr h))
        have m92 : ((c.toNat : Int) == 92) = false := u8_ne (n := 92) (by omega) (fun h => hesc (.inl h))
        clear htk hds he1 hsp hesc
        generalize (enc (text.take j)).length = a at *
        have HTK := Lib.hid htk2
        have D0 := Lib.hid d0
        clear htk2 d0
        go_wp2_with fail
        refine (hE.out a c _ hlx.out D0.out).mono ?_
        rintro e w1 ⟨rfl, k1⟩
        have HX1 := Lib.hid (hlx.out.keep k1 id)
        go_wp2_with fail
        refine (hN.out a c _ HX1.out D0.out).mono ?_
        rintro e w4 ⟨rfl, x4, k4⟩
        have kk : Keep (Ob p) wr w4 := (k1.mono fun _ _ h => h.elim).trans k4 (fun _ _ h => h)
        have hB4 := hbd.out.keep kk (fun k hx => by simp only [Ob] at hx; omega)
        have sz4 := kk.size
        have szr := hk.size
        have HB4 := Lib.hid hB4
        have HK4 := Lib.hid (hk.trans kk (fun _ _ h => h))
        have HX4 := Lib.hid x4
        clear hB4
        go_wp2_with fail
        refine (writeByte_any w.heap.size w.heap.size _ _ _ HB4.out (by simp [Lib.byteCells]; omega) (by omega)).mono ?_
        rintro e w5 ⟨rfl, hB5, bel⟩
        rw [cells_snoc, ← hc] at hB5
        have HB5 := Lib.hid hB5
        clear hB5
        have x5 := HX4.out.keep (Keep.of_below bel) (by omega)
        have k5 : Keep (Ob p) w w5 := HK4.out.above bel (Nat.le_refl _)
        have hps := posOf_at x5
        have hpr := posOf_at hlx.out
        have HX5 := Lib.hid x5
        have HPS := Lib.hid hps
        have HPR := Lib.hid hpr
        clear x5 hps hpr
        go_wp2_with fail
        go_roundw
        case rel => exact ⟨j + 1, by omega, Lib.hid (by rw [HTK.out]; exact HX5.out), HB5, k5⟩
        case measure => rw [HPS.out, HPR.out]; omega
    · obtain rfl : j = text.length := by omega
      rw [List.take_length] at hlx hbd
      have d0 : s.toList[(enc text).length]? = some 10 := by rw [HS.out, List.getElem?_append_right (Nat.le_refl _), Nat.sub_self]; rfl
      have D0 := Lib.hid d0
      clear d0
      generalize hae : (enc text).length = a at *
      go_wp2_with fail
      refine (hE.out a 10 _ hlx.out D0.out).mono ?_
      rintro e w1 ⟨rfl, k1⟩
      have HX1 := Lib.hid (hlx.out.keep k1 id)
      go_wp2_with fail
      refine (hN.out a 10 _ HX1.out D0.out).mono ?_
      rintro e w2 ⟨he, x2, k2⟩
      rw [n10] at he
      subst he
      have kk : Keep (Ob p) wr w2 := (k1.mono fun _ _ h => h.elim).trans k2 (fun _ _ h => h)
      have hB4 := Lib.hid (hbd.out.keep kk (fun k hx => by simp only [Ob] at hx; omega))
      have sz4 := kk.size
      have szr := hk.size
      go_wp2_with fail
      refine (string_any w.heap.size w.heap.size text _ hB4.out (by omega)).mono ?_
      rintro e w3 ⟨rfl, bel⟩
      go_wp2_with fail
      go_ret
      subst hae
      exact ⟨rfl, x2.keep (Keep.of_below bel) (by omega), (hk.trans kk (fun _ _ h => h)).above bel (Nat.le_refl _)⟩

end Go.Proofs.YtilnccjdbdcklaaDoor
