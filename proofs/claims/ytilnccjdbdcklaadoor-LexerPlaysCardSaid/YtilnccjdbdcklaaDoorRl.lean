/- The reference's reader: End, Peek, Next, Blanks; the program's Next and Blanks, at any place. -/
import Derived.Test.YtilnccjdbdcklaaDoorNil
import Derived.Test.YtilnccjdbdcklaaDoorNum
namespace Go.Proofs.YtilnccjdbdcklaaDoor
set_option linter.unusedVariables false
set_option linter.unusedSimpArgs false
open Go.RowKit

theorem tw_at {α : Type} (p : α → Bool) : ∀ (l : List α) (k : Nat), k < (l.takeWhile p).length → ∃ h : k < l.length, p l[k] = true
  | [], k, h => by simp at h
  | x :: r, k, h => by
    rw [List.takeWhile_cons] at h
    split at h
    · rename_i hp
      cases k with
      | zero => exact ⟨by simp, hp⟩
      | succ k =>
        obtain ⟨h1, h2⟩ := tw_at p r k (by simpa using h)
        exact ⟨by simpa using h1, by simpa using h2⟩
    · simp at h
theorem tw_end {α : Type} (p : α → Bool) : ∀ (l : List α) (h : (l.takeWhile p).length < l.length), p l[(l.takeWhile p).length] = false
  | [], h => by simp at h
  | x :: r, h => by
    by_cases hp : p x = true
    · have e : ((x :: r).takeWhile p).length = (r.takeWhile p).length + 1 := by rw [List.takeWhile_cons, if_pos hp]; rfl
      have h2 : (r.takeWhile p).length < r.length := by rw [e] at h; simpa using h
      have := tw_end p r h2
      simp only [e, List.getElem_cons_succ]
      exact this
    · have e : ((x :: r).takeWhile p).length = 0 := by rw [List.takeWhile_cons, if_neg hp]; rfl
      simp only [e, List.getElem_cons_zero]
      simpa using hp
theorem tw_le {α : Type} (p : α → Bool) (l : List α) : (l.takeWhile p).length ≤ l.length := by
  induction l with
  | nil => simp
  | cons x r ih => rw [List.takeWhile_cons]; split <;> simp; exact ih

/-- The byte at a place; 0: there is none. -/
def pkI (s : ByteArray) (a : Nat) : Int := if h : a < s.size then (s[a].toNat : Int) else 0
theorem pkI_lt (s : ByteArray) (a : Nat) : 0 ≤ pkI s a ∧ pkI s a < 256 := by
  unfold pkI; split
  · have := UInt8.toNat_lt s[a]; omega
  · omega
def nxA (s : ByteArray) (a : Nat) : Nat := if a < s.size then a + 1 else a

theorem list_at (s : ByteArray) (a : Nat) (h : a < s.size) : s.toList[a]'(by rw [toList_len]; exact h) = s[a] := by
  simp only [ByteArray.toList_eq, Array.getElem_toList]; rfl

/-! The program -/
theorem peek_any (p : Nat) (s : ByteArray) (a : Nat) (w : World) (hb : LexAt w p s a) (ha : a ≤ s.size) :
    Calls Tryd.prog 14 #[.pointer (some ⟨p, 0, none⟩)] w fun e w' => e = .returned (.int .u8 (pkI s a)) ∧ Keep Nb w w' := by
  unfold pkI
  by_cases h : a < s.size
  · rw [dif_pos h]; exact peek_some p s a w hb h
  · rw [dif_neg h]
    obtain rfl : a = s.size := by omega
    exact peek_end p s w hb
theorem pnext_any (p : Nat) (s : ByteArray) (a : Nat) (w : World) (hb : LexAt w p s a) (ha : a ≤ s.size) (hz : s.size ≤ 1000000) :
    Calls Tryd.prog 19 #[.pointer (some ⟨p, 0, none⟩)] w fun e w' => e = .returned (.int .u8 (pkI s a)) ∧ LexAt w' p s (nxA s a) ∧ Keep (Ob p) w w' := by
  unfold pkI nxA
  by_cases h : a < s.size
  · rw [dif_pos h, if_pos h]; exact next_some p s a w hb h hz
  · rw [dif_neg h, if_neg h]
    obtain rfl : a = s.size := by omega
    have HP := Lib.hid (peek_end p s w hb)
    have HE := Lib.hid (fun wx hx => end_any p s s.size wx hx (Nat.le_refl _))
    rw [decide_eq_true (rfl : s.size = s.size)] at HE
    have HB := Lib.hid hb
    clear hb h ha
    go_enter Tryd.func19, Tryd.ntmps19
    go_wp2_with fail
    refine HP.out.mono ?_
    rintro e w2 ⟨rfl, hk2⟩
    have HB2 := Lib.hid (HB.out.keep hk2 id)
    go_wp2_with fail
    refine (HE.out w2 HB2.out).mono ?_
    rintro e w3 ⟨rfl, hk3⟩
    have HB3 := Lib.hid (HB2.out.keep hk3 id)
    go_wp2_with fail
    go_ret
    exact ⟨rfl, HB3.out, (hk2.trans hk3 (fun _ _ h => h)).ob⟩

def bls : List UInt8 := [32, 9]
def blN (s : ByteArray) (a : Nat) : Nat := ((s.toList.drop a).takeWhile (bls.contains ·)).length
theorem bls_iff (c : UInt8) : bls.contains c = true ↔ (c.toNat : Int) = 32 ∨ (c.toNat : Int) = 9 := by
  have h : ∀ n : Nat, n < 256 → (bls.contains (UInt8.ofNat n) = true ↔ n = 32 ∨ n = 9) := by decide +kernel
  have := h c.toNat (UInt8.toNat_lt c)
  rw [UInt8.ofNat_toNat] at this
  rw [this]; omega
theorem drop_at (s : ByteArray) (a k : Nat) (h : k < (s.toList.drop a).length) : ∃ h2 : a + k < s.size, (s.toList.drop a)[k] = s[a + k] := by
  rw [List.length_drop, toList_len] at h
  refine ⟨by omega, ?_⟩
  rw [List.getElem_drop]
  exact list_at s (a + k) (by omega)
theorem bl_in {s : ByteArray} {a k : Nat} (h : k < blN s a) : pkI s (a + k) = 32 ∨ pkI s (a + k) = 9 := by
  obtain ⟨h1, h2⟩ := tw_at _ _ _ h
  obtain ⟨h3, h4⟩ := drop_at s a k h1
  rw [h4, bls_iff] at h2
  unfold pkI; rw [dif_pos h3]; exact h2
theorem bl_out (s : ByteArray) (a : Nat) : pkI s (a + blN s a) ≠ 32 ∧ pkI s (a + blN s a) ≠ 9 := by
  unfold pkI
  split
  · rename_i h
    have h1 : blN s a < (s.toList.drop a).length := by rw [List.length_drop, toList_len]; omega
    have h2 := tw_end (bls.contains ·) (s.toList.drop a) h1
    obtain ⟨h3, h4⟩ := drop_at s a (blN s a) h1
    have h5 : bls.contains s[a + blN s a] = false := by rw [← h4]; exact h2
    have h6 := bls_iff s[a + blN s a]
    rw [h5] at h6
    have h7 : ¬ ((s[a + blN s a].toNat : Int) = 32 ∨ (s[a + blN s a].toNat : Int) = 9) := fun x => by cases h6.2 x
    omega
  · omega
theorem bl_le (s : ByteArray) (a : Nat) (ha : a ≤ s.size) : a + blN s a ≤ s.size := by
  have := tw_le (bls.contains ·) (s.toList.drop a)
  rw [List.length_drop, toList_len] at this
  unfold blN; omega

set_option maxRecDepth 100000 in
theorem pblanks_any (p : Nat) (s : ByteArray) (a : Nat) (w : World) (hb : LexAt w p s a) (ha : a ≤ s.size) (hz : s.size ≤ 1000000) :
    Calls Tryd.prog 21 #[.pointer (some ⟨p, 0, none⟩)] w fun e w' => e = .returned (.tuple #[]) ∧ LexAt w' p s (a + blN s a) ∧ Keep (Ob p) w w' := by
  have HR := Lib.hid (fun wx hx => rest_any p s a wx hx ha)
  have HB := Lib.hid hb
  have hxl : (s.extract a s.size).toList = s.toList.drop a := extract_toList s a
  have HT := Lib.hid (fun wx => trimLeft_t (s.extract a s.size) ⟨#[32, 9]⟩ wx (by decide) (by decide))
  obtain ⟨T, hT⟩ : ∃ T : ByteArray, T = ⟨(Lib.trimLeftS (s.extract a s.size).data.toList (⟨#[32, 9]⟩ : ByteArray).data.toList).toArray⟩ := ⟨_, rfl⟩
  have hsz : (s.extract a s.size).size = blN s a + T.size := by
    have e1 : T.size = (Lib.trimLeftS (s.toList.drop a) bls).length := by rw [hT, ← hxl, ByteArray.toList_eq]; rfl
    rw [← toList_len, hxl, e1]
    unfold blN Lib.trimLeftS
    rw [← List.length_append, List.takeWhile_append_dropWhile]
  rw [← hT] at HT
  have hbl := bl_le s a ha
  have hxs : (s.extract a s.size).size ≤ 1000000 := by rw [← toList_len, hxl, List.length_drop, toList_len]; omega
  clear hb hT hxl
  generalize s.extract a s.size = R at HR HT hsz hxs
  have hsub : (R.size : Int) - (T.size : Int) = (blN s a : Int) := by omega
  have HSK := Lib.hid (fun wx hx => skip_any p s a (blN s a) wx hx (by omega) (by omega))
  generalize blN s a = n at hsub HSK ⊢
  clear hsz hbl
  go_enter Tryd.func21, Tryd.ntmps21
  go_wp2_with fail
  refine (HR.out w HB.out).mono ?_
  rintro e w1 ⟨rfl, hk1⟩
  have HB1 := Lib.hid (HB.out.keep hk1 id)
  have HK1 := Lib.hid hk1
  clear hk1
  go_wp2_with fail
  refine (HR.out w1 HB1.out).mono ?_
  rintro e w2 ⟨rfl, hk2⟩
  have HB2 := Lib.hid (HB1.out.keep hk2 id)
  have HK2 := Lib.hid (HK1.out.trans hk2 (fun _ _ h => h))
  clear hk2
  go_wp2_with fail
  refine (HT.out w2).mono ?_
  rintro e w3 ⟨rfl, hk3⟩
  have HB3 := Lib.hid (HB2.out.keep hk3 id)
  have HK3 := Lib.hid (HK2.out.trans hk3 (fun _ _ h => h))
  clear hk3
  go_wp2_with fail
  refine (HSK.out w3 HB3.out).mono ?_
  rintro e w4 ⟨rfl, hb4, hk4⟩
  have HB4 := Lib.hid hb4
  have HK4 := Lib.hid (HK3.out.ob.trans hk4 (fun _ _ h => h))
  clear hb4 hk4
  go_wp2_with fail
  go_end0
  exact ⟨rfl, HB4.out, HK4.out⟩

/-! The reference -/
theorem rend_any (q : Nat) (s : ByteArray) (a : Nat) (w : World) (hb : RAt w q s a) :
    Calls Tryd.prog 31 #[.pointer (some ⟨q, 0, none⟩)] w fun e w' => e = .returned (.bool (decide (s.size ≤ a))) ∧ Keep Nb w w' := by
  have c0 := hb.cell 0 (u := .string s) rfl
  have c1 := hb.cell 1 (u := .int .i64 (a : Int)) rfl
  have lq := hb.lt
  clear hb
  go_enter Tryd.func31, Tryd.ntmps31
  go_wp2_with fail
  refine wp_region_x (by kernel_rfl) (by kernel_rfl) ?_; (repeat (go_big_quiet_step ((fail)))); refine wpQuiet_nil ?_; rintro w3 ⟨⟨_, hk3⟩, rfl⟩
  go_wp2_with fail
  go_ret
  exact ⟨rfl, hk3⟩
theorem rpeek_any (q : Nat) (s : ByteArray) (a : Nat) (w : World) (hb : RAt w q s a) :
    Calls Tryd.prog 18 #[.pointer (some ⟨q, 0, none⟩)] w fun e w' => e = .returned (.int .u8 (pkI s a)) ∧ Keep Nb w w' := by
  have HE := Lib.hid (rend_any q s a w hb)
  have HB := Lib.hid hb
  clear hb
  unfold pkI
  by_cases h : a < s.size
  · rw [dif_pos h]
    rw [decide_eq_false (by omega)] at HE
    go_enter Tryd.func18, Tryd.ntmps18
    go_wp2_with fail
    refine HE.out.mono ?_
    rintro e w2 ⟨rfl, hk2⟩
    have hb2 := HB.out.keep hk2 id
    have c0 := hb2.cell 0 (u := .string s) rfl
    have c1 := hb2.cell 1 (u := .int .i64 (a : Int)) rfl
    have lq := hb2.lt
    have h0 : (0 : Int) ≤ (a : Int) := by omega
    have h1 : (a : Int) < (s.size : Int) := by omega
    clear hb2
    go_wp2_with fail
    refine wp_region_x (by kernel_rfl) (by kernel_rfl) ?_; (repeat (go_big_quiet_step ((fail)))); refine wpQuiet_nil ?_; rintro w3 ⟨⟨_, hk3⟩, rfl⟩
    go_wp2_with fail
    go_ret
    exact ⟨rfl, hk2.trans hk3 (fun _ _ h => h)⟩
  · rw [dif_neg h]
    rw [decide_eq_true (by omega)] at HE
    clear h
    go_enter Tryd.func18, Tryd.ntmps18
    go_wp2_with fail
    refine HE.out.mono ?_
    rintro e w2 ⟨rfl, hk2⟩
    go_wp2_with fail
    go_ret
    exact ⟨rfl, hk2⟩
theorem rmoved {w : World} {q : Nat} {s : ByteArray} {a : Nat} (h : RAt w q s a) (n : Nat) : RAt (w.setCell ⟨q, 1, none⟩ (.int .i64 ((a : Int) + (n : Int)))) q s (a + n) := by
  have h1 := Blk.set h 1 (.int .i64 ((a : Int) + (n : Int)))
  have e : ((a + n : Nat) : Int) = (a : Int) + (n : Int) := by omega
  unfold RAt
  rw [e]
  exact h1
theorem rnext_any (q : Nat) (s : ByteArray) (a : Nat) (w : World) (hb : RAt w q s a) (ha : a ≤ s.size) (hz : s.size ≤ 1000000) :
    Calls Tryd.prog 20 #[.pointer (some ⟨q, 0, none⟩)] w fun e w' => e = .returned (.int .u8 (pkI s a)) ∧ RAt w' q s (nxA s a) ∧ Keep (Ob q) w w' := by
  have HP := Lib.hid (rpeek_any q s a w hb)
  have HE := Lib.hid (fun wx hx => rend_any q s a wx hx)
  have HB := Lib.hid hb
  clear hb
  unfold nxA
  by_cases h : a < s.size
  · rw [if_pos h]
    rw [decide_eq_false (by omega)] at HE
    generalize pkI s a = v at HP ⊢
    go_enter Tryd.func20, Tryd.ntmps20
    go_wp2_with fail
    refine HP.out.mono ?_
    rintro e w2 ⟨rfl, hk2⟩
    have HB2 := Lib.hid (HB.out.keep hk2 id)
    go_wp2_with fail
    refine (HE.out w2 HB2.out).mono ?_
    rintro e w3 ⟨rfl, hk3⟩
    have hb3 := HB2.out.keep hk3 id
    have c1 := hb3.cell 1 (u := .int .i64 (a : Int)) rfl
    have f1 := hb3.frozen 1
    have lq := hb3.lt
    have HB3 := Lib.hid hb3
    have HK3 := Lib.hid (hk2.trans hk3 (fun _ _ h => h))
    have hn : a + 1 ≤ 9223372036854775807 := by omega
    clear hb3 hk2 hk3
    go_wp2_with fail
    go_ret
    exact ⟨rfl, rmoved HB3.out 1, HK3.out.ob.trans (Keep.setOb _ _ _ _) (fun _ _ h => h)⟩
  · rw [if_neg h]
    rw [decide_eq_true (by omega)] at HE
    generalize pkI s a = v at HP ⊢
    go_enter Tryd.func20, Tryd.ntmps20
    go_wp2_with fail
    refine HP.out.mono ?_
    rintro e w2 ⟨rfl, hk2⟩
    have HB2 := Lib.hid (HB.out.keep hk2 id)
    go_wp2_with fail
    refine (HE.out w2 HB2.out).mono ?_
    rintro e w3 ⟨rfl, hk3⟩
    have HB3 := Lib.hid (HB2.out.keep hk3 id)
    go_wp2_with fail
    go_ret
    exact ⟨rfl, HB3.out, (hk2.trans hk3 (fun _ _ h => h)).ob⟩

theorem rposOf_at {w : World} {q : Nat} {s : ByteArray} {a : Nat} (h : RAt w q s a) : posOf w q = a := by
  unfold posOf; rw [Blk.cell h 1 (u := .int .i64 a) rfl]; rfl

set_option maxHeartbeats 1000000 in
set_option maxRecDepth 100000 in
theorem rblanks_any (q : Nat) (s : ByteArray) (a : Nat) (w : World) (hb : RAt w q s a) (ha : a ≤ s.size) (hz : s.size ≤ 1000000) :
    Calls Tryd.prog 22 #[.pointer (some ⟨q, 0, none⟩)] w fun e w' => e = .returned (.tuple #[]) ∧ RAt w' q s (a + blN s a) ∧ Keep (Ob q) w w' := by
  have HP := Lib.hid (fun b wx hx => rpeek_any q s b wx hx)
  have HIN := Lib.hid (fun k h => bl_in (s := s) (a := a) (k := k) h)
  have HOUT := Lib.hid (bl_out s a)
  have hle := bl_le s a ha
  have HB := Lib.hid hb
  clear hb
  generalize blN s a = n at HIN HOUT hle ⊢
  go_enter Tryd.func22, Tryd.ntmps22
  go_wp2_with fail
  go_loopw [9] (fun _ wr => ∃ k : Nat, k ≤ n ∧ Hid (RAt wr q s (a + k) ∧ Keep (Ob q) w wr)) (fun _ wr => a + n - posOf wr q)
  case atStart => exact ⟨0, Nat.zero_le _, Lib.hid ⟨HB.out, Keep.refl _ _⟩⟩
  case round =>
    obtain ⟨k, hk, HR⟩ := hrel
    rcases Nat.lt_or_ge k n with hlt | hge
    · have hin := HIN.out k hlt
      have HPR := Lib.hid (rposOf_at HR.out.1)
      by_cases h32 : pkI s (a + k) = 32
      · have HP1 := Lib.hid (HP.out (a + k) wr HR.out.1)
        rw [h32] at HP1
        clear hin h32
        go_wp2_with fail
        refine HP1.out.mono ?_
        rintro e w2 ⟨rfl, hk2⟩
        have hb2 := HR.out.1.keep hk2 id
        have c1 := hb2.cell 1 (u := .int .i64 ((a + k : Nat) : Int)) rfl
        have f1 := hb2.frozen 1
        have lq := hb2.lt
        have HB2 := Lib.hid hb2
        have HK2 := Lib.hid (HR.out.2.trans hk2 (fun _ _ h => h.elim))
        clear hb2 hk2
        have hn1 : a + k + 1 ≤ 9223372036854775807 := by omega
        have HB3 : Hid (RAt (w2.setCell ⟨q, 1, none⟩ (.int .i64 (((a + k : Nat) : Int) + ((1 : Nat) : Int)))) q s (a + (k + 1))) := Lib.hid (rmoved HB2.out 1)
        have HPS := Lib.hid (rposOf_at HB3.out)
        go_wp2_with fail
        go_roundw
        case rel => exact ⟨k + 1, by omega, Lib.hid ⟨by simpa using HB3.out, by simpa using HK2.out.trans (Keep.setOb w2 q 1 _) (fun _ _ h => h)⟩⟩
        case measure =>
          have h1 := HPS.out
          have h2 := HPR.out
          simp only [Int.natCast_add, Int.natCast_one] at h1 ⊢
          simp at h1 ⊢
          omega
      · have h9 : pkI s (a + k) = 9 := hin.resolve_left h32
        have HP1 := Lib.hid (fun wx hx => HP.out (a + k) wx hx)
        rw [h9] at HP1
        clear hin h32 h9
        go_wp2_with fail
        refine (HP1.out wr HR.out.1).mono ?_
        rintro e w1 ⟨rfl, hk1⟩
        have HB1 := Lib.hid (HR.out.1.keep hk1 id)
        have HK1 := Lib.hid (HR.out.2.trans hk1 (fun _ _ h => h.elim))
        clear hk1
        go_wp2_with fail
        refine (HP1.out w1 HB1.out).mono ?_
        rintro e w2 ⟨rfl, hk2⟩
        have hb2 := HB1.out.keep hk2 id
        have c1 := hb2.cell 1 (u := .int .i64 ((a + k : Nat) : Int)) rfl
        have f1 := hb2.frozen 1
        have lq := hb2.lt
        have HB2 := Lib.hid hb2
        have HK2 := Lib.hid (HK1.out.trans hk2 (fun _ _ h => h.elim))
        clear hb2 hk2
        have hn1 : a + k + 1 ≤ 9223372036854775807 := by omega
        have HB3 : Hid (RAt (w2.setCell ⟨q, 1, none⟩ (.int .i64 (((a + k : Nat) : Int) + ((1 : Nat) : Int)))) q s (a + (k + 1))) := Lib.hid (rmoved HB2.out 1)
        have HPS := Lib.hid (rposOf_at HB3.out)
        go_wp2_with fail
        go_roundw
        case rel => exact ⟨k + 1, by omega, Lib.hid ⟨by simpa using HB3.out, by simpa using HK2.out.trans (Keep.setOb w2 q 1 _) (fun _ _ h => h)⟩⟩
        case measure =>
          have h1 := HPS.out
          have h2 := HPR.out
          simp at h1 ⊢
          omega
    · obtain rfl : k = n := by omega
      have n32 : (pkI s (a + k) == 32) = false := beq_eq_false_iff_ne.2 HOUT.out.1
      have n9 : (pkI s (a + k) == 9) = false := beq_eq_false_iff_ne.2 HOUT.out.2
      have HP1 := Lib.hid (fun wx hx => HP.out (a + k) wx hx)
      clear HIN HOUT
      generalize pkI s (a + k) = v at HP1 n32 n9
      go_wp2_with fail
      refine (HP1.out wr HR.out.1).mono ?_
      rintro e w1 ⟨rfl, hk1⟩
      have HB1 := Lib.hid (HR.out.1.keep hk1 id)
      have HK1 := Lib.hid (HR.out.2.trans hk1 (fun _ _ h => h.elim))
      clear hk1
      go_wp2_with fail
      refine (HP1.out w1 HB1.out).mono ?_
      rintro e w2 ⟨rfl, hk2⟩
      have HB2 := Lib.hid (HB1.out.keep hk2 id)
      have HK2 := Lib.hid (HK1.out.trans hk2 (fun _ _ h => h.elim))
      clear hk2
      go_wp2_with fail
      go_end0
      exact ⟨rfl, HB2.out, HK2.out⟩

end Go.Proofs.YtilnccjdbdcklaaDoor
