/- do of the law, of readers at any place of any text. Printed by gen_doa.py. -/
import Derived.Test.YtilnccjdbdcklaaDoorPdel
import Derived.Test.YtilnccjdbdcklaaDoorRdel
import Derived.Test.YtilnccjdbdcklaaDoorRnum
import Derived.Test.YtilnccjdbdcklaaDoorRlin
import Derived.Test.YtilnccjdbdcklaaDoorRword
import Derived.Test.YtilnccjdbdcklaaDoorDo
namespace Go.Proofs.YtilnccjdbdcklaaDoor
set_option linter.unusedVariables false
set_option linter.unusedSimpArgs false
open Go.RowKit

theorem delF_le (s : ByteArray) (d : UInt8) (p : Bool) : ∀ (n b : Nat) (o : List UInt8), b ≤ s.size → (delF s d p n b o).2 ≤ s.size
  | 0, b, o, h => by rw [delF]; exact h
  | n + 1, b, o, h => by
    rw [delF]
    split
    · rename_i hl
      split
      · exact h
      split
      · exact hl
      split
      · rename_i h10 _ _
        refine delF_le s d p n _ _ ?_
        have := brk_le (lnA s b) (lnA_pos hl h10)
        have := ln_le s b h
        omega
      split
      · split
        · rename_i h2
          split
          · exact hl
          split
          · exact delF_le s d p n _ _ h2
          · exact delF_le s d p n _ _ h2
        · exact hl
      · exact delF_le s d p n _ _ hl
    · exact h
theorem delS_le (s : ByteArray) (d : UInt8) (p : Bool) (a : Nat) (ha : a ≤ s.size) : (delS s d p a).2.2 ≤ s.size := by
  have := delF_le s d p (s.size + 1) a [] ha
  unfold delS
  split
  · exact ha
  · split <;> rename_i hh <;> rw [hh] at this <;> exact this
theorem linF_le : ∀ l : List UInt8, (linF l).2 ≤ l.length
  | [] => by simp [linF]
  | [c] => by
    rw [linF_cons]
    split
    · simp
    split
    · simp
    · simp [linF]
  | c :: x :: r => by
    rw [linF_cons]
    split
    · simp
    split
    · have := linF_le r; simp; omega
    · have := linF_le (x :: r); simp at this ⊢; omega
theorem dg_le (s : ByteArray) (a : Nat) (ha : a ≤ s.size) : a + (dgP (s.toList.drop a)).length ≤ s.size := by
  have := tw_le (digs.contains ·) (s.toList.drop a)
  rw [List.length_drop, toList_len] at this
  unfold dgP; omega
theorem lin_le (s : ByteArray) (a : Nat) (ha : a ≤ s.size) : a + (linF (s.toList.drop a)).2 ≤ s.size := by
  have := linF_le (s.toList.drop a)
  rw [List.length_drop, toList_len] at this
  omega
theorem nx_le (s : ByteArray) (a : Nat) (ha : a ≤ s.size) : nxA s a ≤ s.size := by unfold nxA; split <;> omega

theorem ppattern_any (p : Nat) (s : ByteArray) (a : Nat) (d : UInt8) (w : World) (hb : LexAt w p s a) (ha : a ≤ s.size) (hz : s.size ≤ 1000000) (hm : Laid0 w) (hp2 : p ≠ 2) :
    Calls Tryd.prog 13 #[.pointer (some ⟨p, 0, none⟩), .int .u8 d.toNat] w fun e w' => e = .returned (.tuple #[.string ⟨(delS s d true a).1.toArray⟩, .int .i64 (delS s d true a).2.1]) ∧ LexAt w' p s (delS s d true a).2.2 ∧ Keep (Ob p) w w' := by
  have HD := Lib.hid (pdelim_any p s a d true w hb ha hz hm hp2)
  generalize delS s d true a = DS at HD ⊢
  clear hb ha hz
  go_enter Tryd.func13, Tryd.ntmps13
  go_wp2_with fail
  refine HD.out.mono ?_
  rintro e w2 ⟨rfl, hb2, hk2⟩
  have HB2 := Lib.hid hb2
  clear hb2
  go_wp2_with fail
  go_ret2
  exact ⟨rfl, HB2.out, hk2⟩

theorem rpattern_any (q : Nat) (s : ByteArray) (a : Nat) (d : UInt8) (w : World) (hb : RAt w q s a) (ha : a ≤ s.size) (hz : s.size ≤ 1000000) :
    Calls Tryd.prog 24 #[.pointer (some ⟨q, 0, none⟩), .int .u8 d.toNat] w fun e w' => e = .returned (.tuple #[.string ⟨(delS s d true a).1.toArray⟩, .int .i64 (delS s d true a).2.1]) ∧ RAt w' q s (delS s d true a).2.2 ∧ Keep (Ob q) w w' := by
  have HD := Lib.hid (rdelim_any q s a d true w hb ha hz)
  generalize delS s d true a = DS at HD ⊢
  clear hb ha hz
  go_enter Tryd.func24, Tryd.ntmps24
  go_wp2_with fail
  refine HD.out.mono ?_
  rintro e w2 ⟨rfl, hb2, hk2⟩
  have HB2 := Lib.hid hb2
  clear hb2
  go_wp2_with fail
  go_ret2
  exact ⟨rfl, HB2.out, hk2⟩

theorem preplacement_any (p : Nat) (s : ByteArray) (a : Nat) (d : UInt8) (w : World) (hb : LexAt w p s a) (ha : a ≤ s.size) (hz : s.size ≤ 1000000) (hm : Laid0 w) (hp2 : p ≠ 2) :
    Calls Tryd.prog 25 #[.pointer (some ⟨p, 0, none⟩), .int .u8 d.toNat] w fun e w' => e = .returned (.tuple #[.string ⟨(delS s d false a).1.toArray⟩, .int .i64 (delS s d false a).2.1]) ∧ LexAt w' p s (delS s d false a).2.2 ∧ Keep (Ob p) w w' := by
  have HD := Lib.hid (pdelim_any p s a d false w hb ha hz hm hp2)
  generalize delS s d false a = DS at HD ⊢
  clear hb ha hz
  go_enter Tryd.func25, Tryd.ntmps25
  go_wp2_with fail
  refine HD.out.mono ?_
  rintro e w2 ⟨rfl, hb2, hk2⟩
  have HB2 := Lib.hid hb2
  clear hb2
  go_wp2_with fail
  go_ret2
  exact ⟨rfl, HB2.out, hk2⟩

theorem rreplacement_any (q : Nat) (s : ByteArray) (a : Nat) (d : UInt8) (w : World) (hb : RAt w q s a) (ha : a ≤ s.size) (hz : s.size ≤ 1000000) :
    Calls Tryd.prog 26 #[.pointer (some ⟨q, 0, none⟩), .int .u8 d.toNat] w fun e w' => e = .returned (.tuple #[.string ⟨(delS s d false a).1.toArray⟩, .int .i64 (delS s d false a).2.1]) ∧ RAt w' q s (delS s d false a).2.2 ∧ Keep (Ob q) w w' := by
  have HD := Lib.hid (rdelim_any q s a d false w hb ha hz)
  generalize delS s d false a = DS at HD ⊢
  clear hb ha hz
  go_enter Tryd.func26, Tryd.ntmps26
  go_wp2_with fail
  refine HD.out.mono ?_
  rintro e w2 ⟨rfl, hb2, hk2⟩
  have HB2 := Lib.hid hb2
  clear hb2
  go_wp2_with fail
  go_ret2
  exact ⟨rfl, HB2.out, hk2⟩

/-! Both readers -/
def PQ (p q : Nat) : Nat → Prop := fun k => k = p ∨ k = q
/-- The one at the one place, the other at the other. -/
structure Two (p q : Nat) (s : ByteArray) (a b : Nat) (w : World) : Prop where
  lp : LexAt w p s a
  rq : RAt w q s b
  m : Laid0 w
  hpq : p ≠ q
  hp2 : p ≠ 2
  hq2 : q ≠ 2
theorem Two.toP {p q : Nat} {s : ByteArray} {a b c : Nat} {w w' : World} (h : Two p q s a b w) (hb : LexAt w' p s c) (hk : Keep (Ob p) w w') : Two p q s c b w' ∧ Keep (PQ p q) w w' :=
  ⟨⟨hb, h.rq.keep hk (fun e => h.hpq e.symm), h.m.keep hk (fun e => h.hp2 e.symm), h.hpq, h.hp2, h.hq2⟩, hk.mono fun _ _ e => .inl e⟩
theorem Two.toQ {p q : Nat} {s : ByteArray} {a b c : Nat} {w w' : World} (h : Two p q s a b w) (hb : RAt w' q s c) (hk : Keep (Ob q) w w') : Two p q s a c w' ∧ Keep (PQ p q) w w' :=
  ⟨⟨h.lp.keep hk (fun e => h.hpq e), hb, h.m.keep hk (fun e => h.hq2 e.symm), h.hpq, h.hp2, h.hq2⟩, hk.mono fun _ _ e => .inr e⟩
theorem Two.keep {p q : Nat} {s : ByteArray} {a b : Nat} {w w' : World} (h : Two p q s a b w) (hk : Keep Nb w w') : Two p q s a b w' :=
  ⟨h.lp.keep hk id, h.rq.keep hk id, h.m.keep hk id, h.hpq, h.hp2, h.hq2⟩

/-- do at any kind: the place behind is one in the text. -/
theorem do_at (p q : Nat) (s : ByteArray) (a a' : Nat) (hz : s.size ≤ 1000000) (ha : a ≤ s.size) (ha' : a' ≤ s.size) (k d m : Int) (w : World) (hw : Two p q s a a w)
    (h0 : k = 0 → ∃ c : Int, 0 ≤ c ∧ c < 256 ∧ (∀ w, LexAt w p s a → Laid0 w → Calls Tryd.prog 14 #[.pointer (some ⟨p, 0, none⟩)] w fun e w' => e = .returned (.int .u8 c) ∧ LexAt w' p s a' ∧ Keep (Ob p) w w') ∧ (∀ w, RAt w q s a → Calls Tryd.prog 18 #[.pointer (some ⟨q, 0, none⟩)] w fun e w' => e = .returned (.int .u8 c) ∧ RAt w' q s a' ∧ Keep (Ob q) w w'))
    (h1 : k = 1 → ∃ c : Int, 0 ≤ c ∧ c < 256 ∧ (∀ w, LexAt w p s a → Laid0 w → Calls Tryd.prog 19 #[.pointer (some ⟨p, 0, none⟩)] w fun e w' => e = .returned (.int .u8 c) ∧ LexAt w' p s a' ∧ Keep (Ob p) w w') ∧ (∀ w, RAt w q s a → Calls Tryd.prog 20 #[.pointer (some ⟨q, 0, none⟩)] w fun e w' => e = .returned (.int .u8 c) ∧ RAt w' q s a' ∧ Keep (Ob q) w w'))
    (h2 : k = 2 → (∀ w, LexAt w p s a → Laid0 w → Calls Tryd.prog 21 #[.pointer (some ⟨p, 0, none⟩)] w fun e w' => e = .returned (.tuple #[]) ∧ LexAt w' p s a' ∧ Keep (Ob p) w w') ∧ (∀ w, RAt w q s a → Calls Tryd.prog 22 #[.pointer (some ⟨q, 0, none⟩)] w fun e w' => e = .returned (.tuple #[]) ∧ RAt w' q s a' ∧ Keep (Ob q) w w'))
    (h3 : k = 3 → ∃ (n : Int) (b : Bool), (∀ w, LexAt w p s a → Laid0 w → Calls Tryd.prog 9 #[.pointer (some ⟨p, 0, none⟩)] w fun e w' => e = .returned (.tuple #[.int .i64 n, .bool b]) ∧ LexAt w' p s a' ∧ Keep (Ob p) w w') ∧ (∀ w, RAt w q s a → Calls Tryd.prog 23 #[.pointer (some ⟨q, 0, none⟩)] w fun e w' => e = .returned (.tuple #[.int .i64 n, .bool b]) ∧ RAt w' q s a' ∧ Keep (Ob q) w w'))
    (h4 : k = 4 → ∃ (t : ByteArray) (e1 : Int), (∀ w, LexAt w p s a → Laid0 w → Calls Tryd.prog 13 #[.pointer (some ⟨p, 0, none⟩), .int .u8 d] w fun e w' => e = .returned (.tuple #[.string t, .int .i64 e1]) ∧ LexAt w' p s a' ∧ Keep (Ob p) w w') ∧ (∀ w, RAt w q s a → Calls Tryd.prog 24 #[.pointer (some ⟨q, 0, none⟩), .int .u8 d] w fun e w' => e = .returned (.tuple #[.string t, .int .i64 e1]) ∧ RAt w' q s a' ∧ Keep (Ob q) w w'))
    (h5 : k = 5 → ∃ (t : ByteArray) (e1 : Int), (∀ w, LexAt w p s a → Laid0 w → Calls Tryd.prog 25 #[.pointer (some ⟨p, 0, none⟩), .int .u8 d] w fun e w' => e = .returned (.tuple #[.string t, .int .i64 e1]) ∧ LexAt w' p s a' ∧ Keep (Ob p) w w') ∧ (∀ w, RAt w q s a → Calls Tryd.prog 26 #[.pointer (some ⟨q, 0, none⟩), .int .u8 d] w fun e w' => e = .returned (.tuple #[.string t, .int .i64 e1]) ∧ RAt w' q s a' ∧ Keep (Ob q) w w'))
    (h6 : k = 6 → ∃ (t : ByteArray) (b : Bool), (∀ w, LexAt w p s a → Laid0 w → Calls Tryd.prog 27 #[.pointer (some ⟨p, 0, none⟩), .int .i64 m] w fun e w' => e = .returned (.tuple #[.string t, .bool b]) ∧ LexAt w' p s a' ∧ Keep (Ob p) w w') ∧ (∀ w, RAt w q s a → Calls Tryd.prog 28 #[.pointer (some ⟨q, 0, none⟩), .int .i64 m] w fun e w' => e = .returned (.tuple #[.string t, .bool b]) ∧ RAt w' q s a' ∧ Keep (Ob q) w w'))
    (h7 : k ≠ 0 ∧ k ≠ 1 ∧ k ≠ 2 ∧ k ≠ 3 ∧ k ≠ 4 ∧ k ≠ 5 ∧ k ≠ 6 → ∃ t : ByteArray, (∀ w, LexAt w p s a → Laid0 w → Calls Tryd.prog 29 #[.pointer (some ⟨p, 0, none⟩)] w fun e w' => e = .returned (.string t) ∧ LexAt w' p s a' ∧ Keep (Ob p) w w') ∧ (∀ w, RAt w q s a → Calls Tryd.prog 30 #[.pointer (some ⟨q, 0, none⟩)] w fun e w' => e = .returned (.string t) ∧ RAt w' q s a' ∧ Keep (Ob q) w w'))
    : Calls Tryd.prog 11 #[.pointer (some ⟨p, 0, none⟩), .pointer (some ⟨q, 0, none⟩), .agg (askRow k d m)] w fun e w' => e = .returned (.bool true) ∧ Two p q s a' a' w' ∧ Keep (PQ p q) w w' := by
  have hen : decide (a' = s.size) = decide (s.size ≤ a') := decide_eq_decide.2 (by omega)
  refine do_gen (.pointer (some ⟨p, 0, none⟩)) q k d m a' (decide (a' = s.size)) (PQ p q) (fun w => Two p q s a a w) (fun w => Two p q s a' a w) (fun w => Two p q s a' a' w) w
    (fun b h => by exact h.elim (fun e => e ▸ hw.lp.lt) (fun e => e ▸ hw.rq.lt)) ⟨hw.lp.alloc _, hw.rq.alloc _, hw.m.keep (Keep.alloc (Keep.refl Nb _) _) id, hw.hpq, hw.hp2, hw.hq2⟩
    (fun hk => by
      obtain ⟨c, c0, c1, hp, hr⟩ := h0 hk
      exact ⟨c, c0, c1, fun w h => (hp w h.lp h.m).mono fun e w' ⟨h1, h2, h3⟩ => ⟨h1, h.toP h2 h3⟩, fun w h => (hr w h.rq).mono fun e w' ⟨h1, h2, h3⟩ => ⟨h1, h.toQ h2 h3⟩⟩)
    (fun hk => by
      obtain ⟨c, c0, c1, hp, hr⟩ := h1 hk
      exact ⟨c, c0, c1, fun w h => (hp w h.lp h.m).mono fun e w' ⟨h1, h2, h3⟩ => ⟨h1, h.toP h2 h3⟩, fun w h => (hr w h.rq).mono fun e w' ⟨h1, h2, h3⟩ => ⟨h1, h.toQ h2 h3⟩⟩)
    (fun hk => by
      obtain ⟨hp, hr⟩ := h2 hk
      exact ⟨fun w h => (hp w h.lp h.m).mono fun e w' ⟨h1, h2, h3⟩ => ⟨h1, h.toP h2 h3⟩, fun w h => (hr w h.rq).mono fun e w' ⟨h1, h2, h3⟩ => ⟨h1, h.toQ h2 h3⟩⟩)
    (fun hk => by
      obtain ⟨n, b, hp, hr⟩ := h3 hk
      exact ⟨n, b, fun w h => (hp w h.lp h.m).mono fun e w' ⟨h1, h2, h3⟩ => ⟨h1, h.toP h2 h3⟩, fun w h => (hr w h.rq).mono fun e w' ⟨h1, h2, h3⟩ => ⟨h1, h.toQ h2 h3⟩⟩)
    (fun hk => by
      obtain ⟨t, e1, hp, hr⟩ := h4 hk
      exact ⟨t, e1, fun w h => (hp w h.lp h.m).mono fun e w' ⟨h1, h2, h3⟩ => ⟨h1, h.toP h2 h3⟩, fun w h => (hr w h.rq).mono fun e w' ⟨h1, h2, h3⟩ => ⟨h1, h.toQ h2 h3⟩⟩)
    (fun hk => by
      obtain ⟨t, e1, hp, hr⟩ := h5 hk
      exact ⟨t, e1, fun w h => (hp w h.lp h.m).mono fun e w' ⟨h1, h2, h3⟩ => ⟨h1, h.toP h2 h3⟩, fun w h => (hr w h.rq).mono fun e w' ⟨h1, h2, h3⟩ => ⟨h1, h.toQ h2 h3⟩⟩)
    (fun hk => by
      obtain ⟨t, b, hp, hr⟩ := h6 hk
      exact ⟨t, b, fun w h => (hp w h.lp h.m).mono fun e w' ⟨h1, h2, h3⟩ => ⟨h1, h.toP h2 h3⟩, fun w h => (hr w h.rq).mono fun e w' ⟨h1, h2, h3⟩ => ⟨h1, h.toQ h2 h3⟩⟩)
    (fun hk => by
      obtain ⟨t, hp, hr⟩ := h7 hk
      exact ⟨t, fun w h => (hp w h.lp h.m).mono fun e w' ⟨h1, h2, h3⟩ => ⟨h1, h.toP h2 h3⟩, fun w h => (hr w h.rq).mono fun e w' ⟨h1, h2, h3⟩ => ⟨h1, h.toQ h2 h3⟩⟩)
    (fun w w' h hk => h.keep hk) (fun w h => at_any p s a' w h.lp) (fun w h => end_any p s a' w h.lp ha') (fun w h => by rw [hen]; exact rend_any q s a' w h.rq) (fun w h => ⟨h.rq.cell 1 rfl, h.rq.lt⟩)

theorem do_any (p q : Nat) (s : ByteArray) (a : Nat) (hz : s.size ≤ 1000000) (ha : a ≤ s.size) (k m : Int) (d : UInt8) (w : World) (hw : Two p q s a a w) :
    Calls Tryd.prog 11 #[.pointer (some ⟨p, 0, none⟩), .pointer (some ⟨q, 0, none⟩), .agg (askRow k d.toNat m)] w fun e w' => e = .returned (.bool true) ∧ (∃ a', a' ≤ s.size ∧ Two p q s a' a' w') ∧ Keep (PQ p q) w w' := by
  have hp2 := hw.hp2
  have key : ∀ a', a' ≤ s.size → (Calls Tryd.prog 11 #[.pointer (some ⟨p, 0, none⟩), .pointer (some ⟨q, 0, none⟩), .agg (askRow k d.toNat m)] w fun e w' => e = .returned (.bool true) ∧ Two p q s a' a' w' ∧ Keep (PQ p q) w w') → Calls Tryd.prog 11 #[.pointer (some ⟨p, 0, none⟩), .pointer (some ⟨q, 0, none⟩), .agg (askRow k d.toNat m)] w fun e w' => e = .returned (.bool true) ∧ (∃ a', a' ≤ s.size ∧ Two p q s a' a' w') ∧ Keep (PQ p q) w w' :=
    fun a' ha' h => h.mono fun e w' ⟨h1, h2, h3⟩ => ⟨h1, ⟨a', ha', h2⟩, h3⟩
  by_cases hk : k = 0
  · refine key (a) (ha) (do_at p q s a _ hz ha (ha) k _ m w hw (fun _ => ⟨pkI s a, (pkI_lt s a).1, (pkI_lt s a).2, fun w h _ => (peek_any p s a w h ha).mono fun e w' ⟨h1, h2⟩ => ⟨h1, h.keep h2 id, h2.ob⟩, fun w h => (rpeek_any q s a w h).mono fun e w' ⟨h1, h2⟩ => ⟨h1, h.keep h2 id, h2.ob⟩⟩) (fun h => absurd (hk.symm.trans h) (by decide)) (fun h => absurd (hk.symm.trans h) (by decide)) (fun h => absurd (hk.symm.trans h) (by decide)) (fun h => absurd (hk.symm.trans h) (by decide)) (fun h => absurd (hk.symm.trans h) (by decide)) (fun h => absurd (hk.symm.trans h) (by decide)) (fun h => absurd hk h.1))
  have n0 := hk
  clear hk
  by_cases hk : k = 1
  · refine key (nxA s a) (nx_le s a ha) (do_at p q s a _ hz ha (nx_le s a ha) k _ m w hw (fun h => absurd (hk.symm.trans h) (by decide)) (fun _ => ⟨pkI s a, (pkI_lt s a).1, (pkI_lt s a).2, fun w h _ => pnext_any p s a w h ha hz, fun w h => rnext_any q s a w h ha hz⟩) (fun h => absurd (hk.symm.trans h) (by decide)) (fun h => absurd (hk.symm.trans h) (by decide)) (fun h => absurd (hk.symm.trans h) (by decide)) (fun h => absurd (hk.symm.trans h) (by decide)) (fun h => absurd (hk.symm.trans h) (by decide)) (fun h => absurd hk h.2.1))
  have n1 := hk
  clear hk
  by_cases hk : k = 2
  · refine key (a + blN s a) (bl_le s a ha) (do_at p q s a _ hz ha (bl_le s a ha) k _ m w hw (fun h => absurd (hk.symm.trans h) (by decide)) (fun h => absurd (hk.symm.trans h) (by decide)) (fun _ => ⟨fun w h _ => pblanks_any p s a w h ha hz, fun w h => rblanks_any q s a w h ha hz⟩) (fun h => absurd (hk.symm.trans h) (by decide)) (fun h => absurd (hk.symm.trans h) (by decide)) (fun h => absurd (hk.symm.trans h) (by decide)) (fun h => absurd (hk.symm.trans h) (by decide)) (fun h => absurd hk h.2.2.1))
  have n2 := hk
  clear hk
  by_cases hk : k = 3
  · by_cases hv : 1000000000 < valD (dgP (s.toList.drop a))
    · refine key (a) (ha) (do_at p q s a _ hz ha (ha) k _ m w hw (fun h => absurd (hk.symm.trans h) (by decide)) (fun h => absurd (hk.symm.trans h) (by decide)) (fun h => absurd (hk.symm.trans h) (by decide)) (fun _ => ⟨0, false, fun w h _ => (number_any p s a w h ha hz).mono fun e w' ⟨h1, h2, _⟩ => ⟨(h2 hv).1, (h2 hv).2, h1⟩, fun w h => (rnumber_any q s a w h ha hz).mono fun e w' ⟨h1, h2, _⟩ => ⟨(h2 hv).1, (h2 hv).2, h1⟩⟩) (fun h => absurd (hk.symm.trans h) (by decide)) (fun h => absurd (hk.symm.trans h) (by decide)) (fun h => absurd (hk.symm.trans h) (by decide)) (fun h => absurd hk h.2.2.2.1))
    · have hv2 : valD (dgP (s.toList.drop a)) ≤ 1000000000 := by omega
      refine key (a + (dgP (s.toList.drop a)).length) (dg_le s a ha) (do_at p q s a _ hz ha (dg_le s a ha) k _ m w hw (fun h => absurd (hk.symm.trans h) (by decide)) (fun h => absurd (hk.symm.trans h) (by decide)) (fun h => absurd (hk.symm.trans h) (by decide)) (fun _ => ⟨_, _, fun w h _ => (number_any p s a w h ha hz).mono fun e w' ⟨h1, _, h2⟩ => ⟨(h2 hv2).1, (h2 hv2).2, h1⟩, fun w h => (rnumber_any q s a w h ha hz).mono fun e w' ⟨h1, _, h2⟩ => ⟨(h2 hv2).1, (h2 hv2).2, h1⟩⟩) (fun h => absurd (hk.symm.trans h) (by decide)) (fun h => absurd (hk.symm.trans h) (by decide)) (fun h => absurd (hk.symm.trans h) (by decide)) (fun h => absurd hk h.2.2.2.1))
  have n3 := hk
  clear hk
  by_cases hk : k = 4
  · refine key ((delS s d true a).2.2) (delS_le s d true a ha) (do_at p q s a _ hz ha (delS_le s d true a ha) k _ m w hw (fun h => absurd (hk.symm.trans h) (by decide)) (fun h => absurd (hk.symm.trans h) (by decide)) (fun h => absurd (hk.symm.trans h) (by decide)) (fun h => absurd (hk.symm.trans h) (by decide)) (fun _ => ⟨_, _, fun w h hm => ppattern_any p s a d w h ha hz hm hp2, fun w h => rpattern_any q s a d w h ha hz⟩) (fun h => absurd (hk.symm.trans h) (by decide)) (fun h => absurd (hk.symm.trans h) (by decide)) (fun h => absurd hk h.2.2.2.2.1))
  have n4 := hk
  clear hk
  by_cases hk : k = 5
  · refine key ((delS s d false a).2.2) (delS_le s d false a ha) (do_at p q s a _ hz ha (delS_le s d false a ha) k _ m w hw (fun h => absurd (hk.symm.trans h) (by decide)) (fun h => absurd (hk.symm.trans h) (by decide)) (fun h => absurd (hk.symm.trans h) (by decide)) (fun h => absurd (hk.symm.trans h) (by decide)) (fun h => absurd (hk.symm.trans h) (by decide)) (fun _ => ⟨_, _, fun w h hm => preplacement_any p s a d w h ha hz hm hp2, fun w h => rreplacement_any q s a d w h ha hz⟩) (fun h => absurd (hk.symm.trans h) (by decide)) (fun h => absurd hk h.2.2.2.2.2.1))
  have n5 := hk
  clear hk
  by_cases hk : k = 6
  · by_cases hv : wdT s a = [] ∨ m < (wdT s a).length
    · refine key (a) (ha) (do_at p q s a _ hz ha (ha) k _ m w hw (fun h => absurd (hk.symm.trans h) (by decide)) (fun h => absurd (hk.symm.trans h) (by decide)) (fun h => absurd (hk.symm.trans h) (by decide)) (fun h => absurd (hk.symm.trans h) (by decide)) (fun h => absurd (hk.symm.trans h) (by decide)) (fun h => absurd (hk.symm.trans h) (by decide)) (fun _ => ⟨⟨#[]⟩, false, fun w h _ => (pword_any p s a m w h ha hz).mono fun e w' ⟨h1, h2, _⟩ => ⟨(h2 hv).1, (h2 hv).2, h1⟩, fun w h => (rword_any q s a m w h ha hz).mono fun e w' ⟨h1, h2, _⟩ => ⟨(h2 hv).1, (h2 hv).2, h1⟩⟩) (fun h => absurd hk h.2.2.2.2.2.2))
    · refine key (a + wdN s a) (wd_le s a ha) (do_at p q s a _ hz ha (wd_le s a ha) k _ m w hw (fun h => absurd (hk.symm.trans h) (by decide)) (fun h => absurd (hk.symm.trans h) (by decide)) (fun h => absurd (hk.symm.trans h) (by decide)) (fun h => absurd (hk.symm.trans h) (by decide)) (fun h => absurd (hk.symm.trans h) (by decide)) (fun h => absurd (hk.symm.trans h) (by decide)) (fun _ => ⟨_, _, fun w h _ => (pword_any p s a m w h ha hz).mono fun e w' ⟨h1, _, h2⟩ => ⟨(h2 hv).1, (h2 hv).2, h1⟩, fun w h => (rword_any q s a m w h ha hz).mono fun e w' ⟨h1, _, h2⟩ => ⟨(h2 hv).1, (h2 hv).2, h1⟩⟩) (fun h => absurd hk h.2.2.2.2.2.2))
  have n6 := hk
  clear hk
  refine key (a + (linF (s.toList.drop a)).2) (lin_le s a ha) (do_at p q s a _ hz ha (lin_le s a ha) k _ m w hw (fun h => absurd h n0) (fun h => absurd h n1) (fun h => absurd h n2) (fun h => absurd h n3) (fun h => absurd h n4) (fun h => absurd h n5) (fun h => absurd h n6) (fun _ => ⟨_, fun w h _ => plines_any p s a w h ha hz, fun w h => rlines_any q s a w h ha hz⟩))

end Go.Proofs.YtilnccjdbdcklaaDoor
