/- LexerNil: a nil reader is at its end. -/
import Derived.Test.YtilnccjdbdcklaaDoorNil
namespace Go.Proofs.YtilnccjdbdcklaaDoor
set_option linter.unusedVariables false
set_option linter.unusedSimpArgs false
open Go.RowKit

theorem Keep.toOb {X : Nat → Prop} {w w' : World} {q : Nat} (h : Keep (Ob q) w w') (hq : X q) : Keep X w w' := h.mono fun k _ e => by simp only [Ob] at e; subst e; exact hq

theorem do_nil (q : Nat) (k d m : Int) (w : World) (hb : RAt w q ⟨#[]⟩ 0) :
    Calls Tryd.prog 11 #[.pointer none, .pointer (some ⟨q, 0, none⟩), .agg (askRow k d m)] w fun e w' => e = .returned (.bool true) ∧ RAt w' q ⟨#[]⟩ 0 ∧ Keep (Ob q) w w' := by
  refine do_gen (.pointer none) q k d m 0 true (Ob q) (fun w => RAt w q ⟨#[]⟩ 0) (fun w => RAt w q ⟨#[]⟩ 0) (fun w => RAt w q ⟨#[]⟩ 0) w (fun b h => by simp only [Ob] at h; subst h; exact hb.lt) (hb.alloc _)
    (fun _ => ⟨0, by omega, by omega, fun w h => (nil_peek w).mono fun e w' ⟨h1, h2⟩ => ⟨h1, h.keep h2 id, h2.ob⟩, fun w h => (e_peek q w h).mono fun e w' ⟨h1, h2⟩ => ⟨h1, h.keep h2 id, h2.ob⟩⟩)
    (fun _ => ⟨0, by omega, by omega, fun w h => (nil_next w).mono fun e w' ⟨h1, h2⟩ => ⟨h1, h.keep h2 id, h2.ob⟩, fun w h => (e_next q w h).mono fun e w' ⟨h1, h2⟩ => ⟨h1, h.keep h2 id, h2.ob⟩⟩)
    (fun _ => ⟨fun w h => (nil_blanks w).mono fun e w' ⟨h1, h2⟩ => ⟨h1, h.keep h2 id, h2.ob⟩, fun w h => (e_blanks q w h).mono fun e w' ⟨h1, h2⟩ => ⟨h1, h.keep h2 id, h2.ob⟩⟩)
    (fun _ => ⟨0, false, fun w h => (nil_number w).mono fun e w' ⟨h1, h2⟩ => ⟨h1, h.keep h2 id, h2.ob⟩, fun w h => (e_number q w h).mono fun e w' ⟨h1, h2⟩ => ⟨h1, h.keep h2 id, h2.ob⟩⟩)
    (fun _ => ⟨⟨#[]⟩, 9, fun w h => (nil_pattern d w).mono fun e w' ⟨h1, h2⟩ => ⟨h1, h.keep h2 id, h2.ob⟩, fun w h => e_pattern q d w h⟩)
    (fun _ => ⟨⟨#[]⟩, 9, fun w h => (nil_replacement d w).mono fun e w' ⟨h1, h2⟩ => ⟨h1, h.keep h2 id, h2.ob⟩, fun w h => e_replacement q d w h⟩)
    (fun _ => ⟨⟨#[]⟩, false, fun w h => (nil_word m w).mono fun e w' ⟨h1, h2⟩ => ⟨h1, h.keep h2 id, h2.ob⟩, fun w h => (e_word q m w h).mono fun e w' ⟨h1, h2⟩ => ⟨h1, h.keep h2 id, h2.ob⟩⟩)
    (fun _ => ⟨⟨#[]⟩, fun w h => (nil_lines w).mono fun e w' ⟨h1, h2⟩ => ⟨h1, h.keep h2 id, h2.ob⟩, fun w h => (e_lines q w h).mono fun e w' ⟨h1, h2⟩ => ⟨h1, h.keep h2 id, h2.ob⟩⟩)
    (fun w w' h hk => h.keep hk id) (fun w _ => nil_at w) (fun w _ => nil_end w) (fun w h => e_end q w h) (fun w h => ⟨h.cell 1 rfl, h.lt⟩)

set_option maxHeartbeats 2000000 in
set_option maxRecDepth 100000 in
theorem nil_any (k d m : Int) (w : World) :
    Calls Tryd.prog 5 #[.agg (askRow k d m)] w fun e w' => e = .returned (.bool true) ∧ Keep Nb w w' := by
  have HB0 : Hid (Blk (w.alloc (.cells (askRow k d m) 36)) w.heap.size (askRow k d m) 36) := Lib.hid (Blk.new w _ _)
  have HK0 : Hid (Keep Nb w (w.alloc (.cells (askRow k d m) 36))) := Lib.hid (Keep.alloc (Keep.refl _ _) _)
  simp only [askRow]
  go_enter Tryd.func5, Tryd.ntmps5
  go_upto_region 1 with fail
  have hx : w.alloc (.cells #[.int .u8 k, .int .u8 d, .int .i64 m] 36) = w.alloc (.cells (askRow k d m) 36) := rfl
  rw [hx]; clear hx
  generalize w.alloc (.cells (askRow k d m) 36) = w1 at HB0 HK0 ⊢
  go_wp2_with fail
  refine (awake_any w1).mono ?_
  rintro e w2 ⟨rfl, hk2⟩
  have HB2 := Lib.hid (HB0.out.keep hk2 id)
  have HK2 : Hid (Keep Nb w w2) := Lib.hid (HK0.out.trans hk2 (fun _ _ h => h))
  clear hk2 HB0 HK0
  generalize w.heap.size = p at HB2
  have c0 := HB2.out.cell 0 (u := .int .u8 k) rfl
  have c1 := HB2.out.cell 1 (u := .int .u8 d) rfl
  have c2 := HB2.out.cell 2 (u := .int .i64 m) rfl
  have lp := HB2.out.lt
  have HR : Hid (RAt (w2.alloc (.cells #[.string ⟨#[]⟩, .int .i64 0] 33)) w2.heap.size ⟨#[]⟩ 0) := Lib.hid (Blk.new w2 _ _)
  have HKR : Hid (Keep Nb w2 (w2.alloc (.cells #[.string ⟨#[]⟩, .int .i64 0] 33))) := Lib.hid (Keep.alloc (Keep.refl _ _) _)
  have HDO := Lib.hid (do_nil w2.heap.size k d m _ HR.out)
  simp only [askRow] at HDO
  go_wp2_with fail
  refine HDO.out.mono ?_
  rintro e w3 ⟨rfl, _, hk3⟩
  have HK3 : Hid (Keep Nb w w3) := Lib.hid ((HK2.out.trans HKR.out (fun _ _ h => h)).trans (Y := Ob w2.heap.size) hk3 (fun b hb h => by simp only [Ob] at h; have := HK2.out.size; omega))
  clear hk3 HDO
  go_wp2_with fail
  refine (nil_end _).mono ?_
  rintro e w4 ⟨rfl, hk4⟩
  have HK4 := Lib.hid (HK3.out.trans hk4 (fun _ _ h => h))
  clear hk4
  go_wp2_with fail
  refine (nil_at _).mono ?_
  rintro e w5 ⟨rfl, hk5⟩
  have HK5 := Lib.hid (HK4.out.trans hk5 (fun _ _ h => h))
  clear hk5
  go_wp2_with fail
  go_ret
  exact ⟨rfl, HK5.out⟩

end Go.Proofs.YtilnccjdbdcklaaDoor
