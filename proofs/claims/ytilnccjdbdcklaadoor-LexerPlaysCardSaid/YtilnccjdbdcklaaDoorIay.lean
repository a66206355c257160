/- strings.IndexAny at "\n;}", any text. -/
import Derived.Test.YtilnccjdbdcklaaDoorIax
import Derived.Lib.TrimUEq
import Derived.Lib.FieldsU
import Derived.Lib.OthersKept
namespace Go.Proofs.YtilnccjdbdcklaaDoor
set_option linter.unusedVariables false
set_option linter.unusedSimpArgs false
open Go.RowKit

def wds : List UInt8 := [10, 59, 125]
theorem wds_high {c : UInt8} (h : 128 ≤ c.toNat) : wds.contains c = false := by
  refine Bool.eq_false_iff.2 fun hc => ?_
  simp only [wds, List.contains_cons, Bool.or_eq_true, beq_iff_eq, List.contains_nil, or_false] at hc
  rcases hc with rfl | rfl | rfl | hc
  · simp at h
  · simp at h
  · simp at h
  · cases hc

theorem high_run (s : ByteArray) (i : Nat) (hi : i < s.size) (hx : 128 ≤ (s[i]).toNat) :
    1 ≤ (Utf8.decode s i).2 ∧ i + (Utf8.decode s i).2 ≤ s.size ∧ ∀ j, i ≤ j → j < i + (Utf8.decode s i).2 → ∀ b, s.data.toList[j]? = some b → 128 ≤ b.toNat := by
  have h1 := (decode_high s i hi hx).2
  have hc := Lib.decodeN_conts (s.data.toList.length - i) (s.data.toList.getD i 0).toNat (s.data.toList.getD (i + 1) 0).toNat (s.data.toList.getD (i + 2) 0).toNat (s.data.toList.getD (i + 3) 0).toNat
  rw [← Lib.decode_N] at hc
  have hl : s.size = s.data.toList.length := by rw [Array.length_toList]; rfl
  have hget : ∀ j b, s.data.toList[j]? = some b → s.data.toList.getD j 0 = b := fun j b h => by rw [List.getD_eq_getElem?_getD, h]; rfl
  refine ⟨h1, by omega, fun j hj1 hj2 b hb => ?_⟩
  have h4 : j = i ∨ j = i + 1 ∨ j = i + 2 ∨ j = i + 3 := by omega
  rcases h4 with rfl | rfl | rfl | rfl
  · have e : s.data.toList[j]? = some s[j] := Lib.data_getElem? s j hi
    rw [e] at hb
    rw [← Option.some.inj hb]; exact hx
  · have := (hc.1 (by omega)).1
    rw [hget _ _ hb] at this; omega
  · have := (hc.2.1 (by omega)).1
    rw [hget _ _ hb] at this; omega
  · have := (hc.2.2.1 (by omega)).1
    rw [hget _ _ hb] at this; omega
theorem noany_run (s : ByteArray) (i : Nat) (h : Lib.NoAny s.data.toList wds i) : ∀ k, (∀ j, i ≤ j → j < i + k → ∀ b, s.data.toList[j]? = some b → 128 ≤ b.toNat) → i + k ≤ s.size → Lib.NoAny s.data.toList wds (i + k)
  | 0, _, _ => h
  | k + 1, hk, hs => by
    have ih := noany_run s i h k (fun j h1 h2 => hk j h1 (by omega)) (by omega)
    have hlt : i + k < s.data.toList.length := by rw [Array.length_toList]; exact hs
    have e : s.data.toList[i + k]? = some s.data.toList[i + k] := List.getElem?_eq_getElem hlt
    exact ih.succ e (wds_high (hk (i + k) (by omega) (by omega) _ e))

set_option maxHeartbeats 2000000 in
set_option maxRecDepth 100000 in
theorem iany_short (s : ByteArray) (w : World) (h8 : s.size ≤ 8) :
    Calls Tryd.prog 39 #[.string s, .string ⟨#[10, 59, 125]⟩] w fun e w' => e = .returned (.int .i64 (Lib.indexAny s.data.toList wds)) ∧ Keep Nb w w' := by
  have HU := Lib.hid (useset_t (s.size : Int) w)
  rw [decide_eq_false (by omega)] at HU
  go_enter Tryd.func39, Tryd.ntmps39
  go_wp2_with fail
  refine HU.out.mono ?_
  rintro e w2 ⟨rfl, rfl⟩
  go_wp2_with fail
  have HP0 : Hid ((w2.iter s 0).heap[w2.heap.size]? = some (.stringIter s 0)) := Lib.hid (World.iter_heap _ _ _)
  have HK0 : Hid (Keep Nb w2 (w2.iter s 0)) := Lib.hid (Keep.alloc (Keep.refl _ _) _)
  obtain ⟨p, hp⟩ : ∃ p, p = w2.heap.size := ⟨_, rfl⟩
  rw [← hp] at HP0 ⊢
  have HPE := Lib.hid hp
  clear hp
  generalize w2.iter s 0 = w3 at HP0 HK0 ⊢
  go_loopg [9, 10] s.size (fun g _ _ wx => ∃ i : Nat, i + g = s.size ∧ Hid (wx.heap[p]? = some (.stringIter s i) ∧ Keep Nb w2 wx ∧ Lib.NoAny s.data.toList wds i))
  case atStart => exact ⟨0, by omega, Lib.hid ⟨HP0.out, HK0.out, Lib.NoAny.zero _ _⟩⟩
  case round =>
    clear HP0 HK0
    obtain ⟨i, hig, HR0⟩ := hrel
    cases gk with
    | zero =>
      obtain rfl : i = s.size := by omega
      have hnx := fun ty => Lib.run_next_end_at (P := Tryd.prog) wr p s s.size ty HR0.out.1 (by omega)
      go_wp2_with fail
      go_ret
      exact ⟨by rw [Lib.indexAny_none (by rw [← Lib.size_eq]; exact HR0.out.2.2)]; rfl, HR0.out.2.1⟩
    | succ g =>
      have hi : i < s.size := by omega
      have HIT : Hid (∀ pos, (wr.iterAt p s pos).heap[p]? = some (.stringIter s pos) ∧ Keep Nb w2 (wr.iterAt p s pos)) := Lib.hid (fun pos => ⟨Lib.iterAt_heap wr p s i pos HR0.out.1, (Keep.of_below (Lib.below_iterAt HR0.out.2.1.below (by have := HPE.out; omega) s pos)).mono (fun b hb h => by omega)⟩)
      by_cases h128 : (s[i]'hi).toNat < 128
      · have hnx := fun ty => Lib.run_next_ascii_at (P := Tryd.prog) wr p s i ty HR0.out.1 hi h128
        have Hx := Lib.hid (Lib.data_getElem? s i hi)
        generalize s[i]'hi = x at hnx Hx h128
        have HR : Hid (∀ wx : World, Calls Tryd.prog 50 #[.string ⟨#[10, 59, 125]⟩, .int .i32 (x.toNat : Int)] wx fun e w' => e = .returned (.int .i64 (Lib.indexByte wds x)) ∧ w' = wx) := Lib.hid (fun wx => by
          have h := irune_t ⟨#[10, 59, 125]⟩ (x.toNat : Int) wx (by omega) (by omega)
          rw [show ((x.toNat : Int)).toNat.toUInt8 = x by simp] at h
          exact h)
        have hcon := Lib.contains_iff_indexByte wds x
        cases hin : wds.contains x with
        | false =>
          rw [hin] at hcon
          have hlt : ¬ ((0 : Int) ≤ Lib.indexByte wds x) := of_decide_eq_false hcon.symm
          have HIN := Lib.hid hin
          clear hcon hin
          generalize Lib.indexByte wds x = v at HR hlt
          go_wp2_with fail
          refine (HR.out _).mono ?_
          rintro e w4 ⟨rfl, rfl⟩
          go_wp2_with fail
          go_roundg g
          case measure => omega
          case rel => exact ⟨i + 1, by omega, Lib.hid ⟨(HIT.out (i + 1)).1, (HIT.out (i + 1)).2, HR0.out.2.2.succ Hx.out HIN.out⟩⟩
        | true =>
          rw [hin] at hcon
          have hge : (0 : Int) ≤ Lib.indexByte wds x := of_decide_eq_true hcon.symm
          have HIN := Lib.hid hin
          clear hcon hin
          generalize Lib.indexByte wds x = v at HR hge
          go_wp2_with fail
          refine (HR.out _).mono ?_
          rintro e w4 ⟨rfl, rfl⟩
          go_wp2_with fail
          go_ret
          exact ⟨by rw [Lib.indexAny_hit HR0.out.2.2 Hx.out HIN.out]; rfl, (HIT.out (i + 1)).2⟩
      · have hnx := fun ty => Lib.run_next_any_at (P := Tryd.prog) wr p s i ty HR0.out.1 hi
        obtain ⟨k1, k2, k3⟩ := high_run s i hi (by omega)
        have HN2 := Lib.hid (noany_run s i HR0.out.2.2 _ k3 k2)
        have hr1 := (decode_high s i hi (by omega)).1
        have hr2 : (Utf8.decode s i).1 ≤ 1114111 := by rw [Lib.decode_at]; exact Lib.decodeN_rune_le _ _ _ _ _ (UInt8.toNat_lt _)
        clear k3 h128
        generalize (Utf8.decode s i).1 = r at hnx hr1 hr2
        generalize (Utf8.decode s i).2 = k at hnx k1 k2 HN2
        have HR := Lib.hid (fun wx => irune_high (r : Int) wx (by omega) (by omega))
        clear hr1 hr2
        go_wp2_with fail
        refine (HR.out _).mono ?_
        rintro e w4 ⟨rfl, hk4⟩
        have HR4 : Hid (w4.heap[p]? = some (.stringIter s (i + k)) ∧ Keep Nb w2 w4) := Lib.hid ⟨hk4.obj (HIT.out (i + k)).1 (fun h => h), (HIT.out (i + k)).2.trans hk4 (fun _ _ h => h)⟩
        clear hk4
        go_wp2_with fail
        go_roundg (g + 1 - k)
        case measure => omega
        case rel => exact ⟨i + k, by omega, Lib.hid ⟨HR4.out.1, HR4.out.2, HN2.out⟩⟩

theorem iany_t (s : ByteArray) (w : World) (hs : s.size < 4294967281) :
    Calls Tryd.prog 39 #[.string s, .string ⟨#[10, 59, 125]⟩] w fun e w' => e = .returned (.int .i64 (Lib.indexAny s.data.toList wds)) ∧ Keep Nb w w' := by
  by_cases h8 : s.size ≤ 8
  · exact iany_short s w h8
  · have hz : ((Tryd.prog.info? (lays153_ren.t 116)).map (fun i => (i.zero, i.size)) = some (some (.agg (Array.replicate 256 (.bool false))), 256)) := by kernel_rfl
    refine (Any.strings_IndexAny_long lays153 (zero_of_info hz).1 (zero_of_info hz).2 s ⟨#[10, 59, 125]⟩ w (by decide) (by omega) hs (by decide) (ascii_of (by decide))).mono ?_
    rintro e w' ⟨rfl, rfl⟩
    exact ⟨rfl, Keep.alloc (Keep.alloc (Keep.refl _ _) _) _⟩

end Go.Proofs.YtilnccjdbdcklaaDoor
