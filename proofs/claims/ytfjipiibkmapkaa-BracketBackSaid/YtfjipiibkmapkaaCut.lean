/- strings.Cut at ":]". The layout ahead of it was printed by the kit's own program lay-plain. -/
import Derived.Test.YtfjipiibkmapkaaNamed
import Derived.Shelf.Strings.Cut
import Derived.Shelf.LaysM
import Derived.Shelf.Strings.Shaped
namespace Go.Proofs.Ytfjipiibkmapkaa
set_option linter.unusedVariables false
set_option linter.unusedSimpArgs false
open Go.RowKit Go.Shelf

def laysM145_ren : Go.Shelf.Ren := ⟨fun | 145 => 41 | 220 => 43 | 219 => 45 | 217 => 46 | 225 => 47 | 224 => 48 | 267 => 49 | 266 => 50 | 314 => 51 | n => n, fun | 9 => 9 | 4 => 4 | 59 => 75 | 3 => 3 | 5 => 5 | 46 => 50 | 146 => 84 | 51 => 83 | n => n, fun | 1 => 0 | n => n⟩
theorem laysM145 : Go.Proofs.LaysM.n145 Try.prog laysM145_ren := {
  mixed := by kernel_rfl
  f145 := Try.func41.trans (congrArg some (by kernel_rfl))
  f217 := Try.func46.trans (congrArg some (by kernel_rfl))
  f219 := Try.func45.trans (congrArg some (by kernel_rfl))
  f220 := Try.func43.trans (congrArg some (by kernel_rfl))
  f224 := Try.func48.trans (congrArg some (by kernel_rfl))
  f225 := Try.func47.trans (congrArg some (by kernel_rfl))
  f266 := Try.func50.trans (congrArg some (by kernel_rfl))
  f267 := Try.func49.trans (congrArg some (by kernel_rfl))
  f314 := Try.func51.trans (congrArg some (by kernel_rfl))
  t3 := Try.underlying3
  a3 := Try.isAgg3
  z3 := Try.sizeOf3
  v3 := Try.zeroValue3
  t4 := Try.underlying4
  a4 := Try.isAgg4
  z4 := Try.sizeOf4
  v4 := Try.zeroValue4
  t5 := Try.underlying5
  a5 := Try.isAgg5
  z5 := Try.sizeOf5
  v5 := Try.zeroValue5
  t9 := Try.underlying9
  a9 := Try.isAgg9
  z9 := Try.sizeOf9
  v9 := Try.zeroValue9
  t46 := Try.underlying50
  a46 := Try.isAgg50
  z46 := Try.sizeOf50
  v46 := Try.zeroValue50
  t51 := Try.underlying83
  a51 := Try.isAgg83
  z51 := Try.sizeOf83
  v51 := Try.zeroValue83
  t59 := Try.underlying75
  a59 := Try.isAgg75
  z59 := Try.sizeOf75
  v59 := Try.zeroValue75
  t146 := Try.underlying84
  a146 := Try.isAgg84
  z146 := Try.sizeOf84
  v146 := Try.zeroValue84
  g1 := by kernel_rfl
  i3 := by kernel_rfl
  i4 := by kernel_rfl
  i5 := by kernel_rfl
  i9 := by kernel_rfl
  i46 := by kernel_rfl
  i51 := by kernel_rfl
  i59 := by kernel_rfl
  i146 := by kernel_rfl
  m1 := by kernel_rfl
  s1_3 := fun w h => Go.Proofs.cell_of_shapedOpen_int (zero := #[.int .i64 0]) (t := 3) h (of_decide_eq_true (by kernel_rfl)) (by kernel_rfl) rfl (by kernel_rfl) (by kernel_rfl) Try.underlying3 }
def lays145_ren : Go.Shelf.Ren := ⟨fun | 145 => 41 | 220 => 43 | 219 => 45 | 217 => 46 | 225 => 47 | 224 => 48 | 267 => 49 | 266 => 50 | 314 => 51 | n => n, fun | 9 => 9 | 4 => 4 | 59 => 75 | 3 => 3 | 5 => 5 | 46 => 50 | 146 => 84 | 51 => 83 | n => n, fun | 1 => 0 | n => n⟩
theorem lays145 : Go.Proofs.Lays.n145 Try.prog lays145_ren := {
  mixed := by kernel_rfl
  f145 := Try.func41.trans (congrArg some (by kernel_rfl))
  f217 := Try.func46.trans (congrArg some (by kernel_rfl))
  f219 := Try.func45.trans (congrArg some (by kernel_rfl))
  f220 := Try.func43.trans (congrArg some (by kernel_rfl))
  f224 := Try.func48.trans (congrArg some (by kernel_rfl))
  f225 := Try.func47.trans (congrArg some (by kernel_rfl))
  f266 := Try.func50.trans (congrArg some (by kernel_rfl))
  f267 := Try.func49.trans (congrArg some (by kernel_rfl))
  f314 := Try.func51.trans (congrArg some (by kernel_rfl))
  t3 := Try.underlying3
  a3 := Try.isAgg3
  z3 := Try.sizeOf3
  v3 := Try.zeroValue3
  t4 := Try.underlying4
  a4 := Try.isAgg4
  z4 := Try.sizeOf4
  v4 := Try.zeroValue4
  t5 := Try.underlying5
  a5 := Try.isAgg5
  z5 := Try.sizeOf5
  v5 := Try.zeroValue5
  t9 := Try.underlying9
  a9 := Try.isAgg9
  z9 := Try.sizeOf9
  v9 := Try.zeroValue9
  t46 := Try.underlying50
  a46 := Try.isAgg50
  z46 := Try.sizeOf50
  v46 := Try.zeroValue50
  t51 := Try.underlying83
  a51 := Try.isAgg83
  z51 := Try.sizeOf83
  v51 := Try.zeroValue83
  t59 := Try.underlying75
  a59 := Try.isAgg75
  z59 := Try.sizeOf75
  v59 := Try.zeroValue75
  t146 := Try.underlying84
  a146 := Try.isAgg84
  z146 := Try.sizeOf84
  v146 := Try.zeroValue84
  g1 := by kernel_rfl }

/-- The library's own variable that bounds what is looked for by hand holds some number. -/
def Laid0 (w : World) : Prop := ∃ m, w.cell? ⟨0, 0, none⟩ = some (.int .i64 m)
theorem laid0_of (w : World) (h : w.ShapedOpen Try.prog) : Laid0 w := laysM145.s1_3 w h
theorem Laid0.keep {X : Nat → Prop} {w w' : World} (h : Laid0 w) (hk : Keep X w w') (hx : ¬ X 0) : Laid0 w' := by
  obtain ⟨m, hm⟩ := h
  refine ⟨m, ?_⟩
  rw [World.cell?_of_block (w := w) (hk.block 0 (cell_lt hm) hx)]
  exact hm
theorem Laid0.pos {w : World} (h : Laid0 w) : 0 < w.heap.size := by
  obtain ⟨m, hm⟩ := h
  exact cell_lt hm

theorem preB_prefix (t l : List UInt8) : t.isPrefixOf l = preB t l := by
  rw [Bool.eq_iff_iff, List.isPrefixOf_iff_prefix, List.prefix_iff_eq_take, preB, beq_iff_eq]
  exact eq_comm
theorem index_cutF : ∀ (l : List UInt8), Lib.index l [58, 93] = match cutF l with | some i => (i : Int) | none => -1
  | [] => rfl
  | b :: l => by
    have ih := index_cutF l
    unfold Lib.index cutF
    rw [preB_prefix]
    by_cases h : preB [58, 93] (b :: l) = true
    · simp [h]
    · rw [if_neg h, if_neg h, ih]
      cases cutF l with
      | none => rfl
      | some i =>
        have : ¬ ((i : Int) == -1) = true := by simp
        simp only [Option.map_some, this]
        simp

theorem cut_some (s : ByteArray) (i : Nat) (hi : cutF s.toList = some i) (hs : s.size < 4294967281) (w : World) (hm : Laid0 w) :
    Calls Try.prog 41 #[.string s, .string ⟨#[58, 93]⟩] w fun e w' => (∃ (N : ByteArray) (X : Value), N.toList = s.toList.take i ∧ e = .returned (.tuple #[.string N, X, .bool true])) ∧ Keep Nb w w' := by
  obtain ⟨m, hm⟩ := hm
  have hx := index_cutF s.toList
  rw [hi] at hx
  simp only [] at hx
  refine (Any.strings_Cut lays145 s ⟨#[58, 93]⟩ m w hs hm).mono ?_
  rintro e w' ⟨rfl, n, rfl⟩
  have hc : Lib.cut s.data.toList [58, 93] = (s.toList.take i, s.data.toList.drop (i + 2), true) := by
    rw [← ByteArray.toList_eq]
    unfold Lib.cut
    rw [hx, if_pos (by omega)]
    simp
  rw [show (⟨#[58, 93]⟩ : ByteArray).data.toList = [58, 93] from rfl, hc]
  exact ⟨⟨⟨(s.toList.take i).toArray⟩, _, by rw [ByteArray.toList_eq (⟨_⟩ : ByteArray)], rfl⟩, (Keep.refl _ _).drewN n⟩
theorem cut_none (s : ByteArray) (hi : cutF s.toList = none) (hs : s.size < 4294967281) (w : World) (hm : Laid0 w) :
    Calls Try.prog 41 #[.string s, .string ⟨#[58, 93]⟩] w fun e w' => (∃ (X Y : Value), e = .returned (.tuple #[X, Y, .bool false])) ∧ Keep Nb w w' := by
  obtain ⟨m, hm⟩ := hm
  have hx := index_cutF s.toList
  rw [hi] at hx
  simp only [] at hx
  refine (Any.strings_Cut lays145 s ⟨#[58, 93]⟩ m w hs hm).mono ?_
  rintro e w' ⟨rfl, n, rfl⟩
  have hc : Lib.cut s.data.toList [58, 93] = (s.data.toList, [], false) := by
    unfold Lib.cut
    rw [← ByteArray.toList_eq, hx, if_neg (by omega)]
  rw [show (⟨#[58, 93]⟩ : ByteArray).data.toList = [58, 93] from rfl, hc]
  exact ⟨⟨_, _, rfl⟩, (Keep.refl _ _).drewN n⟩

end Go.Proofs.Ytfjipiibkmapkaa
