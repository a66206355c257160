/- strings.Builder inside another block: copyCheck, WriteString, Len, String. -/
import Derived.Test.YtnjanpejmfkopaaDoorBase
import Derived.Lib.FrozenHead
import Derived.Lib.FrozenHead2
import Derived.Lib.Builder
import Derived.Lib.AppendStr
import Derived.Lib.UnsafeStr
import Derived.Lib.Strings
import Derived.Lib.Slices
import Derived.Lib.Walk
import Derived.Laws.Externs
import Derived.Laws.IdiomCopy
import Derived.Laws.BitsLemmas
import Derived.Below
import Derived.Shelf.RegionOpenPlain
namespace Go.Proofs.YtnjanpejmfkopaaDoor
set_option linter.unusedVariables false
set_option linter.unusedSimpArgs false
open Go.RowKit P8

theorem sizeB : (Tryd.prog.info? 49).map (·.size) = some 2 := by kernel_rfl
theorem infoByte : (Tryd.prog.info? 5).map (fun i => (i.zero, i.size, i.bytes)) = some (some (.int .u8 0), 1, 1) := by kernel_rfl
theorem cellsByte : Tryd.prog.cellsOf 5 = 1 := by kernel_rfl

/-- A Builder lies at o of a block of so many cells of a type. -/
def LiesB (t : TypeId) (n o : Nat) : Prop := o + 1 < n ∧ liesAt Tryd.prog Tryd.prog.depth t (n / Tryd.prog.cellsOf t) o 49 1 = true ∧ t ≠ 5

/-- A Builder's two cells in a block known whole: what it holds. -/
structure BoAt (B b o : Nat) (cs : Array Value) (t : TypeId) (q v : Value) (bs : List Value) (w : World) : Prop where
  blk : Blk w b cs t
  c0 : cs[o]? = some q
  c1 : cs[o + 1]? = some v
  ptr : q = .pointer none ∨ q = .pointer (some ⟨b, o, none⟩)
  own : w.ownsRowF B 5 1 v bs.length bs
  ne : v.ownBlock ≠ some b
  low : B ≤ b

theorem Keep.any {X : Nat → Prop} {w w' : World} (h : Keep Nb w w') : Keep X w w' := h.mono fun _ _ h => h.elim

/-- From base on nothing changes but p's block and blocks of bytes. -/
def KeepU (base p : Nat) (w w' : World) : Prop := Keep (fun k => base ≤ k ∧ (k = p ∨ ∃ cs fr, w.heap[k]? = some (.cells cs 5 fr))) w w'
theorem Keep.u {w w' : World} (h : Keep Nb w w') (base p : Nat) : KeepU base p w w' := h.any
theorem KeepU.trans {base p : Nat} {w w1 w2 : World} (h : KeepU base p w w1) (k : KeepU base p w1 w2) : KeepU base p w w2 :=
  Keep.trans h k fun b hb hx => by
    refine Classical.byContradiction fun hn => ?_
    have e := h.block b hb hn
    rcases hx with ⟨h1, rfl | ⟨cs, fr, h2⟩⟩
    · exact hn ⟨h1, .inl rfl⟩
    · exact hn ⟨h1, .inr ⟨cs, fr, e ▸ h2⟩⟩
theorem KeepU.low {base p : Nat} {w w' : World} (h : KeepU base p w w') : Keep (fun k => base ≤ k) w w' := Keep.mono h fun _ _ e => e.1
theorem KeepU.blk {base p : Nat} {w w' : World} (h : KeepU base p w w') {f : Nat} {cs : Array Value} {t : TypeId} (hb : Blk w f cs t) (hf : f ≠ p) (ht : t ≠ 5) : Blk w' f cs t :=
  hb.keep h fun e => by
    rcases e.2 with e | ⟨cs', fr, e⟩
    · exact hf e
    · unfold Blk at hb
      rw [hb] at e
      simp only [Option.some.injEq, Obj.cells.injEq] at e
      exact ht e.2.1
theorem KeepU.ob {base p : Nat} {w w' : World} (h : Keep (Ob p) w w') (hp : base ≤ p) : KeepU base p w w' := Keep.mono h fun k _ e => by
  simp only [Ob] at e; subst e; exact ⟨hp, .inl rfl⟩

/-- From base on nothing changes but blocks of bytes. -/
def VX (base : Nat) (w : World) : Nat → Prop := fun k => base ≤ k ∧ ∃ cs fr, w.heap[k]? = some (.cells cs 5 fr)
def KeepV (base : Nat) (w w' : World) : Prop := Keep (VX base w) w w'
theorem KeepV.low {base : Nat} {w w' : World} (h : KeepV base w w') : Keep (fun k => base ≤ k) w w' := Keep.mono h fun _ _ e => e.1
theorem Keep.v {w w' : World} (h : Keep Nb w w') (base : Nat) : KeepV base w w' := h.any
theorem Blk.notV {w : World} {b : Nat} {cs : Array Value} {t : TypeId} (hb : Blk w b cs t) (ht : t ≠ 5) (base : Nat) : ¬ VX base w b := fun ⟨_, cs', fr, e⟩ => by
  unfold Blk at hb
  rw [hb] at e
  simp only [Option.some.injEq, Obj.cells.injEq] at e
  exact ht e.2.1
theorem keep_freeze (w : World) (g n : Nat) : Keep (Ob g) w (w.freeze ⟨g, 0, none⟩ n) := by
  unfold World.freeze
  split
  · exact Keep.refl _ _
  · exact ⟨rfl, rfl, rfl, by simp, fun k hk hx => by
      simp only [Array.getElem?_modify]
      rw [if_neg (fun e => hx (by unfold Ob; exact e.symm))]⟩

theorem BoAt.keep {X : Nat → Prop} {B b o : Nat} {cs : Array Value} {t : TypeId} {q v : Value} {bs : List Value} {w w' : World} (h : BoAt B b o cs t q v bs w) (hk : Keep X w w') (hb : ¬ X b) (hx : ∀ g, v.ownBlock = some g → ¬ X g) : BoAt B b o cs t q v bs w' :=
  ⟨h.blk.keep hk hb, h.c0, h.c1, h.ptr, by
    refine ⟨h.own.1, ?_⟩
    rcases h.own.2 with h2 | ⟨g, cap, cur, fz, rfl, hb, hg, r⟩
    · exact .inl h2
    · exact .inr ⟨g, cap, cur, fz, rfl, hb, hk.obj hg (hx g rfl), r⟩, h.ne, h.low⟩

theorem Blk.shape {w : World} {b : Nat} {cs : Array Value} {t : TypeId} (h : Blk w b cs t) : w.shape? b = some (t, cs.size) := by
  unfold Blk at h
  simp [World.shape?, h]

set_option maxHeartbeats 1000000 in
set_option maxRecDepth 100000 in
theorem copyCheckO_used (b o : Nat) (w : World) (h0 : w.cell? ⟨b, o, none⟩ = some (.pointer (some ⟨b, o, none⟩))) :
    Calls Tryd.prog 47 #[.pointer (some ⟨b, o, none⟩)] w fun e w' => e = .returned (.tuple #[]) ∧ w' = w := by
  obtain ⟨j, hj, _⟩ := Option.map_eq_some_iff.1 sizeB
  go_enter Tryd.func47, Tryd.ntmps47
  go_wp2
  rw [Lib.run_neq_ptr_same w _ Tryd.underlying46 hj]
  go_wp2
  go_end0
  exact ⟨rfl, rfl⟩

set_option maxHeartbeats 1000000 in
set_option maxRecDepth 100000 in
theorem copyCheckO_fresh (b o n : Nat) (t : TypeId) (w : World) (h0 : w.cell? ⟨b, o, none⟩ = some (.pointer none)) (hsh : w.shape? b = some (t, n)) (hfz : w.frozen? ⟨b, o, none⟩ = false) (hl : LiesB t n o) :
    Calls Tryd.prog 47 #[.pointer (some ⟨b, o, none⟩)] w fun e w' => e = .returned (.tuple #[]) ∧ w' = w.setCell ⟨b, o, none⟩ (.pointer (some ⟨b, o, none⟩)) := by
  obtain ⟨j, hj, hjs⟩ := Option.map_eq_some_iff.1 sizeB
  have hT : ∀ W : World, W.shape? b = some (t, n) → (convert 46 81 (.pointer (some ⟨b, o, none⟩))).run Tryd.prog W = .ok (.pointer (some ⟨b, o, none⟩)) W := fun W hW =>
    Lib.run_to_unsafe (w := W) ⟨b, o, none⟩ Tryd.underlying46 Tryd.underlying81 hj (by rw [hjs]; decide) hW (by have := hl.1; show o < n; omega)
  have hF : ∀ W : World, W.shape? b = some (t, n) → (convert 81 46 (.pointer (some ⟨b, o, none⟩))).run Tryd.prog W = .ok (.pointer (some ⟨b, o, none⟩)) W := fun W hW =>
    Lib.run_from_unsafe (w := W) ⟨b, o, none⟩ Tryd.underlying81 Tryd.underlying46 hj hW hl.2.1
  have HT := Lib.hid hT
  have HF := Lib.hid hF
  have HS := Lib.hid hsh
  clear hT hF hsh hl
  go_enter Tryd.func47, Tryd.ntmps47
  go_wp2
  rw [HT.out _ HS.out]
  simp only [Result.andThen]
  rw [Oper.upon_value]
  go_wp2
  rw [run_callFunc_extern Tryd.func53 (by kernel_rfl) (by kernel_rfl) (by kernel_rfl) (e := Extern.AbiNoEscape.same) (by kernel_rfl)]
  rw [Lib.run_noEscape]
  simp only [Result.andThen]
  rw [Oper.upon_value]
  go_wp2
  rw [HF.out _ HS.out]
  simp only [Result.andThen]
  rw [Oper.upon_value]
  go_wp2
  go_end0
  exact ⟨rfl, rfl⟩

theorem set_set_self {cs : Array Value} {o : Nat} {q : Value} (h : cs[o]? = some q) : cs.setIfInBounds o q = cs := by
  apply Array.ext_getElem?
  intro i
  rw [Array.getElem?_setIfInBounds]
  split
  · rename_i e; subst e; split
    · exact h.symm
    · rename_i hn; rw [Array.getElem?_eq_none (by omega)]
  · rfl

theorem copyCheckO_any (B b o : Nat) (cs : Array Value) (t : TypeId) (q v : Value) (bs : List Value) (w : World) (h : BoAt B b o cs t q v bs w) (hl : LiesB t cs.size o) :
    Calls Tryd.prog 47 #[.pointer (some ⟨b, o, none⟩)] w fun e w' => e = .returned (.tuple #[]) ∧ BoAt B b o (cs.setIfInBounds o (.pointer (some ⟨b, o, none⟩))) t (.pointer (some ⟨b, o, none⟩)) v bs w' ∧ Below B w w' ∧ Keep (Ob b) w w' := by
  have c0 : w.cell? ⟨b, o, none⟩ = some q := h.blk.cell o h.c0
  have ho : o < cs.size := by have := hl.1; omega
  rcases h.ptr with hp | hp
  · subst hp
    refine (copyCheckO_fresh b o cs.size t w c0 h.blk.shape (h.blk.frozen o) hl).mono ?_
    rintro e w' ⟨rfl, rfl⟩
    refine ⟨rfl, ⟨h.blk.set o _, by simp [ho], by rw [Array.getElem?_setIfInBounds_ne (by omega)]; exact h.c1, .inr rfl, ?_, h.ne, h.low⟩, (Below.refl B w).setCell (p := ⟨b, o, none⟩) h.low _, Keep.setOb _ _ _ _⟩
    exact h.own.kept (row := some b) ⟨rfl, rfl, rfl, by simp [World.setCell], fun k _ hk => Below.heap_setCell _ _ _ _ (fun e => hk (by simp [e]))⟩ (Or.inr h.ne)
  · subst hp
    refine (copyCheckO_used b o w c0).mono ?_
    rintro e w' ⟨rfl, rfl⟩
    rw [set_set_self h.c0]
    exact ⟨rfl, h, Below.refl B _, Keep.refl _ _⟩

set_option maxHeartbeats 2000000 in
set_option maxRecDepth 100000 in
theorem writeStringO_any (B b o : Nat) (cs : Array Value) (t : TypeId) (q v : Value) (bs : List Value) (s : ByteArray) (w : World) (h : BoAt B b o cs t q v bs w) (hl : LiesB t cs.size o) (hlen : bs.length + s.size ≤ 140737488355328) (hBw : B ≤ w.heap.size) :
    Calls Tryd.prog 32 #[.pointer (some ⟨b, o, none⟩), .string s] w fun e w' => e = .returned (.tuple #[.int .i64 s.size, .nilIface]) ∧ ∃ v', BoAt B b o ((cs.setIfInBounds o (.pointer (some ⟨b, o, none⟩))).setIfInBounds (o + 1) v') t (.pointer (some ⟨b, o, none⟩)) v' (bs ++ Lib.strCells s) w' ∧ KeepU B b w w' := by
  obtain ⟨i0, hi, hz0, hz1, hz2⟩ := info_parts infoByte
  have HL := Lib.hid hl
  have HH := Lib.hid h
  clear h hl
  go_enter Tryd.func32, Tryd.ntmps32
  go_wp2_with fail
  refine (copyCheckO_any B b o cs t q v bs _ HH.out HL.out).mono ?_
  rintro e w1 ⟨rfl, h1, hb1, hk1⟩
  have ho : o + 1 < cs.size := HL.out.1
  have c1 : w1.cell? ⟨b, o + 1, none⟩ = some v := h1.blk.cell (o + 1) h1.c1
  have hlt := h1.blk.lt
  have HO := Lib.hid ho
  clear ho
  have HC := Lib.hid h1
  have HB := Lib.hid hb1
  have HK := Lib.hid hk1
  clear h1 hb1 hk1
  go_wp2_with (at_builtin; refine Lib.wpList_append_own_stringF _ rfl _ _ 47 9 rfl B 5 i0 Tryd.underlying47 Tryd.underlying9 hi hz0 hz1 hz2 _ _ _ rfl HC.out.own s rfl ?c3 ?c4 ?c5 ?_)
  case c3 => unfold maxLen; omega
  case c4 => omega
  case c5 => have := HB.out.size; omega
  intro v' w2 hown' hgrow _
  have hb2 : Blk w2 b (cs.setIfInBounds o (.pointer (some ⟨b, o, none⟩))) t := by
    unfold Blk
    rw [hgrow.block b hlt (fun e => HC.out.ne e.symm)]
    exact HC.out.blk
  have hs2 : b < w2.heap.size := hb2.lt
  have f1 : w2.frozen? ⟨b, o + 1, none⟩ = false := hb2.frozen (o + 1)
  have d1 : w2.cell? ⟨b, o + 1, none⟩ = some v := hb2.cell (o + 1) HC.out.c1
  have hne' : v'.ownBlock ≠ some b := Lib.ownBlock_neF hown' hb2 HL.out.2.2
  have HOW := Lib.hid hown'
  have HNE := Lib.hid hne'
  have HG := Lib.hid hgrow
  have hcapv : ∃ ao n cap, v' = .slice ao n cap := by
    rcases hown'.2 with ⟨hv, _⟩ | ⟨g, cap, cur, fz, hv, _⟩
    · exact ⟨_, _, _, hv⟩
    · exact ⟨_, _, _, hv⟩
  obtain ⟨ao, n', cap, rfl⟩ := hcapv
  clear hown' hne' hgrow
  go_wp2
  go_ret2
  refine ⟨rfl, _, ⟨hb2.set (o + 1) _, by rw [Array.getElem?_setIfInBounds_ne (by omega)]; exact HC.out.c0, by simp [HO.out], .inr rfl, ?_, HNE.out, HC.out.low⟩, ?_⟩
  · have := HOW.out.kept (row := some b) (w' := w2.setCell ⟨b, o + 1, none⟩ (.slice ao n' cap)) ⟨rfl, rfl, rfl, by simp [World.setCell], fun k _ hk => Below.heap_setCell _ _ _ _ (fun e => hk (by simp [e]))⟩ (Or.inr HNE.out)
    simpa [Lib.strCells_length] using this
  · have hk : KeepU B b w1 w2 := (Keep.of_grown HG.out).mono (fun k hk e => by
      rcases HC.out.own.2 with ⟨hv, _⟩ | ⟨g, cap, cur, fz, hv, hB, hg, _⟩
      · rw [hv] at e; simp [Value.ownBlock] at e
      · rw [hv] at e
        simp only [Value.ownBlock, Option.some.injEq] at e
        subst e
        exact ⟨hB, .inr ⟨_, _, hg⟩⟩)
    exact (KeepU.ob HK.out HC.out.low).trans (hk.trans (KeepU.ob (Keep.setOb w2 b (o + 1) _) HC.out.low))

set_option maxHeartbeats 1000000 in
set_option maxRecDepth 100000 in
theorem stringO_some (B b o : Nat) (cs : Array Value) (t : TypeId) (q v : Value) (l : List UInt8) (w : World) (h : BoAt B b o cs t q v (Lib.byteCells l) w) (h0 : l ≠ []) :
    Calls Tryd.prog 34 #[.pointer (some ⟨b, o, none⟩)] w fun e w' => e = .returned (.string ⟨l.toArray⟩) ∧ KeepV B w w' := by
  obtain ⟨hbk, _, hc1, _, hown, hne, hB⟩ := h
  have hl0 : l.length ≠ 0 := by simpa using h0
  rw [Lib.byteCells_length] at hown
  obtain ⟨g, cap, cur, fz, rfl, hbg, hg, hfz, hnc, hcm, hcs, htake⟩ : ∃ g cap cur fz, v = .slice (some ⟨g, 0, none⟩) l.length cap ∧ B ≤ g ∧ w.heap[g]? = some (.cells cur 5 fz) ∧ fz.2 ≤ l.length * 1 ∧ l.length ≤ cap ∧ cap ≤ maxLen ∧ cur.size = cap * 1 ∧ cur.toList.take (l.length * 1) = Lib.byteCells l := by
    rcases hown.2 with ⟨_, hz⟩ | ⟨g, cap, cur, fz, hv, r⟩
    · exact absurd hz hl0
    · exact ⟨g, cap, cur, fz, hv, r⟩
  have c1 : w.drew.cell? ⟨b, o + 1, none⟩ = some (.slice (some ⟨g, 0, none⟩) l.length cap) := hbk.drew.cell (o + 1) hc1
  have hlt := hbk.lt
  have hSD : (Builtin.unsafeSliceData_ #[47] 76 #[.slice (some ⟨g, 0, none⟩) l.length cap]).run Tryd.prog w.drew = .ok (.pointer (some ⟨g, 0, none⟩)) w.drew :=
    Lib.run_unsafeSliceData_row _ _ _ _ _ _ (by omega)
  have hUS : (Builtin.unsafeString_ #[76, 3] 9 #[.pointer (some ⟨g, 0, none⟩), .int .i64 l.length]).run Tryd.prog w.drew = .ok (.string ⟨l.toArray⟩) (w.drew.freeze ⟨g, 0, none⟩ l.length) := by
    refine Lib.run_unsafeString_row w.drew 76 3 9 5 Tryd.underlying76 cellsByte g cur.size (by have hg' : w.drew.heap[g]? = some (.cells cur 5 fz) := hg; simp [World.shape?, hg']) l h0 (by omega) (by unfold maxLen at hcm; omega) ?_
    intro j x hx
    exact hown.cells (g := g) rfl j (.int .u8 x.toNat) (by simp [Lib.byteCells, hx])
  have hkf : KeepV B w (w.drew.freeze ⟨g, 0, none⟩ l.length) := Keep.trans (Keep.refl _ w).drew (keep_freeze w.drew g l.length) (fun b _ e => by
    simp only [Ob] at e; subst e; exact ⟨hbg, _, _, hg⟩)
  have HKF := Lib.hid hkf
  clear hkf hbk hc1 hB
  go_enter Tryd.func34, Tryd.ntmps34
  go_wp2
  have mixed : Tryd.prog.follows .mixedOrders = true := by kernel_rfl
  go_region_o
  all_goals (go_wp2; go_ret; exact ⟨rfl, HKF.out⟩)

set_option maxHeartbeats 2000000 in
set_option maxRecDepth 100000 in
theorem stringO_nil (B b o : Nat) (cs : Array Value) (t : TypeId) (w : World) (hBw : B ≤ w.heap.size) (hbk : Blk w b cs t) (hc1 : cs[o + 1]? = some (.slice none 0 0)) :
    Calls Tryd.prog 34 #[.pointer (some ⟨b, o, none⟩)] w fun e w' => e = .returned (.string ⟨#[]⟩) ∧ KeepV B w w' := by
  have hUS : ∀ (W : World) (q : Option Addr), (Builtin.unsafeString_ #[76, 3] 9 #[.pointer q, .int .i64 0]).run Tryd.prog W = .ok (.string .empty) W := fun W q => Lib.run_unsafeString_none W _ _ _ q
  have hlt := hbk.lt
  have c1 : w.drew.cell? ⟨b, o + 1, none⟩ = some (.slice none 0 0) := hbk.drew.cell (o + 1) hc1
  have hSD : (Builtin.unsafeSliceData_ #[47] 76 #[.slice none 0 0]).run Tryd.prog w.drew = .ok (.pointer none) w.drew := rfl
  go_enter Tryd.func34, Tryd.ntmps34
  go_wp2
  have mixed : Tryd.prog.follows .mixedOrders = true := by kernel_rfl
  go_region_o
  all_goals (go_wp2; go_ret; exact ⟨rfl, (Keep.refl Nb w).drew.v B⟩)

set_option maxHeartbeats 2000000 in
set_option maxRecDepth 100000 in
theorem stringO_noroom (B b o : Nat) (cs : Array Value) (t : TypeId) (g : Nat) (cur : Array Value) (fz : Nat × Nat) (w : World) (hBw : B ≤ w.heap.size) (hbk : Blk w b cs t) (hc1 : cs[o + 1]? = some (.slice (some ⟨g, 0, none⟩) 0 0)) (hg : w.heap[g]? = some (.cells cur 5 fz)) :
    Calls Tryd.prog 34 #[.pointer (some ⟨b, o, none⟩)] w fun e w' => e = .returned (.string ⟨#[]⟩) ∧ KeepV B w w' := by
  have hUS : ∀ (W : World) (q : Option Addr), (Builtin.unsafeString_ #[76, 3] 9 #[.pointer q, .int .i64 0]).run Tryd.prog W = .ok (.string .empty) W := fun W q => Lib.run_unsafeString_none W _ _ _ q
  have hlt := hbk.lt
  have c1 : w.drew.cell? ⟨b, o + 1, none⟩ = some (.slice (some ⟨g, 0, none⟩) 0 0) := hbk.drew.cell (o + 1) hc1
  have hSD : (Builtin.unsafeSliceData_ #[47] 76 #[.slice (some ⟨g, 0, none⟩) 0 0]).run Tryd.prog w.drew = .ok (.pointer (some ⟨w.drew.heap.size, 0, none⟩)) (w.drew.alloc (.view ⟨g, 0, none⟩ 5)) :=
    Lib.run_unsafeSliceData_zero w.drew _ _ 5 Tryd.underlying76 ⟨g, 0, none⟩ 0 (5, cur.size) (by have hg' : w.drew.heap[g]? = some (.cells cur 5 fz) := hg; simp [World.shape?, hg'])
  have c2 : (w.drew.alloc (.view ⟨g, 0, none⟩ 5)).cell? ⟨b, o + 1, none⟩ = some (.slice (some ⟨g, 0, none⟩) 0 0) := (hbk.drew.alloc _).cell (o + 1) hc1
  have c3 : (w.alloc (.view ⟨g, 0, none⟩ 5)).drew.cell? ⟨b, o + 1, none⟩ = some (.slice (some ⟨g, 0, none⟩) 0 0) := c2
  have c0 : w.cell? ⟨b, o + 1, none⟩ = some (.slice (some ⟨g, 0, none⟩) 0 0) := c1
  clear hbk hc1
  go_enter Tryd.func34, Tryd.ntmps34
  go_wp2
  have mixed : Tryd.prog.follows .mixedOrders = true := by kernel_rfl
  go_region_o
  all_goals (go_wp2; go_ret; exact ⟨rfl, (((Keep.refl Nb w).drew).alloc _).v B⟩)

set_option maxHeartbeats 2000000 in
set_option maxRecDepth 100000 in
theorem stringO_room (B b o : Nat) (cs : Array Value) (t : TypeId) (g cap : Nat) (hc0 : cap ≠ 0) (w : World) (hBw : B ≤ w.heap.size) (hbk : Blk w b cs t) (hc1 : cs[o + 1]? = some (.slice (some ⟨g, 0, none⟩) 0 cap)) :
    Calls Tryd.prog 34 #[.pointer (some ⟨b, o, none⟩)] w fun e w' => e = .returned (.string ⟨#[]⟩) ∧ KeepV B w w' := by
  have hUS : ∀ (W : World) (q : Option Addr), (Builtin.unsafeString_ #[76, 3] 9 #[.pointer q, .int .i64 0]).run Tryd.prog W = .ok (.string .empty) W := fun W q => Lib.run_unsafeString_none W _ _ _ q
  have hlt := hbk.lt
  have c1 : w.drew.cell? ⟨b, o + 1, none⟩ = some (.slice (some ⟨g, 0, none⟩) 0 cap) := hbk.drew.cell (o + 1) hc1
  have hSD : (Builtin.unsafeSliceData_ #[47] 76 #[.slice (some ⟨g, 0, none⟩) 0 cap]).run Tryd.prog w.drew = .ok (.pointer (some ⟨g, 0, none⟩)) w.drew :=
    Lib.run_unsafeSliceData_row _ _ _ _ _ _ hc0
  clear hc0 hbk hc1
  go_enter Tryd.func34, Tryd.ntmps34
  go_wp2
  have mixed : Tryd.prog.follows .mixedOrders = true := by kernel_rfl
  go_region_o
  all_goals (go_wp2; go_ret; exact ⟨rfl, (Keep.refl Nb w).drew.v B⟩)

theorem stringO_any (B b o : Nat) (cs : Array Value) (t : TypeId) (q v : Value) (l : List UInt8) (w : World) (h : BoAt B b o cs t q v (Lib.byteCells l) w) (hBw : B ≤ w.heap.size) :
    Calls Tryd.prog 34 #[.pointer (some ⟨b, o, none⟩)] w fun e w' => e = .returned (.string ⟨l.toArray⟩) ∧ KeepV B w w' := by
  cases l with
  | cons x r => exact stringO_some B b o cs t q v (x :: r) w h (by simp)
  | nil =>
    obtain ⟨hbk, _, hc1, _, hown, hne, hB⟩ := h
    rcases hown.2 with ⟨rfl, _⟩ | ⟨g, cap, cur, fz, rfl, hbg, hg, _, _, _, _, _⟩
    · exact stringO_nil B b o cs t w hBw hbk hc1
    · by_cases hc0 : cap = 0
      · subst hc0
        exact stringO_noroom B b o cs t g cur fz w hBw hbk hc1 hg
      · exact stringO_room B b o cs t g cap hc0 w hBw hbk hc1

end Go.Proofs.YtnjanpejmfkopaaDoor
