/- Put of the program, in one; parts as the program has them. -/
import Derived.Test.YtkidjbfapldmbaaPp
namespace Go.Proofs.Ytkidjbfapldmbaa
set_option linter.unusedVariables false
set_option linter.unusedSimpArgs false
open Go.RowKit P8

theorem right_formed {N : Nd} {ps : List (Int × ByteArray)} {nth : Int} {T : ByteArray} (h : rightB N ps nth T = true) : formedT N = true ∧ T.size ≤ 600 ∧ 0 ≤ nth := by
  unfold rightB at h
  simp only [Bool.and_eq_true, decide_eq_true_eq] at h
  exact ⟨h.2.1.1, h.2.1.2, h.2.2⟩
/-- What Put answers. -/
noncomputable def runV (N : Nd) (ps : List (Int × ByteArray)) (nth : Int) (all : Bool) (T : ByteArray) (h : formedT N = true) : Option PS :=
  putS (found T.toList false N (formed_ok h)) T.toList (fillF T.toList ps) (max nth 1).toNat all (T.toList.length + 1) begP
noncomputable def putV (N : Nd) (ps : List (Int × ByteArray)) (nth : Int) (all : Bool) (T : ByteArray) : Value :=
  if h : rightB N ps nth T = true then putW T.toList (runV N ps nth all T (right_formed h).1) else .tuple #[.string ⟨#[]⟩, .int .i64 0, .int .i64 1]

set_option maxRecDepth 100000 in
set_option maxHeartbeats 4000000 in
theorem put_wrong (N : Nd) (hcn : count N ≤ 900000) (A : Option Addr) (cap : Nat) (ps : List (Int × ByteArray)) (pv : Value) (nth : Int) (all : Bool) (T : ByteArray) (hR : rightB N ps nth T = false)
    (w : World) (hl : Lies w N (.slice A N.l.length cap)) (hp : PartsAt w pv ps) :
    Calls Try.prog 51 #[.agg (Nd.row N (.slice A N.l.length cap)), pv, .int .i64 nth, .bool all, .string T] w fun e w' =>
      e = .returned (.tuple #[.string ⟨#[]⟩, .int .i64 0, .int .i64 1]) ∧ Keep Nb w w' := by
  have hright := fun wx hx hq => right_any N hcn A cap ps pv nth T wx hx hq
  rw [hR] at hright
  have HRI := Lib.hid hright
  have HL := Lib.hid hl
  have HP := Lib.hid hp
  obtain ⟨A2, cap2, rfl, _⟩ := hp
  clear hright hR hl hcn
  simp only [Nd.row]
  go_enter Try.func51, Try.ntmps51
  go_upto_region 1 with fail
  have hb0 : Blk (w.alloc (.cells (Nd.row N (.slice A N.l.length cap)) 33)) w.heap.size (Nd.row N (.slice A N.l.length cap)) 33 := Blk.new w _ _
  have hk0 : Keep Nb w (w.alloc (.cells (Nd.row N (.slice A N.l.length cap)) 33)) := Keep.alloc (Keep.refl _ _) _
  have hx : w.alloc (.cells #[.int .i64 N.h.k, .int .u8 N.h.c, .int .u64 N.h.s0, .int .u64 N.h.s1, .int .u64 N.h.s2, .int .u64 N.h.s3, .int .i64 N.h.n, .int .i64 N.h.mn, .int .i64 N.h.mx, .slice A N.l.length cap] 33) = w.alloc (.cells (Nd.row N (.slice A N.l.length cap)) 33) := rfl
  rw [hx]; clear hx
  generalize w.alloc (.cells (Nd.row N (.slice A N.l.length cap)) 33) = w1 at hb0 hk0 ⊢
  go_wp2_with (refine wpList_load_row rfl 33 (.tmp 5) rfl w.heap.size rfl 33 _ (0, 0) _ hb0 Try.underlying33 rfl (by kernel_rfl) ?_)
  refine (HRI.out w1 (Lies_keep hk0 HL.out) (HP.out.keep hk0 (fun _ _ h => h))).mono ?_
  rintro e w2 ⟨rfl, kd⟩
  have HK2 := Lib.hid (hk0.trans kd (fun _ _ h => h))
  clear hb0 hk0 kd
  go_wp2_with fail
  go_ret3
  exact ⟨rfl, HK2.out⟩

theorem put_any (N : Nd) (hcn : count N ≤ 900000) (A : Option Addr) (cap : Nat) (ps : List (Int × ByteArray)) (hz : sizeP ps ≤ 1000000) (pv : Value) (nth : Int) (all : Bool) (T : ByteArray)
    (w : World) (hl : Lies w N (.slice A N.l.length cap)) (hp : PartsAt w pv ps) :
    Calls Try.prog 51 #[.agg (Nd.row N (.slice A N.l.length cap)), pv, .int .i64 nth, .bool all, .string T] w fun e w' => e = .returned (putV N ps nth all T) ∧ Keep Nb w w' := by
  by_cases h : rightB N ps nth T = true
  · rw [putV, dif_pos h]
    exact put_right N hcn (right_formed h).1 A cap ps hz pv nth (max nth 1).toNat (by omega) all T h w hl hp _ (Nat.le_refl _)
  · rw [putV, dif_neg h]
    exact put_wrong N hcn A cap ps pv nth all T (by simpa using h) w hl hp

/-! Parts, as the program has them -/
def cellsP (ps : List (Int × ByteArray)) : List Value := ps.flatMap fun x => [.int .i64 x.1, .string x.2]
theorem cellsP_len (ps : List (Int × ByteArray)) : (cellsP ps).length = ps.length * 2 := by
  induction ps with
  | nil => rfl
  | cons x r ih => simp only [cellsP, List.flatMap_cons, List.length_append, List.length_cons, List.length_nil] at ih ⊢; omega
theorem cellsP_take (ps : List (Int × ByteArray)) (k : Nat) (h : k < ps.length) : cellsP (ps.take (k + 1)) = cellsP (ps.take k) ++ [.int .i64 ps[k].1, .string ps[k].2] := by
  rw [List.take_succ_eq_append_getElem h, cellsP, List.flatMap_append]; simp [cellsP]
theorem cellsP_get (ps : List (Int × ByteArray)) : ∀ i (h : i < ps.length), (cellsP ps)[i * 2]? = some (.int .i64 ps[i].1) ∧ (cellsP ps)[i * 2 + 1]? = some (.string ps[i].2) := by
  induction ps with
  | nil => intro i h; simp at h
  | cons x r ih =>
    intro i h
    have e : cellsP (x :: r) = .int .i64 x.1 :: .string x.2 :: cellsP r := by simp [cellsP]
    rw [e]
    cases i with
    | zero => exact ⟨rfl, rfl⟩
    | succ i =>
      have := ih i (by simpa using h)
      rw [show (i + 1) * 2 = i * 2 + 1 + 1 by omega]
      exact ⟨by simpa using this.1, by simpa using this.2⟩
theorem infoPart : (Try.prog.info? 138).map (fun i => (i.zero, i.size, i.bytes)) = some (some (.agg #[.int .i64 0, .string ⟨#[]⟩]), 2, 24) := by kernel_rfl

theorem add_zero' (g k : Nat) : (⟨g, 0, none⟩ : Addr).add k = ⟨g, 0 + k, none⟩ := by
  unfold Addr.add
  split
  · rename_i h; subst h; rfl
  · rfl

theorem parts_own {base : Nat} {w : World} {v : Value} {ps : List (Int × ByteArray)} (h : w.ownsRow base 138 2 v ps.length (cellsP ps)) : PartsAt w v ps := by
  rcases h.2 with ⟨rfl, h0⟩ | ⟨g, cap, cur, rfl, hb, hg, hn, hc, hs, ht⟩
  · refine ⟨none, 0, by rw [h0], by omega, by unfold maxLen; omega, fun i hi => by omega⟩
  · refine ⟨_, cap, rfl, hn, hc, fun i hi => ⟨g, 0, rfl, ?_, ?_⟩⟩
    · have := h.cells (g := g) rfl (i * 2) _ (cellsP_get ps i hi).1; rwa [add_zero'] at this
    · have := h.cells (g := g) rfl (i * 2 + 1) _ (cellsP_get ps i hi).2; rwa [add_zero'] at this

set_option maxRecDepth 100000 in
set_option maxHeartbeats 4000000 in
theorem theirparts_any (ps : List (Int × ByteArray)) (hn : ps.length ≤ 100000) (pv : Value) (w : World) (hp : PartsAt w pv ps) :
    Calls Try.prog 52 #[pv] w fun e w' => ∃ A cap, e = .returned (.slice A ps.length cap) ∧ PartsAt w' (.slice A ps.length cap) ps ∧ Keep Nb w w' := by
  obtain ⟨i0, hi, hz0, hz1, hz2⟩ := info_parts infoPart
  have HP := Lib.hid hp
  obtain ⟨A2, cap2, rfl, hn1, hn2, hcell⟩ := hp
  have HCE := Lib.hid hcell
  clear hcell hn1 hn2
  go_enter Try.func52, Try.ntmps52
  go_wp2_with fail
  go_loopw [3, 7] (fun o i wr => ∃ k : Nat, k ≤ ps.length ∧ i = .int .i64 (k : Int) ∧ Hid (wr.ownsRow w.heap.size 138 2 o k (cellsP (ps.take k))) ∧ Hid (Keep Nb w wr)) (fun _ i _ => ps.length - (intOf i).toNat)
  case atStart => exact ⟨0, Nat.zero_le _, rfl, Lib.hid (World.ownsRow_nil _ _ _ _), Lib.hid (Keep.refl _ _)⟩
  case round =>
    obtain ⟨k, hk, rfl, HO, HK⟩ := hrel
    rcases Nat.lt_or_ge k ps.length with hlt | hge
    · obtain ⟨b, off, rfl, c0, c1⟩ := HCE.out k hlt
      have d0 := HK.out.cell c0 (fun h => h)
      have d1 := HK.out.cell c1 (fun h => h)
      have lb := Nat.lt_of_lt_of_le (cell_lt c0) HK.out.size
      have hst := cellsP_take ps k hlt
      generalize ps[k] = x at d0 d1 hst
      obtain ⟨g, tx⟩ := x
      have HST := Lib.hid hst
      clear c0 c1 hst
      simp only [] at d0 d1
      have HS := Lib.hid HK.out.size
      go_wp2_with (at_builtin; refine wpList_append_own _ rfl _ _ 75 rfl w.heap.size 138 i0 (.agg #[.int .i64 0, .string ⟨#[]⟩]) 2 24 Try.underlying75 hi hz0 hz1 hz2 rfl (by decide) _ _ _ rfl (HO.out.alloc _) ⟨wr.heap.size, 0, none⟩ 1 1 [.int .i64 g, .string tx] rfl rfl (fun j u hj => by
        rw [add_zero']
        match j, hj with
        | 0, hj => simp at hj; subst hj; simp
        | 1, hj => simp at hj; subst hj; simp) ?c2 ?c3 ?c4 ?c5 ?_)
      case c2 => exact ⟨rfl, rfl⟩
      case c3 => unfold maxLen; omega
      case c4 => omega
      case c5 => have := HS.out; simp; omega
      intro v' w2 hown' hgrow _
      have HO2 : Hid (w2.ownsRow w.heap.size 138 2 v' (k + 1) (cellsP (ps.take (k + 1)))) := Lib.hid (by rw [HST.out]; exact hown')
      have HK2 : Hid (Keep Nb w w2) := Lib.hid (by
        refine Keep.trans (Keep.alloc HK.out _) (Keep.of_grown hgrow) (fun b hb e => ?_)
        have := (HO.out.lt b e.symm).1
        omega)
      clear hown' hgrow
      go_wp2_with fail
      go_roundw
      case rel => exact ⟨k + 1, by omega, by go_num, HO2, HK2⟩
      case measure => simp [intOf]; omega
    · obtain rfl : k = ps.length := by omega
      have hO := HO.out
      rw [List.take_length] at hO
      have hPP := parts_own hO
      obtain ⟨A5, cap5, rfl, _⟩ := hPP
      have HPP := Lib.hid (parts_own hO)
      clear hO HO
      go_wp2_with fail
      go_ret
      exact ⟨A5, cap5, rfl, HPP.out, HK.out⟩

end Go.Proofs.Ytkidjbfapldmbaa
