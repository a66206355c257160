/- Clear of the program: its closure put, the whole. -/
import Derived.Test.YtnjanpejmfkopaaDoorSh
namespace Go.Proofs.YtnjanpejmfkopaaDoor
set_option linter.unusedVariables false
set_option linter.unusedSimpArgs false
open Go.RowKit P8

/-- What is put out, and how wide the line is. -/
def stepC (s : List UInt8) (room : Nat) (x : List UInt8 × Nat) : List UInt8 × Nat :=
  if room < x.2 + s.length then (x.1 ++ [92, 10] ++ s, s.length) else (x.1 ++ s, x.2 + s.length)
def runC (l : List UInt8) : List UInt8 × Nat := l.foldl (fun x c => stepC (shP c.toNat) 59 x) ([], 0)
def clearP (l : List UInt8) : List UInt8 := (stepC [36] 60 (runC l)).1 ++ [10]
theorem runC_take {l : List UInt8} {k : Nat} (h : k < l.length) : runC (l.take (k + 1)) = stepC (shP l[k].toNat) 59 (runC (l.take k)) := by
  unfold runC; rw [List.take_succ_eq_append_getElem h, List.foldl_append]; rfl
theorem stepC_len (s : List UInt8) (room : Nat) (x : List UInt8 × Nat) (hs : s.length ≤ 4) : (stepC s room x).1.length ≤ x.1.length + 6 ∧ ((stepC s room x).2 ≤ max room 4) := by
  unfold stepC; split
  · simp only [List.length_append, List.length_cons, List.length_nil]; omega
  · simp only [List.length_append]; omega
theorem runC_len : ∀ (k : Nat) (l : List UInt8), k ≤ l.length → (runC (l.take k)).1.length ≤ 6 * k ∧ (runC (l.take k)).2 ≤ 59
  | 0, l, _ => by simp [runC]
  | k + 1, l, h => by
    rw [runC_take (by omega)]
    have h1 := runC_len k l (by omega)
    have h2 := stepC_len (shP l[k].toNat) 59 (runC (l.take k)) (shP_len _).1
    omega

theorem liesB2 : LiesB 49 2 0 := ⟨by decide, by kernel_rfl, by decide⟩

/-- In block bo a Builder that holds l, in block bw an int n. -/
def OutAt (B bo bw : Nat) (l : List UInt8) (n : Nat) (w : World) : Prop :=
  (∃ cs q v, cs.size = 2 ∧ BoAt B bo 0 cs 49 q v (Lib.byteCells l) w) ∧ Blk w bw #[.int .i64 (n : Int)] 3 ∧ B ≤ bw ∧ bw ≠ bo
theorem OutAt.keep {B bo bw : Nat} {l : List UInt8} {n : Nat} {w w' : World} (h : OutAt B bo bw l n w) (hk : Keep Nb w w') : OutAt B bo bw l n w' := by
  obtain ⟨⟨cs, q, v, h1, h2⟩, h3, h4⟩ := h
  exact ⟨⟨cs, q, v, h1, h2.keep hk id (fun _ _ h => h)⟩, h3.keep hk id, h4⟩
theorem OutAt.set {B bo bw : Nat} {l : List UInt8} {n : Nat} {w : World} (h : OutAt B bo bw l n w) (m : Nat) : OutAt B bo bw l m (w.setCell ⟨bw, 0, none⟩ (.int .i64 (m : Int))) ∧ Keep (fun k => B ≤ k) w (w.setCell ⟨bw, 0, none⟩ (.int .i64 (m : Int))) := by
  obtain ⟨⟨cs, q, v, h1, h2⟩, h3, h4, h5⟩ := h
  have hk := Keep.setOb w bw 0 (.int .i64 (m : Int))
  refine ⟨⟨⟨cs, q, v, h1, h2.keep hk (fun e => h5 (by simp only [Ob] at e; omega)) (fun g hg e => ?_)⟩, h3.set 0 _, h4, h5⟩, hk.mono (fun k _ e => by simp only [Ob] at e; omega)⟩
  simp only [Ob] at e
  subst e
  rcases h2.own.2 with ⟨hv, _⟩ | ⟨g', cap, cur, fz, hv, hB, hg', _⟩
  · rw [hv] at hg; simp [Value.ownBlock] at hg
  · rw [hv] at hg
    simp only [Value.ownBlock, Option.some.injEq] at hg
    subst hg
    unfold Blk at h3
    rw [hg'] at h3
    simp only [Option.some.injEq, Obj.cells.injEq] at h3
    exact absurd h3.2.1 (by decide)

theorem write_any (B bo bw : Nat) (l : List UInt8) (n : Nat) (S : ByteArray) (w : World) (h : OutAt B bo bw l n w) (hl : l.length + S.size ≤ 1000000) (hB : B ≤ w.heap.size) :
    Calls Tryd.prog 32 #[.pointer (some ⟨bo, 0, none⟩), .string S] w fun e w' => e = .returned (.tuple #[.int .i64 S.size, .nilIface]) ∧ OutAt B bo bw (l ++ S.data.toList) n w' ∧ Keep (fun k => B ≤ k) w w' := by
  obtain ⟨⟨cs, q, v, h1, h2⟩, h3, h4, h5⟩ := h
  refine (writeStringO_any B bo 0 cs _ q v (Lib.byteCells l) S w h2 (by rw [h1]; exact liesB2) (by rw [Lib.byteCells_length]; omega) hB).mono ?_
  rintro e w' ⟨rfl, v', hb, hk⟩
  rw [Lib.strCells_eq] at hb
  have e : Lib.byteCells (l ++ S.data.toList) = Lib.byteCells l ++ Lib.byteCells S.data.toList := List.map_append
  rw [← e] at hb
  exact ⟨rfl, ⟨⟨_, _, _, by rw [Array.size_setIfInBounds, Array.size_setIfInBounds]; exact h1, hb⟩, hk.blk h3 h5 (by decide), h4, h5⟩, hk.low⟩

theorem size_len (S : ByteArray) : S.size = S.data.toList.length := by rw [Array.length_toList]; rfl

set_option maxHeartbeats 1000000 in
set_option maxRecDepth 100000 in
theorem put_any (B bo bw : Nat) (l : List UInt8) (n : Nat) (S : ByteArray) (room : Nat) (w : World) (h : OutAt B bo bw l n w) (hl : l.length ≤ 100000) (hS : S.size ≤ 10) (hn : n ≤ 100) (hr : room ≤ 100) (hB : B ≤ w.heap.size) :
    Calls Tryd.prog 31 #[.string S, .int .i64 room, .pointer (some ⟨bw, 0, none⟩), .pointer (some ⟨bo, 0, none⟩)] w fun e w' => e = .returned (.tuple #[]) ∧ OutAt B bo bw (stepC S.data.toList room (l, n)).1 (stepC S.data.toList room (l, n)).2 w' ∧ Keep (fun k => B ≤ k) w w' := by
  have H := Lib.hid h
  have c0 := h.2.1.cell 0 (u := .int .i64 (n : Int)) rfl
  have lb := h.2.1.lt
  clear h
  by_cases hgt : room < n + S.size
  · have m1 : decide ((room : Int) < (n : Int) + (S.size : Int)) = true := by simp; omega
    have HE : Hid (stepC S.data.toList room (l, n) = (l ++ [92, 10] ++ S.data.toList, S.size)) := Lib.hid (by unfold stepC; rw [← size_len, if_pos hgt])
    have HW1 := Lib.hid (write_any B bo bw l n ⟨#[92, 10]⟩ w H.out (by show l.length + 2 ≤ _; omega) hB)
    clear hgt
    go_enter Tryd.func31, Tryd.ntmps31
    go_wp2_with fail
    refine HW1.out.mono ?_
    rintro e w1 ⟨rfl, h1, hk1⟩
    have H1 := Lib.hid (h1.set 0)
    have HK1 := Lib.hid hk1
    have d0 := h1.2.1.cell 0 (u := .int .i64 (n : Int)) rfl
    have f0 := h1.2.1.frozen 0
    have lb1 := h1.2.1.lt
    clear h1 hk1 c0 lb
    have HW2 := Lib.hid (write_any B bo bw (l ++ [92, 10]) 0 S _ H1.out.1 (by simp; omega) (Nat.le_trans (Nat.le_trans hB HK1.out.size) H1.out.2.size))
    go_wp2_with fail
    refine HW2.out.mono ?_
    rintro e w2 ⟨rfl, h2, hk2⟩
    have H2 := Lib.hid (h2.set S.size)
    have HK2 := Lib.hid hk2
    have d0 := h2.2.1.cell 0 (u := .int .i64 ((0 : Nat) : Int)) rfl
    have f0 := h2.2.1.frozen 0
    have lb1 := h2.2.1.lt
    clear h2 hk2
    go_wp2_with fail
    go_end0
    refine ⟨rfl, by rw [HE.out]; simpa using H2.out.1, ((HK1.out.trans H1.out.2 (fun _ _ h => h)).trans HK2.out (fun _ _ h => h)).trans (by simpa using H2.out.2) (fun _ _ h => h)⟩
  · have m1 : decide ((room : Int) < (n : Int) + (S.size : Int)) = false := by simp; omega
    have HE : Hid (stepC S.data.toList room (l, n) = (l ++ S.data.toList, n + S.size)) := Lib.hid (by unfold stepC; rw [← size_len, if_neg hgt])
    have HW2 := Lib.hid (write_any B bo bw l n S w H.out (by omega) hB)
    clear hgt
    go_enter Tryd.func31, Tryd.ntmps31
    go_wp2_with fail
    refine HW2.out.mono ?_
    rintro e w2 ⟨rfl, h2, hk2⟩
    have H2 := Lib.hid (h2.set (n + S.size))
    have HK2 := Lib.hid hk2
    have d0 := h2.2.1.cell 0 (u := .int .i64 (n : Int)) rfl
    have f0 := h2.2.1.frozen 0
    have lb1 := h2.2.1.lt
    clear h2 hk2 c0 lb
    go_wp2_with fail
    go_end0
    refine ⟨rfl, by rw [HE.out]; simpa using H2.out.1, HK2.out.trans (by simpa using H2.out.2) (fun _ _ h => h)⟩

theorem ba_eq2 {a b : ByteArray} (h : a.data.toList = b.data.toList) : a = b := by
  cases a; cases b; congr 1; exact Array.toList_inj.1 h
theorem add_sz (a b : ByteArray) : (a ++ b).data.toList = a.data.toList ++ b.data.toList := by
  rw [ByteArray.data_append, Array.toList_append]

set_option maxHeartbeats 2000000 in
set_option maxRecDepth 100000 in
theorem clear_any (s : ByteArray) (hs : s.size ≤ 5000) (w : World) :
    Calls Tryd.prog 11 #[.string s] w fun e w' => e = .returned (.string ⟨(clearP s.data.toList).toArray⟩) ∧ Keep Nb w w' := by
  have HS := Lib.hid hs
  clear hs
  go_enter Tryd.func11, Tryd.ntmps11
  go_upto_region 4 with fail
  have HO : Hid (OutAt w.heap.size w.heap.size (w.heap.size + 1) (runC (s.data.toList.take 0)).1 (runC (s.data.toList.take 0)).2 ((w.alloc (.cells #[.pointer none, .slice none 0 0] 49)).alloc (.cells #[.int .i64 0] 3))) := Lib.hid (by
    refine ⟨⟨#[.pointer none, .slice none 0 0], .pointer none, .slice none 0 0, rfl, ?_⟩, Blk.new' (by simp) _ _, by omega, by omega⟩
    exact ⟨(Blk.new w _ _).alloc _, rfl, rfl, .inl rfl, ⟨rfl, .inl ⟨rfl, rfl⟩⟩, by simp [Value.ownBlock], Nat.le_refl _⟩)
  have HK : Hid (Keep (fun k => w.heap.size ≤ k) w ((w.alloc (.cells #[.pointer none, .slice none 0 0] 49)).alloc (.cells #[.int .i64 0] 3))) := Lib.hid (Keep.alloc (Keep.alloc (Keep.refl _ _) _) _)
  have HB : Hid (w.heap.size ≤ w.heap.size) := Lib.hid (Nat.le_refl _)
  generalize (w.alloc (.cells #[.pointer none, .slice none 0 0] 49)).alloc (.cells #[.int .i64 0] 3) = w1 at HO HK ⊢
  obtain ⟨B, hB⟩ : ∃ B, B = w.heap.size := ⟨_, rfl⟩
  rw [← hB] at HO HK ⊢
  generalize B + 1 = bw at HO ⊢
  have HBE := Lib.hid hB
  clear hB HB
  go_wp2_with fail
  go_loopw [10] (fun i wr => ∃ k : Nat, k ≤ s.size ∧ i = .int .i64 (k : Int) ∧ Hid (OutAt B B bw (runC (s.data.toList.take k)).1 (runC (s.data.toList.take k)).2 wr ∧ Keep (fun k => B ≤ k) w wr)) (fun i _ => s.size - (intOf i).toNat)
  case atStart => exact ⟨0, Nat.zero_le _, rfl, Lib.hid ⟨HO.out, HK.out⟩⟩
  case round =>
    clear HO HK
    obtain ⟨k, hk, rfl, HR⟩ := hrel
    have HBW : Hid (B ≤ wr.heap.size) := Lib.hid (by have := HR.out.2.size; rw [HBE.out]; exact this)
    have HLN := Lib.hid (runC_len k s.data.toList (by rw [← size_len]; exact hk))
    have hn1 : s.size ≤ 9223372036854775807 := by have := HS.out; omega
    rcases Nat.lt_or_ge k s.size with hlt | hge
    · have hlt2 : k < s.data.toList.length := by rw [← size_len]; exact hlt
      have HST := Lib.hid (runC_take hlt2)
      have hge0 : s[k] = s.data.toList[k] := by rw [Array.getElem_toList]; rfl
      have HSH := Lib.hid (fun wx => shown_any s[k].toNat wx (UInt8.toNat_lt _))
      rw [← hge0] at HST
      have HS4 := Lib.hid (shP_len s[k].toNat)
      clear hge0
      have hkz : (k : Int) < (s.size : Int) := by omega
      have hk0 : (0 : Int) ≤ (k : Int) := by omega
      go_wp2_with fail
      refine (HSH.out wr).mono ?_
      rintro e w2 ⟨rfl, hk2⟩
      generalize shP s[k].toNat = sh at HST HS4
      generalize runC (s.data.toList.take k) = x at HR HST HLN
      have HPU := Lib.hid (put_any B B bw x.1 x.2 ⟨sh.toArray⟩ 59 w2 (HR.out.1.keep hk2) (by have := HLN.out; have := HS.out; omega) (by rw [size_len]; show sh.length ≤ 10; have := HS4.out; omega) (by have := HLN.out; omega) (by omega) (Nat.le_trans HBW.out hk2.size))
      have HK2 : Hid (Keep (fun k => B ≤ k) w w2) := Lib.hid (HR.out.2.trans hk2 (fun _ _ h => h.elim))
      clear hk2
      go_wp2_with fail
      refine HPU.out.mono ?_
      rintro e w3 ⟨rfl, ho3, hk3⟩
      have HR3 : Hid (OutAt B B bw (runC (s.data.toList.take (k + 1))).1 (runC (s.data.toList.take (k + 1))).2 w3 ∧ Keep (fun k => B ≤ k) w w3) := Lib.hid ⟨by rw [HST.out]; exact ho3, HK2.out.trans hk3 (fun _ _ h => h)⟩
      clear ho3 hk3
      go_wp2_with fail
      go_roundw
      case rel => exact ⟨k + 1, by omega, by go_num, HR3⟩
      case measure => simp [intOf]; omega
    · obtain rfl : k = s.size := by omega
      have HCP : Hid (clearP s.data.toList = (stepC [36] 60 (runC s.data.toList)).1 ++ [10]) := Lib.hid rfl
      have e0 : s.data.toList.take s.size = s.data.toList := by rw [size_len]; exact List.take_length
      rw [e0] at HR HLN
      clear e0
      generalize runC s.data.toList = x at HR HLN HCP
      have HPU := Lib.hid (put_any B B bw x.1 x.2 ⟨#[36]⟩ 60 wr HR.out.1 (by have := HLN.out; have := HS.out; omega) (by decide) (by have := HLN.out; omega) (by omega) HBW.out)
      have HZ : Hid ((stepC [36] 60 x).1.length ≤ 100000) := Lib.hid (by have := (stepC_len [36] 60 x (by simp)).1; have := HLN.out; have := HS.out; omega)
      go_wp2_with fail
      refine HPU.out.mono ?_
      rintro e w3 ⟨rfl, ho3, hk3⟩
      have ho4 : OutAt B B bw (stepC [36] 60 x).1 (stepC [36] 60 x).2 w3 := ho3
      obtain ⟨⟨cs, q, v, _, hbo⟩, _, _, _⟩ := ho4
      have HSO := Lib.hid (stringO_any B B 0 cs _ q v _ w3 hbo (Nat.le_trans HBW.out hk3.size))
      have HK3 : Hid (Keep (fun k => B ≤ k) w w3) := Lib.hid (HR.out.2.trans hk3 (fun _ _ h => h))
      clear hbo hk3 ho3
      generalize (stepC [36] 60 x).1 = o at HSO HCP HZ
      have n1 : ¬ 9223372036854775807 < o.length + 1 := by have := HZ.out; omega
      go_wp2_with fail
      refine HSO.out.mono ?_
      rintro e w4 ⟨rfl, hk4⟩
      have HK4 : Hid (Keep Nb w w4) := Lib.hid ((HK3.out.trans hk4.low (fun _ _ h => h)).mono (fun b hb h => by have := HBE.out; omega))
      clear hk4
      go_wp2_with fail
      go_ret
      refine ⟨?_, HK4.out⟩
      rw [HCP.out]
      exact congrArg (fun z => Ending.returned (Value.string z)) (ba_eq2 (by rw [add_sz]))

end Go.Proofs.YtnjanpejmfkopaaDoor
