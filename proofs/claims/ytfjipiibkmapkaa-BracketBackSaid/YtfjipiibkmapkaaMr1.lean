/- The reference: a member of a bracket expression. -/
import Derived.Test.YtfjipiibkmapkaaSingle
import Derived.Test.YtfjipiibkmapkaaParse
namespace Go.Proofs.Ytfjipiibkmapkaa
set_option linter.unusedVariables false
set_option linter.unusedSimpArgs false
open Go.RowKit

/-- What the reference's member answers. -/
def MemR (o : Option ((Nat → Int) × Nat)) (a : Nat) (e : Ending) : Prop := match o with
  | some (t, k) => e = .returned (.tuple #[.agg (setRow t), .int .i64 ((a + k : Nat) : Int), .bool true])
  | none => ∃ g n, e = .returned (.tuple #[.agg (setRow g), .int .i64 n, .bool false])
theorem MemR.ok {o : Option ((Nat → Int) × Nat)} {a r k : Nat} {t : Nat → Int} (h : o = some (t, k)) (hr : (r : Int) = ((a + k : Nat) : Int)) : MemR o a (.returned (.tuple #[.agg (setRow t), .int .i64 (r : Int), .bool true])) := by
  subst h; unfold MemR; rw [hr]
theorem MemR.ok' {o : Option ((Nat → Int) × Nat)} {a k : Nat} {r : Int} {t : Nat → Int} (h : o = some (t, k)) (hr : r = ((a + k : Nat) : Int)) : MemR o a (.returned (.tuple #[.agg (setRow t), .int .i64 r, .bool true])) := by
  subst h; unfold MemR; rw [hr]
theorem MemR.bad {o : Option ((Nat → Int) × Nat)} {a : Nat} {n : Int} (g : Nat → Int) (h : o = none) : MemR o a (.returned (.tuple #[.agg (setRow g), .int .i64 n, .bool false])) := by
  subst h; exact ⟨g, n, rfl⟩

theorem pre2_get {x y : UInt8} {L : List UInt8} {a : Nat} (h : preB [x, y] (L.drop a) = true) : L[a]? = some x ∧ L[a + 1]? = some y ∧ a + 2 ≤ L.length := by
  have h2 := preB_len h
  rw [List.length_drop] at h2
  simp only [List.length_cons, List.length_nil] at h2
  have h0 : L[a]? = some L[a] := List.getElem?_eq_getElem (by omega)
  have h1 : L[a + 1]? = some L[a + 1] := List.getElem?_eq_getElem (by omega)
  rw [pre2_eq h0 h1] at h
  simp at h
  exact ⟨by rw [h0, h.1], by rw [h1, h.2], by omega⟩
theorem pre_other {L : List UInt8} {a : Nat} (h : preB [91, 61] (L.drop a) = true) : preB [91, 58] (L.drop a) = false := by
  obtain ⟨h0, h1, _⟩ := pre2_get h
  rw [pre2_eq h0 h1]
  rfl
theorem pre_other' {L : List UInt8} {a : Nat} (h : preB [91, 58] (L.drop a) = true) : preB [91, 61] (L.drop a) = false := by
  obtain ⟨h0, h1, _⟩ := pre2_get h
  rw [pre2_eq h0 h1]
  rfl

set_option maxRecDepth 100000 in
set_option maxHeartbeats 4000000 in
theorem mr_eq (s : ByteArray) (a : Nat) (ha : a ≤ s.size) (hz : s.size ≤ 1000000) (p2 : preB [91, 61] (s.toList.drop a) = true) (w : World) :
    Calls Try.prog 29 #[.string s, .int .i64 (a : Int)] w fun e w' => MemR (memberF (s.toList.drop a)) a e ∧ Keep Nb w w' := by
  have P1 : preB [91, 58] (s.toList.drop a) = false := pre_other p2
  have HMF := Lib.hid (show memberF (s.toList.drop a) = (namedF 61 (s.toList.drop a)).map fun x => (withF zeroF x.toNat x.toNat, 5) by rw [memberF, if_neg (by rw [P1]; simp), if_pos p2])
  have HP2 := Lib.hid p2
  clear P1 p2
  obtain ⟨m, hm⟩ : ∃ m, s.size = a + m := ⟨s.size - a, by omega⟩
  have HM := Lib.hid hm
  have hsub : wrap64 ((s.size : Int) - (a : Int)) = (m : Int) := by unfold wrap64; omega
  have h0 : (0 : Int) ≤ (a : Int) := by omega
  have W2 : wrap64 ((a : Int) + 2) = (a : Int) + 2 := by unfold wrap64; omega
  have W5 : wrap64 ((a : Int) + 5) = (a : Int) + 5 := by unfold wrap64; omega
  have W1 : wrap64 ((a : Int) + 1) = (a : Int) + 1 := by unfold wrap64; omega
  clear hm
  go_enter Try.func29, Try.ntmps29
  go_upto_region 2 with fail
  have hr0 : Blk ((w.alloc (.cells (setRow zeroF) 24)).alloc (.cells (setRow zeroF) 24)) w.heap.size (setRow zeroF) 24 := (Blk.new w _ _).alloc _
  have hn0 : Blk ((w.alloc (.cells (setRow zeroF) 24)).alloc (.cells (setRow zeroF) 24)) (w.heap.size + 1) (setRow zeroF) 24 := Blk.new' (by simp) _ _
  have hk0 : Keep Nb w ((w.alloc (.cells (setRow zeroF) 24)).alloc (.cells (setRow zeroF) 24)) := Keep.alloc (Keep.alloc (Keep.refl _ _) _) _
  simp only [setRow, zeroF] at hr0 hn0 hk0
  generalize ((w.alloc (.cells #[.int .u64 0, .int .u64 0, .int .u64 0, .int .u64 0] 24)).alloc (.cells #[.int .u64 0, .int .u64 0, .int .u64 0, .int .u64 0] 24)) = w0 at hr0 hn0 hk0 ⊢
  have s0 := hn0.lt
  have hne : w.heap.size ≠ w.heap.size + 1 := by omega
  have N1 := Lib.hid hne
  have z0 := hn0.cell 0 (u := .int .u64 0) rfl
  have z1 := hn0.cell 1 (u := .int .u64 0) rfl
  have z2 := hn0.cell 2 (u := .int .u64 0) rfl
  have z3 := hn0.cell 3 (u := .int .u64 0) rfl
  clear hne
  have hp2 := HP2.out
  obtain ⟨q0, q1, ql⟩ := pre2_get hp2
  rw [toList_len] at ql
  rw [show s.toList = s.toList from rfl] at q0
  obtain ⟨b0, e0⟩ := byte_at q0
  obtain ⟨b1, e1⟩ := byte_at q1
  have g0 : (a : Int) < (s.size : Int) := by omega
  have g1 : (a : Int) + 1 < (s.size : Int) := by omega
  have g2 : (0 : Int) ≤ (a : Int) + 1 := by omega
  have t1 : decide ((2 : Int) ≤ (s.size : Int) - (a : Int)) = true := by simp; omega
  have t2 : decide (2 ≤ m) = true := by have := HM.out; simp; omega
  clear q0 q1 ql hp2
  go_upto_region 3 with fail
  clear t1 t2 b0 b1 e0 e1 g1

  go_cut [54] (fun c wx => c = .bool ((namedF 61 (s.toList.drop a)).isNone) ∧ w0 = wx)
  case first =>
    have hm := HM.out
    have i0 : wrap64 ((a : Int) + 2) = (a : Int) + 2 := by unfold wrap64; omega
    have i1 : wrap64 ((a : Int) + 3) = (a : Int) + 3 := by unfold wrap64; omega
    have i2 : wrap64 ((a : Int) + 5) = (a : Int) + 5 := by unfold wrap64; omega
    have i3 : (0 : Int) ≤ (a : Int) + 2 := by omega
    have i4 : (0 : Int) ≤ (a : Int) + 3 := by omega
    have i5 : (a : Int) + 3 ≤ (a : Int) + 5 := by omega
    have i9 : (0 : Int) ≤ (a : Int) + 5 := by omega
    by_cases h5 : m < 5
    · have t1 : decide ((s.size : Int) - (a : Int) < 5) = true := by simp; omega
      have t2 : decide (m < 5) = true := by simp; omega
      have HB := Lib.hid (show (namedF 61 (s.toList.drop a)).isNone = true by rw [named_short (by rw [List.length_drop, toList_len]; omega)]; rfl)
      clear h5 hm
      go_wp2_with fail
      go_meet
      exact ⟨by rw [HB.out], rfl⟩
    have t1 : decide ((s.size : Int) - (a : Int) < 5) = false := by simp; omega
    have t2 : decide (m < 5) = false := by simp; omega
    obtain ⟨x, hx⟩ : ∃ c, s.toList[a + 2]? = some c := ⟨_, List.getElem?_eq_getElem (by rw [toList_len]; omega)⟩
    obtain ⟨d, hd⟩ : ∃ c, s.toList[a + 3]? = some c := ⟨_, List.getElem?_eq_getElem (by rw [toList_len]; omega)⟩
    obtain ⟨e, he⟩ : ∃ c, s.toList[a + 3 + 1]? = some c := ⟨_, List.getElem?_eq_getElem (by rw [toList_len]; omega)⟩
    obtain ⟨b2, e2⟩ := byte_at hx
    have i6 : (a : Int) + 2 < (s.size : Int) := by omega
    have i7 : (a : Int) + 5 ≤ (s.size : Int) := by omega
    have hn := named_eq 61 hx hd he
    by_cases k0 : x = 10
    · have m0 : ((x.toNat : Int) == 10) = true := by rw [k0]; rfl
      have HB := Lib.hid (show (namedF 61 (s.toList.drop a)).isNone = true by rw [hn, if_pos k0]; rfl)
      clear hn hx hd he k0 h5 hm
      go_wp2_with fail
      go_meet
      exact ⟨by rw [HB.out], rfl⟩
    have m0 : ((x.toNat : Int) == 10) = false := u8_ne (n := 10) (by omega) k0
    have hsl : (s.extract (a + 3) (a + 5)).toList = [d, e] := by
      rw [ext_toList, show a + 5 - (a + 3) = 2 by omega]; exact take_two hd he
    by_cases k1 : d = 61 ∧ e = 93
    · have hs : ((s.extract (a + 3) (a + 5)).toList == [61, 93]) = true := by rw [hsl, k1.1, k1.2]; rfl
      have HB := Lib.hid (show (namedF 61 (s.toList.drop a)).isNone = false by rw [hn, if_neg k0, if_pos k1]; rfl)
      clear hn hx hd he k0 k1 h5 hsl hm
      go_wp2_with fail
      go_meet
      exact ⟨by rw [HB.out], rfl⟩
    · have hs : ((s.extract (a + 3) (a + 5)).toList == [61, 93]) = false := by
        rw [hsl]; refine beq_eq_false_iff_ne.2 fun h => k1 ?_
        simp at h; exact h
      have HB := Lib.hid (show (namedF 61 (s.toList.drop a)).isNone = true by rw [hn, if_neg k0, if_neg k1]; rfl)
      clear hn hx hd he k0 k1 h5 hsl hm
      go_wp2_with fail
      go_meet
      exact ⟨by rw [HB.out], rfl⟩
  case rest =>
  obtain ⟨rfl, rfl⟩ := hcut
  cases hT : namedF 61 (s.toList.drop a) with
  | none =>
    have HV := Lib.hid hT
    clear hT
    simp only [Option.isNone]
    have HR := hr0
    have HR9 := Lib.hid (hr0.setRow (setRow zeroF))
    have HK9 := Lib.hid (Keep.setRow hk0 (Or.inl (Nat.le_refl _)) (setRow zeroF))
    go_wp2_with (first | (refine wpList_store_row rfl 24 (.tmp 4) (.tmp 55) rfl w.heap.size _ rfl rfl 24 _ HR sizeS2 rfl (by simp [setRow, Value.oneCell']) ?_) | (refine wpList_load_row rfl 24 (.tmp 7) rfl (w.heap.size + 1) rfl 24 _ (0, 0) _ hn0 Try.underlying24 rfl sizeS2 ?_))
    refine bodyPost_ret (results_ctt Try.results29 _ _ w.heap.size 24 _ (0, 0) _ rfl HR9.out Try.underlying24 rfl sizeS2) rfl ⟨MemR.bad zeroF (by rw [HMF.out, HV.out]; rfl), HK9.out⟩
  | some x =>
    obtain ⟨g5, g2', _, _, _⟩ := namedF_some hT
    rw [List.length_drop, toList_len] at g5
    rw [List.getElem?_drop] at g2'
    obtain ⟨b2, e2⟩ := byte_at g2'
    have J1 : (a : Int) + 2 < (s.size : Int) := by omega
    have J2 : (0 : Int) ≤ (a : Int) + 2 := by omega
    have HV := Lib.hid hT
    clear hT g2' g5
    simp only [Option.isNone]
    have V2 : IntKind.i64.wrap ((a : Int) + 2) = (a : Int) + 2 := by rw [IntKind.wrap_i64]; omega
    have V5 : IntKind.i64.wrap ((a : Int) + 5) = (a : Int) + 5 := by rw [IntKind.wrap_i64]; omega
    go_wp2_with fail
    (refine wp_region_f [13, 14] (InX (Ob w.heap.size) _) (by kernel_rfl) (InX.mk (Keep.drew (Keep.refl _ _))) (fun hI => ?_))
    have x1 : ¬ Ob w.heap.size (w.heap.size + 1) := fun h => N1.out h.symm
    have T2 : ((a : Int) + 2).toNat = a + 2 := by omega
    have hK0 : Keep (Ob w.heap.size) w0 w0.drew := (Keep.refl _ _).drew
    have hR0 := hr0.drew
    have hkk := hk0.drew
    generalize w0.drew = x0 at hK0 hI hR0 hkk ⊢
    have y0 := hK0.cell z0 x1
    have y1 := hK0.cell z1 x1
    have y2 := hK0.cell z2 x1
    have y3 := hK0.cell z3 x1
    (refine wpF_take (v := ?_) 0 rfl (by kernel_rfl) (by kernel_rfl) (by kernel_rfl) (by kernel_rfl) (fun _ _ _ h => h) (by assumption) rfl ?_ ?_; rotate_left; (focus (rintro _ ⟨E, rfl⟩; go_simp; (try with_reducible rfl))); simp only [Act.put, List.getElem_toArray, List.getElem_cons_succ, List.getElem_cons_zero, List.setIfInBounds_toArray, List.set_cons_zero, List.set_cons_succ])
    (refine wpF_take (v := ?_) 1 rfl (by kernel_rfl) (by kernel_rfl) (by kernel_rfl) (by kernel_rfl) (fun _ _ _ h => h) (by assumption) rfl ?_ ?_; rotate_left; (focus (rintro _ ⟨E, rfl⟩; go_simp; (try with_reducible rfl))); simp only [Act.put, List.getElem_toArray, List.getElem_cons_succ, List.getElem_cons_zero, List.setIfInBounds_toArray, List.set_cons_zero, List.set_cons_succ])
    (refine wpF_take (v := ?_) 2 rfl (by kernel_rfl) (by kernel_rfl) (by kernel_rfl) (by kernel_rfl) (fun _ _ _ h => h) (by assumption) rfl ?_ ?_; rotate_left; (focus (rintro _ ⟨E, rfl⟩; go_simp; (try with_reducible rfl))); simp only [Act.put, List.getElem_toArray, List.getElem_cons_succ, List.getElem_cons_zero, List.setIfInBounds_toArray, List.set_cons_zero, List.set_cons_succ])
    (refine wpF_take (v := ?_) 3 rfl (by kernel_rfl) (by kernel_rfl) (by kernel_rfl) (by kernel_rfl) (fun _ _ _ h => h) (by assumption) rfl ?_ ?_; rotate_left; (focus (rintro _ ⟨E, rfl⟩; go_simp; (try with_reducible rfl))); simp only [Act.put, List.getElem_toArray, List.getElem_cons_succ, List.getElem_cons_zero, List.setIfInBounds_toArray, List.set_cons_zero, List.set_cons_succ])
    (refine wpF_take (v := ?_) 4 rfl (by kernel_rfl) (by kernel_rfl) (by kernel_rfl) (by kernel_rfl) (fun _ _ _ h => h) (by assumption) rfl ?_ ?_; rotate_left; (focus (rintro _ ⟨E, rfl⟩; go_simp; (try with_reducible rfl))); simp only [Act.put, List.getElem_toArray, List.getElem_cons_succ, List.getElem_cons_zero, List.setIfInBounds_toArray, List.set_cons_zero, List.set_cons_succ])
    (refine wpF_take (v := ?_) 5 rfl (by kernel_rfl) (by kernel_rfl) (by kernel_rfl) (by kernel_rfl) (fun _ _ _ h => h) (by assumption) rfl ?_ ?_; rotate_left; (focus (rintro _ ⟨E, rfl⟩; go_simp; (try with_reducible rfl))); simp only [Act.put, List.getElem_toArray, List.getElem_cons_succ, List.getElem_cons_zero, List.setIfInBounds_toArray, List.set_cons_zero, List.set_cons_succ])
    (refine wpF_take (v := ?_) 6 rfl (by kernel_rfl) (by kernel_rfl) (by kernel_rfl) (by kernel_rfl) (fun _ _ _ h => h) (by assumption) rfl ?_ ?_; rotate_left; (focus (rintro _ ⟨E, rfl⟩; go_simp; (try with_reducible rfl))); simp only [Act.put, List.getElem_toArray, List.getElem_cons_succ, List.getElem_cons_zero, List.setIfInBounds_toArray, List.set_cons_zero, List.set_cons_succ])
    (refine wpF_take (v := ?_) 7 rfl (by kernel_rfl) (by kernel_rfl) (by kernel_rfl) (by kernel_rfl) (fun _ _ _ h => h) (by assumption) rfl ?_ ?_; rotate_left; (focus (rintro _ ⟨E, rfl⟩; go_simp; (try with_reducible rfl))); simp only [Act.put, List.getElem_toArray, List.getElem_cons_succ, List.getElem_cons_zero, List.setIfInBounds_toArray, List.set_cons_zero, List.set_cons_succ])
    (refine wpF_take (v := ?_) 8 rfl (by kernel_rfl) (by kernel_rfl) (by kernel_rfl) (by kernel_rfl) (fun _ _ _ h => h) (by assumption) rfl ?_ ?_; rotate_left; (focus (rintro _ ⟨E, rfl⟩; go_simp; (try with_reducible rfl))); simp only [Act.put, List.getElem_toArray, List.getElem_cons_succ, List.getElem_cons_zero, List.setIfInBounds_toArray, List.set_cons_zero, List.set_cons_succ])
    (refine wpF_take (v := ?_) 10 rfl (by kernel_rfl) (by kernel_rfl) (by kernel_rfl) (by kernel_rfl) (fun _ _ _ h => h) (by assumption) rfl ?_ ?_; rotate_left; (focus (rintro _ ⟨E, rfl⟩; go_simp; (try with_reducible rfl))); simp only [Act.put, List.getElem_toArray, List.getElem_cons_succ, List.getElem_cons_zero, List.setIfInBounds_toArray, List.set_cons_zero, List.set_cons_succ])
    (refine wpF_take (v := ?_) 11 rfl (by kernel_rfl) (by kernel_rfl) (by kernel_rfl) (by kernel_rfl) (fun _ _ _ h => h) (by assumption) rfl ?_ ?_; rotate_left; (focus (rintro _ ⟨E, rfl⟩; go_simp; (try with_reducible rfl))); simp only [Act.put, List.getElem_toArray, List.getElem_cons_succ, List.getElem_cons_zero, List.setIfInBounds_toArray, List.set_cons_zero, List.set_cons_succ])
    (refine wpF_one 9 rfl (by kernel_rfl) rfl (fun K hK => ?_))
    go_simp
    refine (with_r zeroF x.toNat x.toNat (UInt8.toNat_lt x) (UInt8.toNat_lt x) _).mono ?_
    rintro e x2 ⟨he, hkn⟩
    subst he
    replace hK0 := Keep.trans hK0 hkn (fun _ _ h => h.elim)
    replace hR0 := hR0.keep hkn id
    replace hkk := hkk.trans hkn (fun _ _ h => h)
    clear hkn
    simp only [setRow]
    (refine hK _ _ (fun _ => InX.mk hK0) (fun hI => ?_); have hI := hI (by simp); clear hK K; try simp only [Act.put, List.getElem_toArray, List.getElem_cons_succ, List.getElem_cons_zero, List.setIfInBounds_toArray, List.set_cons_zero, List.set_cons_succ])
    (refine wpF_one 12 rfl (by kernel_rfl) rfl (fun K hK => ?_))
    refine wp_store_row 24 (.tmp 4) (.tmp 65) rfl w.heap.size _ rfl rfl 24 _ hR0 sizeS2 rfl (by simp [setRow, Value.oneCell']) ?_
    (refine hK _ _ (fun _ => InX.mk (Keep.setRow hK0 (Or.inr rfl) _)) (fun hI => ?_); have hI := hI (by simp); clear hK K; try simp only [Act.put, List.getElem_toArray, List.getElem_cons_succ, List.getElem_cons_zero, List.setIfInBounds_toArray, List.set_cons_zero, List.set_cons_succ])
    (refine wpF_one 13 rfl (by kernel_rfl) rfl (fun K hK => ?_))
    go_simp
    (refine hK _ _ (fun h => absurd (by simp) h) (fun _ => ?_); clear hK K; try simp only [Act.put, List.getElem_toArray, List.getElem_cons_succ, List.getElem_cons_zero, List.setIfInBounds_toArray, List.set_cons_zero, List.set_cons_succ])
    (refine wpF_one 14 rfl (by kernel_rfl) rfl (fun K hK => ?_))
    go_simp
    (refine hK _ _ (fun h => absurd (by simp) h) (fun _ => ?_); clear hK K; try simp only [Act.put, List.getElem_toArray, List.getElem_cons_succ, List.getElem_cons_zero, List.setIfInBounds_toArray, List.set_cons_zero, List.set_cons_succ])
    (refine wpF_done (by kernel_rfl) ?_ _)
    go_wp2_with fail
    have HR9 := hR0.setRow (setRow (withF zeroF x.toNat x.toNat))
    refine bodyPost_ret (results_ctt Try.results29 _ _ w.heap.size 24 _ (0, 0) _ rfl HR9 Try.underlying24 rfl sizeS2) rfl ⟨MemR.ok' (k := 5) (t := withF zeroF x.toNat x.toNat) (by rw [HMF.out, HV.out]; rfl) rfl, Keep.setRow hkk (Or.inl (Nat.le_refl _)) _⟩

end Go.Proofs.Ytfjipiibkmapkaa
