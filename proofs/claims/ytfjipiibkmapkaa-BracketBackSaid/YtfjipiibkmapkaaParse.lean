/- A bracket expression of one range between two plain bytes is read: Parse. -/
import Derived.Test.YtfjipiibkmapkaaMember
namespace Go.Proofs.Ytfjipiibkmapkaa
set_option linter.unusedVariables false
set_option linter.unusedSimpArgs false
open Go.RowKit

theorem results_ctt {P : Program} {fn : Func} {p u v : Tmp} {ty : TypeId} (h : fn.results = #[.cell p ty, .tmp u, .tmp v]) (tmps : Array Value) (w : World) (g : Nat) (tt : TypeId) (cs : Array Value) (fr : Nat × Nat) (d : TypeDesc)
    (hp : tmps.getD p undef = .pointer (some ⟨g, 0, none⟩)) (hg : w.heap[g]? = some (.cells cs tt fr))
    (hu : P.underlying ty = some d) (hd : (match d with | .struct _ | .array _ _ => true | _ => false) = true) (hi : (P.info? ty).map (·.size) = some cs.size) :
    (results fn tmps).run P w = .ok (.tuple #[.agg cs, tmps.getD u undef, tmps.getD v undef]) w := by
  have e1 : Sem.run P (asAddr (tmps[p]?.getD undef)) w = .ok ⟨g, 0, none⟩ w := by rw [← Array.getD_eq_getD_getElem?, hp]; rfl
  have e2 := run_loadVar_row w g tt ty cs fr d hg hu hd hi
  simp only [results, h]
  simp [Sem.run_bind, Result.andThen, e1, e2]


set_option maxRecDepth 100000 in
set_option maxHeartbeats 4000000 in
theorem parse_ok (s : ByteArray) (x y : UInt8) (hs : s.toList = [91, x, 45, y, 93]) (hx : plainB x) (hy : plainB y) (hxy : x.toNat ≤ y.toNat) (w : World) :
    Calls Try.prog 20 #[.string s, .int .i64 0] w fun e w' => e = .returned (.tuple #[.agg (setRow (orF zeroF (withF zeroF x.toNat y.toNat))), .int .i64 5, .int .i64 0]) ∧ Keep Nb w w' := by
  have hz : s.size = 5 := by rw [← toList_len, hs]; rfl
  obtain ⟨ha, e0⟩ := byte_at (s := s) (a := 0) (c := 91) (by rw [hs]; rfl)
  have P1 : preB (⟨#[94]⟩ : ByteArray).toList (s.toList.drop 1) = false := pre_ne (x := 94) (c := x) (by rw [ByteArray.toList_eq]) (by rw [hs]; rfl) hx.2.2.1
  have P2 : preB (⟨#[93]⟩ : ByteArray).toList (s.toList.drop 4) = true := pre_one (x := 93) (by rw [ByteArray.toList_eq]) (by rw [hs]; rfl)
  have Q1 := Lib.hid P1
  have Q2 := Lib.hid P2
  have HH := Lib.hid (fun (q : Nat) (t : ByteArray) p wx (hx : RdAt wx p s q) (hq : q ≤ s.size) => has_any p s q t wx hx hq)
  have HM := Lib.hid (fun p wx (h : RdAt wx p s 1) => member_ok p s 1 x y (by rw [hs]; rfl) (by rw [hs]; rfl) (by rw [hs]; rfl) hx hy hxy (by omega) (by omega) wx h)
  have HZ := Lib.hid hz
  obtain ⟨fo, hfo⟩ : ∃ f, f = withF zeroF x.toNat y.toNat := ⟨_, rfl⟩
  rw [← hfo] at HM ⊢
  clear P1 P2 hs hx hy hxy hfo
  go_enter Try.func20, Try.ntmps20
  go_wp2_with fail
  have hr0 : Blk ((w.alloc (.cells (setRow zeroF) 26)).alloc (.cells #[.string s, .int .i64 1] 54)) w.heap.size (setRow zeroF) 26 := (Blk.new w _ _).alloc _
  have hb0 : RdAt ((w.alloc (.cells (setRow zeroF) 26)).alloc (.cells #[.string s, .int .i64 1] 54)) (w.heap.size + 1) s 1 := Blk.new' (by simp) _ _
  have hk0 : Keep Nb w ((w.alloc (.cells (setRow zeroF) 26)).alloc (.cells #[.string s, .int .i64 1] 54)) := Keep.alloc (Keep.alloc (Keep.refl _ _) _) _
  refine (HH.out 1 ⟨#[94]⟩ (w.heap.size + 1) _ hb0 (by omega)).mono ?_
  rintro e w1 ⟨he, hkn⟩
  rw [Q1.out] at he
  subst he
  have hb1 := hb0.keep hkn id
  have hr1 := hr0.keep hkn id
  have hk1 := hk0.trans hkn (fun _ _ h => h)
  have s1 := hb1.lt
  clear hkn hb0 hr0 hk0
  go_wp2_with fail
  obtain ⟨q, hq⟩ : ∃ q, q = w1.heap.size := ⟨_, rfl⟩
  go_loopw [10] (fun o wr => ∃ (k : Nat) (f : Nat → Int), k ≤ 1 ∧ o = .bool (k == 0) ∧ Hid (k = 0 → f = zeroF) ∧ Hid (k = 1 → f = orF zeroF fo) ∧ Hid (RdAt wr (w.heap.size + 1) s (1 + 3 * k)) ∧ Blk wr w1.heap.size (setRow f) 26 ∧ Blk wr w.heap.size (setRow zeroF) 26 ∧ Keep Nb w wr) (fun o _ => match o with | .bool true => 1 | _ => 0)
  case atStart => exact ⟨0, zeroF, by omega, rfl, Lib.hid (fun _ => rfl), Lib.hid (fun h => by omega), Lib.hid (hb1.alloc _), Blk.new w1 _ _, hr1.alloc _, Keep.alloc hk1 _⟩
  case round =>
    obtain ⟨k, f, hk01, rfl, hf0, hf1, hb, ha', hr, hk⟩ := hrel
    have sw := ha'.lt
    clear hb1 hr1 hk1
    have hkk : k = 0 ∨ k = 1 := by omega
    rcases hkk with rfl | rfl
    · obtain rfl := hf0.out rfl
      have hb := hb.out
      simp only [Nat.mul_zero, Nat.add_zero] at hb
      simp only [beq_self_eq_true]
      go_wp2_with fail
      refine (HM.out _ _ hb).mono ?_
      rintro e w2 ⟨rfl, hb2, hkn⟩
      have hr2 := hr.keep hkn (by simp only [Ob]; omega)
      have ha2 := ha'.keep hkn (by simp only [Ob]; omega)
      have hk2 : Keep Nb w w2 := hk.trans hkn (fun b hb h => by simp only [Ob] at h; omega)
      have s2 := hkn.size
      clear hkn hb hr ha' hk
      simp only [setRow]
      have hb3 := hb2.alloc (.cells (setRow fo) 26)
      have hr3 := hr2.alloc (.cells (setRow fo) 26)
      have ha3 := ha2.alloc (.cells (setRow fo) 26)
      have hk3 := hk2.alloc (.cells (setRow fo) 26)
      have c0 := ha3.cell 0 (u := .int .u64 0) rfl
      have c1 := ha3.cell 1 (u := .int .u64 0) rfl
      have c2 := ha3.cell 2 (u := .int .u64 0) rfl
      have c3 := ha3.cell 3 (u := .int .u64 0) rfl
      simp only [setRow] at hb3 hr3 ha3 hk3 c0 c1 c2 c3
      clear hb2 hr2 ha2 hk2
      go_wp2_with fail
      refine (or_t zeroF fo _).mono ?_
      rintro e w3 ⟨rfl, hkn⟩
      have hb4 := hb3.keep hkn id
      have hr4 := hr3.keep hkn id
      have ha4 := ha3.keep hkn id
      have hk4 := hk3.trans hkn (fun _ _ h => h)
      clear hkn hb3 hr3 ha3 hk3 c0 c1 c2 c3
      simp only [setRow]
      go_wp2_with (refine wpList_store_row rfl 26 (.tmp 9) (.tmp 59) rfl w1.heap.size _ rfl rfl 26 _ ha4 sizeS1 rfl (by simp [Value.oneCell']) ?_)
      have hb5 : RdAt (w3.setRow w1.heap.size (setRow (orF zeroF fo))) (w.heap.size + 1) s 4 := hb4.setRowOther (by omega) _
      have ha5 : Blk (w3.setRow w1.heap.size (setRow (orF zeroF fo))) w1.heap.size (setRow (orF zeroF fo)) 26 := ha4.setRow _
      have hr5 : Blk (w3.setRow w1.heap.size (setRow (orF zeroF fo))) w.heap.size (setRow zeroF) 26 := hr4.setRowOther (by omega) _
      have hk5 : Keep Nb w (w3.setRow w1.heap.size (setRow (orF zeroF fo))) := Keep.setRow hk4 (Or.inl (by omega)) _
      have HB5 := Lib.hid hb5; have HA5 := Lib.hid ha5; have HR5 := Lib.hid hr5; have HK5 := Lib.hid hk5
      clear hb5 ha5 hr5 hk5 hb4 ha4 hr4 hk4
      go_roundw
      case rel => exact ⟨1, orF zeroF fo, by omega, rfl, Lib.hid (fun h => by omega), Lib.hid (fun _ => rfl), HB5, HA5.out, HR5.out, HK5.out⟩
      case measure => simp
    · obtain rfl := hf1.out rfl
      have hb := hb.out
      simp only [Nat.mul_one] at hb
      go_wp2_with fail
      refine (HH.out 4 ⟨#[93]⟩ (w.heap.size + 1) _ hb (by omega)).mono ?_
      rintro e w2 ⟨he, hkn⟩
      rw [Q2.out] at he
      subst he
      have hb2 : RdAt w2 (w.heap.size + 1) s 4 := hb.keep hkn id
      have hr2 := hr.keep hkn id
      have ha2 := ha'.keep hkn id
      have hk2 := hk.trans hkn (fun _ _ h => h)
      clear hkn hb hr ha' hk
      have c0 := ha2.cell 0 (u := .int .u64 (orF zeroF fo 0)) rfl
      have c1 := ha2.cell 1 (u := .int .u64 (orF zeroF fo 1)) rfl
      have c2 := ha2.cell 2 (u := .int .u64 (orF zeroF fo 2)) rfl
      have c3 := ha2.cell 3 (u := .int .u64 (orF zeroF fo 3)) rfl
      have d1 := hb2.cell 1 (u := .int .i64 ((4 : Nat) : Int)) rfl
      have lr := hb2.lt
      have la := ha2.lt
      go_wp2_with fail
      (refine wp_region_f [7, 8] (InX (Ob w.heap.size) _) (by kernel_rfl) (InX.mk (Keep.drew (Keep.refl _ _))) (fun hI => ?_))
      have x1 : ¬ Ob w.heap.size w1.heap.size := by simp only [Ob]; omega
      have x2 : ¬ Ob w.heap.size (w.heap.size + 1) := by simp only [Ob]; omega
      (refine wpF_take (v := ?_) 0 rfl (by kernel_rfl) (by kernel_rfl) (by kernel_rfl) (by kernel_rfl) (fun _ _ _ h => h) (by assumption) rfl ?_ ?_; rotate_left; (focus (rintro _ ⟨E, rfl⟩; go_simp; (try with_reducible rfl))); simp only [Act.put, List.getElem_toArray, List.getElem_cons_succ, List.getElem_cons_zero, List.setIfInBounds_toArray, List.set_cons_zero, List.set_cons_succ])
      (refine wpF_take (v := ?_) 1 rfl (by kernel_rfl) (by kernel_rfl) (by kernel_rfl) (by kernel_rfl) (fun _ _ _ h => h) (by assumption) rfl ?_ ?_; rotate_left; (focus (rintro _ ⟨E, rfl⟩; go_simp; (try with_reducible rfl))); simp only [Act.put, List.getElem_toArray, List.getElem_cons_succ, List.getElem_cons_zero, List.setIfInBounds_toArray, List.set_cons_zero, List.set_cons_succ])
      (refine wpF_take (v := ?_) 2 rfl (by kernel_rfl) (by kernel_rfl) (by kernel_rfl) (by kernel_rfl) (fun _ _ _ h => h) (by assumption) rfl ?_ ?_; rotate_left; (focus (rintro _ ⟨E, rfl⟩; go_simp; (try with_reducible rfl))); simp only [Act.put, List.getElem_toArray, List.getElem_cons_succ, List.getElem_cons_zero, List.setIfInBounds_toArray, List.set_cons_zero, List.set_cons_succ])
      (refine wpF_take (v := ?_) 3 rfl (by kernel_rfl) (by kernel_rfl) (by kernel_rfl) (by kernel_rfl) (fun _ _ _ h => h) (by assumption) rfl ?_ ?_; rotate_left; (focus (rintro _ ⟨E, rfl⟩; go_simp; (try with_reducible rfl))); simp only [Act.put, List.getElem_toArray, List.getElem_cons_succ, List.getElem_cons_zero, List.setIfInBounds_toArray, List.set_cons_zero, List.set_cons_succ])
      (refine wpF_take (v := ?_) 4 rfl (by kernel_rfl) (by kernel_rfl) (by kernel_rfl) (by kernel_rfl) (fun _ _ _ h => h) (by assumption) rfl ?_ ?_; rotate_left; (focus (rintro _ ⟨E, rfl⟩; go_simp; (try with_reducible rfl))); simp only [Act.put, List.getElem_toArray, List.getElem_cons_succ, List.getElem_cons_zero, List.setIfInBounds_toArray, List.set_cons_zero, List.set_cons_succ])
      (refine wpF_take (v := ?_) 5 rfl (by kernel_rfl) (by kernel_rfl) (by kernel_rfl) (by kernel_rfl) (fun _ _ _ h => h) (by assumption) rfl ?_ ?_; rotate_left; (focus (rintro _ ⟨E, rfl⟩; go_simp; (try with_reducible rfl))); simp only [Act.put, List.getElem_toArray, List.getElem_cons_succ, List.getElem_cons_zero, List.setIfInBounds_toArray, List.set_cons_zero, List.set_cons_succ])
      (refine wpF_one 6 rfl (by kernel_rfl) rfl (fun K hK => ?_))
      refine wp_store_row 26 (.tmp 4) (.tmp 63) rfl w.heap.size _ rfl rfl 26 _ hr2.drew sizeS1 rfl (by simp [Value.oneCell']) ?_
      (refine hK _ _ (fun _ => InX.mk (Keep.setRow (X := Ob w.heap.size) (Keep.drew (Keep.refl _ _)) (Or.inr rfl) _)) (fun hI => ?_); have hI := hI (by simp); clear hK K; try simp only [Act.put, List.getElem_toArray, List.getElem_cons_succ, List.getElem_cons_zero, List.setIfInBounds_toArray, List.set_cons_zero, List.set_cons_succ])
      (refine wpF_one 7 rfl (by kernel_rfl) rfl (fun K hK => ?_))
      go_simp
      (refine hK _ _ (fun h => absurd (by simp) h) (fun _ => ?_); clear hK K; try simp only [Act.put, List.getElem_toArray, List.getElem_cons_succ, List.getElem_cons_zero, List.setIfInBounds_toArray, List.set_cons_zero, List.set_cons_succ])
      (refine wpF_one 8 rfl (by kernel_rfl) rfl (fun K hK => ?_))
      go_simp
      (refine hK _ _ (fun h => absurd (by simp) h) (fun _ => ?_); clear hK K; try simp only [Act.put, List.getElem_toArray, List.getElem_cons_succ, List.getElem_cons_zero, List.setIfInBounds_toArray, List.set_cons_zero, List.set_cons_succ])
      (refine wpF_done (by kernel_rfl) ?_ _)
      go_wp2_with fail
      have hr9 : Blk (w2.drew.setRow w.heap.size (setRow (orF zeroF fo))) w.heap.size (setRow (orF zeroF fo)) 26 := hr2.drew.setRow _
      refine bodyPost_ret (results_ctt Try.results20 _ _ w.heap.size 26 _ (0, 0) _ rfl hr9 Try.underlying26 rfl sizeS1) rfl ⟨rfl, Keep.setRow hk2.drew (Or.inl (Nat.le_refl _)) _⟩

set_option maxRecDepth 100000 in
set_option maxHeartbeats 4000000 in
theorem parse_bad (s : ByteArray) (x y : UInt8) (hs : s.toList = [91, x, 45, y, 93]) (hx : plainB x) (hy : plainB y) (hxy : y.toNat < x.toNat) (w : World) :
    Calls Try.prog 20 #[.string s, .int .i64 0] w fun e w' => e = .returned (.tuple #[.agg (setRow zeroF), .int .i64 0, .int .i64 10]) ∧ Keep Nb w w' := by
  have hz : s.size = 5 := by rw [← toList_len, hs]; rfl
  obtain ⟨ha, e0⟩ := byte_at (s := s) (a := 0) (c := 91) (by rw [hs]; rfl)
  have P1 : preB (⟨#[94]⟩ : ByteArray).toList (s.toList.drop 1) = false := pre_ne (x := 94) (c := x) (by rw [ByteArray.toList_eq]) (by rw [hs]; rfl) hx.2.2.1
  have P2 : preB (⟨#[93]⟩ : ByteArray).toList (s.toList.drop 4) = true := pre_one (x := 93) (by rw [ByteArray.toList_eq]) (by rw [hs]; rfl)
  have Q1 := Lib.hid P1
  have Q2 := Lib.hid P2
  have HH := Lib.hid (fun (q : Nat) (t : ByteArray) p wx (hx : RdAt wx p s q) (hq : q ≤ s.size) => has_any p s q t wx hx hq)
  have HM := Lib.hid (fun p wx (h : RdAt wx p s 1) => member_bad p s 1 x y (by rw [hs]; rfl) (by rw [hs]; rfl) (by rw [hs]; rfl) hx hy hxy (by omega) (by omega) wx h)
  have HZ := Lib.hid hz
  obtain ⟨fo, hfo⟩ : ∃ f, f = withF zeroF x.toNat y.toNat := ⟨_, rfl⟩
  clear P1 P2 hs hx hy hxy hfo
  go_enter Try.func20, Try.ntmps20
  go_wp2_with fail
  have hr0 : Blk ((w.alloc (.cells (setRow zeroF) 26)).alloc (.cells #[.string s, .int .i64 1] 54)) w.heap.size (setRow zeroF) 26 := (Blk.new w _ _).alloc _
  have hb0 : RdAt ((w.alloc (.cells (setRow zeroF) 26)).alloc (.cells #[.string s, .int .i64 1] 54)) (w.heap.size + 1) s 1 := Blk.new' (by simp) _ _
  have hk0 : Keep Nb w ((w.alloc (.cells (setRow zeroF) 26)).alloc (.cells #[.string s, .int .i64 1] 54)) := Keep.alloc (Keep.alloc (Keep.refl _ _) _) _
  refine (HH.out 1 ⟨#[94]⟩ (w.heap.size + 1) _ hb0 (by omega)).mono ?_
  rintro e w1 ⟨he, hkn⟩
  rw [Q1.out] at he
  subst he
  have hb1 := hb0.keep hkn id
  have hr1 := hr0.keep hkn id
  have hk1 := hk0.trans hkn (fun _ _ h => h)
  have s1 := hb1.lt
  clear hkn hb0 hr0 hk0
  go_wp2_with fail
  obtain ⟨q, hq⟩ : ∃ q, q = w1.heap.size := ⟨_, rfl⟩
  go_loopw [10] (fun o wr => ∃ (k : Nat) (f : Nat → Int), k ≤ 0 ∧ o = .bool (k == 0) ∧ Hid (k = 0 → f = zeroF) ∧ Hid (k = 1 → f = orF zeroF fo) ∧ Hid (RdAt wr (w.heap.size + 1) s (1 + 3 * k)) ∧ Blk wr w1.heap.size (setRow f) 26 ∧ Blk wr w.heap.size (setRow zeroF) 26 ∧ Keep Nb w wr) (fun o _ => match o with | .bool true => 1 | _ => 0)
  case atStart => exact ⟨0, zeroF, by omega, rfl, Lib.hid (fun _ => rfl), Lib.hid (fun h => by omega), Lib.hid (hb1.alloc _), Blk.new w1 _ _, hr1.alloc _, Keep.alloc hk1 _⟩
  case round =>
    obtain ⟨k, f, hk01, rfl, hf0, hf1, hb, ha', hr, hk⟩ := hrel
    have sw := ha'.lt
    clear hb1 hr1 hk1
    · obtain rfl : k = 0 := by omega
      obtain rfl := hf0.out rfl
      have hb := hb.out
      simp only [Nat.mul_zero, Nat.add_zero] at hb
      simp only [beq_self_eq_true]
      go_wp2_with fail
      refine (HM.out _ _ hb).mono ?_
      rintro e w2 ⟨rfl, hb2, hkn⟩
      have hr2 := hr.keep hkn (by simp only [Ob]; omega)
      have ha2 := ha'.keep hkn (by simp only [Ob]; omega)
      have hk2 : Keep Nb w w2 := hk.trans hkn (fun b hb h => by simp only [Ob] at h; omega)
      have s2 := hkn.size
      clear hkn hb hr ha' hk
      simp only [setRow]
      have hr3 := hr2.alloc (.cells (setRow zeroF) 26)
      have hk3 := hk2.alloc (.cells (setRow zeroF) 26)
      clear hb2 hr2 ha2 hk2
      go_wp2_with (refine wpList_store_row rfl 26 (.tmp 4) (.tmp 56) rfl w.heap.size _ rfl rfl 26 _ hr3 sizeS1 rfl (by simp [Value.oneCell']) ?_)
      refine bodyPost_ret (results_ctt Try.results20 _ _ w.heap.size 26 _ (0, 0) _ rfl (hr3.setRow (setRow zeroF)) Try.underlying26 rfl sizeS1) rfl ⟨rfl, Keep.setRow hk3 (Or.inl (Nat.le_refl _)) _⟩

end Go.Proofs.Ytfjipiibkmapkaa
