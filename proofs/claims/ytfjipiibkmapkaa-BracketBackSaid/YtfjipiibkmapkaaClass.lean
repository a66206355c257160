/- A class's set: Class, of the program and of the reference. -/
import Derived.Test.YtfjipiibkmapkaaRanges
import Derived.Laws.BitsLemmas
namespace Go.Proofs.Ytfjipiibkmapkaa
set_option linter.unusedVariables false
set_option linter.unusedSimpArgs false
open Go.RowKit

theorem flat_len (ps : List (UInt8 × UInt8)) : (flatP ps).length = 2 * ps.length := by
  induction ps with
  | nil => rfl
  | cons p r ih => rw [flatP, List.flatMap_cons, List.length_append, List.length_cons]; rw [flatP] at ih; rw [ih]; simp; omega
theorem flat_get : ∀ (ps : List (UInt8 × UInt8)) (j : Nat) (hj : j < ps.length), (flatP ps)[2 * j]? = some ps[j].1 ∧ (flatP ps)[2 * j + 1]? = some ps[j].2
  | [], j, hj => by simp at hj
  | p :: r, 0, _ => ⟨rfl, rfl⟩
  | p :: r, j + 1, hj => by
    have h := flat_get r j (by simpa using hj)
    have e : flatP (p :: r) = p.1 :: p.2 :: flatP r := rfl
    rw [e, show 2 * (j + 1) = 2 * j + 1 + 1 by omega]
    simpa using h
theorem clsP_len (l : List UInt8) : (clsP l).length ≤ 4 := by
  rw [clsP]
  by_cases e0 : l = [117, 112, 112, 101, 114]
  · rw [if_pos e0]; simp
  rw [if_neg e0]
  by_cases e1 : l = [108, 111, 119, 101, 114]
  · rw [if_pos e1]; simp
  rw [if_neg e1]
  by_cases e2 : l = [97, 108, 112, 104, 97]
  · rw [if_pos e2]; simp
  rw [if_neg e2]
  by_cases e3 : l = [100, 105, 103, 105, 116]
  · rw [if_pos e3]; simp
  rw [if_neg e3]
  by_cases e4 : l = [97, 108, 110, 117, 109]
  · rw [if_pos e4]; simp
  rw [if_neg e4]
  by_cases e5 : l = [120, 100, 105, 103, 105, 116]
  · rw [if_pos e5]; simp
  rw [if_neg e5]
  by_cases e6 : l = [98, 108, 97, 110, 107]
  · rw [if_pos e6]; simp
  rw [if_neg e6]
  by_cases e7 : l = [115, 112, 97, 99, 101]
  · rw [if_pos e7]; simp
  rw [if_neg e7]
  by_cases e8 : l = [99, 110, 116, 114, 108]
  · rw [if_pos e8]; simp
  rw [if_neg e8]
  by_cases e9 : l = [112, 114, 105, 110, 116]
  · rw [if_pos e9]; simp
  rw [if_neg e9]
  by_cases e10 : l = [103, 114, 97, 112, 104]
  · rw [if_pos e10]; simp
  rw [if_neg e10]
  by_cases e11 : l = [112, 117, 110, 99, 116]
  · rw [if_pos e11]; simp
  rw [if_neg e11]
  simp

theorem meas_two (n m : Nat) (h : m + 2 ≤ 2 * n) (x : Int) (hx : x = (m : Int) + 2) : 2 * n - (intOf (.int .i64 x)).toNat < 2 * n - (intOf (.int .i64 (m : Int))).toNat := by
  subst hx
  simp only [intOf]
  omega

theorem results_ct {P : Program} {fn : Func} {p u : Tmp} {ty : TypeId} (h : fn.results = #[.cell p ty, .tmp u]) (tmps : Array Value) (w : World) (g : Nat) (t : TypeId) (cs : Array Value) (fr : Nat × Nat) (d : TypeDesc)
    (hp : tmps.getD p undef = .pointer (some ⟨g, 0, none⟩)) (hg : w.heap[g]? = some (.cells cs t fr))
    (hu : P.underlying ty = some d) (hd : (match d with | .struct _ | .array _ _ => true | _ => false) = true) (hi : (P.info? ty).map (·.size) = some cs.size) :
    (results fn tmps).run P w = .ok (.tuple #[.agg cs, tmps.getD u undef]) w := results_row_tmp h tmps w g t cs fr d hp hg hu hd hi

set_option maxRecDepth 100000 in
set_option maxHeartbeats 2000000 in
theorem class_t (s : ByteArray) (w : World) :
    Calls Try.prog 18 #[.string s] w fun e w' => e = .returned (.tuple #[.agg (setRow (foldC zeroF (clsP s.toList))), .bool (decide (clsP s.toList ≠ []))]) ∧ Keep Nb w w' := by
  have hrg := fun wx => ranges_any s wx
  have hpl := clsP_len s.toList
  generalize clsP s.toList = ps at *
  obtain ⟨r, hr⟩ : ∃ r : ByteArray, r = ⟨(flatP ps).toArray⟩ := ⟨_, rfl⟩
  rw [← hr] at hrg
  have hrl : r.toList = flatP ps := by rw [hr, ByteArray.toList_mk]
  have hrs : r.size = 2 * ps.length := by rw [← toList_len, hrl, flat_len]
  have hne : (r.toList == []) = !(decide (ps ≠ [])) := by
    rw [hrl]; cases ps with
    | nil => rfl
    | cons p q => simp [flatP]
  have HRG := Lib.hid hrg
  have HRL := Lib.hid hrl
  have HNE := Lib.hid hne
  have HRS := Lib.hid hrs
  clear hrg hrl hr hne hrs
  go_enter Try.func18, Try.ntmps18
  go_wp2_with fail
  refine (HRG.out _).mono ?_
  rintro e w2 ⟨rfl, hk2⟩
  have hb2 : Blk w2 (w.heap.size + 1) (setRow zeroF) 26 := (Blk.new' (by simp) (setRow zeroF) 26).keep hk2 id
  have hr2 : Blk w2 w.heap.size (setRow zeroF) 26 := ((Blk.new w (setRow zeroF) 26).alloc _).keep hk2 id
  have hk2' : Keep Nb w w2 := Keep.trans (by repeat (first | assumption | exact Keep.refl _ _ | refine Keep.alloc ?_ _ | refine Keep.drew ?_ | refine Keep.setCell ?_ (Or.inl (by simp)) _ | refine Keep.setRow ?_ (Or.inl (by simp)) _)) hk2 (fun _ _ h => h)
  clear hk2
  go_wp2_with fail
  go_loopw [6] (fun i wr => ∃ (j m : Nat) (g : Nat → Int), j ≤ ps.length ∧ i = .int .i64 m ∧ m = 2 * j ∧ Hid (g = foldC zeroF (ps.take j)) ∧ Blk wr (w.heap.size + 1) (setRow g) 26 ∧ Blk wr w.heap.size (setRow zeroF) 26 ∧ Keep Nb w wr) (fun i _ => 2 * ps.length - (intOf i).toNat)
  case atStart => exact ⟨0, 0, zeroF, by omega, rfl, rfl, Lib.hid rfl, hb2, hr2, hk2'⟩
  case round =>
    obtain ⟨j, m, g, hj, rfl, hm, hg, hb, hr, hk⟩ := hrel
    clear hb2 hr2 hk2'
    have hrs := HRS.out
    by_cases hlt : j < ps.length
    · obtain ⟨g1, g2⟩ := flat_get ps j hlt
      rw [← HRL.out, ← hm] at g1 g2
      have htk : foldC zeroF (ps.take (j + 1)) = withF (foldC zeroF (ps.take j)) ps[j].1.toNat ps[j].2.toNat := by
        rw [List.take_succ_eq_append_getElem hlt, foldC, List.foldl_append]; rfl
      generalize ps[j] = q at g1 g2 htk
      obtain ⟨q1, q2⟩ := q
      obtain ⟨hi1, e1⟩ := byte_at g1
      obtain ⟨hi2, e2⟩ := byte_at g2
      simp only [] at htk
      have HTK := Lib.hid htk
      clear g1 g2 htk
      have hm0 : (0 : Int) ≤ (m : Int) := by omega
      have hm1 : (m : Int) < (r.size : Int) := by omega
      have hm2 : (m : Int) + 1 < (r.size : Int) := by omega
      have hm3 : (0 : Int) ≤ (m : Int) + 1 := by omega
      have hm4 : IntKind.i64.wrap ((m : Int) + 1) = (m : Int) + 1 := by rw [IntKind.wrap_i64]; omega
      have hm5 : wrap64 ((m : Int) + 2) = (m : Int) + 2 := by unfold wrap64; omega
      have c0 := hb.cell 0 (u := .int .u64 (g 0)) rfl
      have c1 := hb.cell 1 (u := .int .u64 (g 1)) rfl
      have c2 := hb.cell 2 (u := .int .u64 (g 2)) rfl
      have c3 := hb.cell 3 (u := .int .u64 (g 3)) rfl
      have lb := hb.lt
      have HM := Lib.hid hm
      have HMS : Hid (m + 2 ≤ 2 * ps.length) := Lib.hid (by omega)
      clear hm hrs
      go_wp2_with fail
      (refine wp_region_f [9] (InX Nb _) (by kernel_rfl) (InX.mk (Keep.drew (Keep.refl _ _))) (fun hI => ?_))
      have xx : ∀ k, ¬ Nb k := fun _ h => h
      have hK0 : Keep Nb wr wr.drew := (Keep.refl _ _).drew
      generalize wr.drew = x0 at hK0 hI ⊢
      (refine wpF_take (v := ?_) 0 rfl (by kernel_rfl) (by kernel_rfl) (by kernel_rfl) (by kernel_rfl) (fun _ _ _ h => h) (by assumption) rfl ?_ ?_; rotate_left; (focus (rintro _ ⟨E, rfl⟩; go_simp; (try with_reducible rfl))); simp only [Act.put, List.getElem_toArray, List.getElem_cons_succ, List.getElem_cons_zero, List.setIfInBounds_toArray, List.set_cons_zero, List.set_cons_succ])
      (refine wpF_take (v := ?_) 1 rfl (by kernel_rfl) (by kernel_rfl) (by kernel_rfl) (by kernel_rfl) (fun _ _ _ h => h) (by assumption) rfl ?_ ?_; rotate_left; (focus (rintro _ ⟨E, rfl⟩; go_simp; (try with_reducible rfl))); simp only [Act.put, List.getElem_toArray, List.getElem_cons_succ, List.getElem_cons_zero, List.setIfInBounds_toArray, List.set_cons_zero, List.set_cons_succ])
      (refine wpF_take (v := ?_) 2 rfl (by kernel_rfl) (by kernel_rfl) (by kernel_rfl) (by kernel_rfl) (fun _ _ _ h => h) (by assumption) rfl ?_ ?_; rotate_left; (focus (rintro _ ⟨E, rfl⟩; go_simp; (try with_reducible rfl))); simp only [Act.put, List.getElem_toArray, List.getElem_cons_succ, List.getElem_cons_zero, List.setIfInBounds_toArray, List.set_cons_zero, List.set_cons_succ])
      (refine wpF_take (v := ?_) 3 rfl (by kernel_rfl) (by kernel_rfl) (by kernel_rfl) (by kernel_rfl) (fun _ _ _ h => h) (by assumption) rfl ?_ ?_; rotate_left; (focus (rintro _ ⟨E, rfl⟩; go_simp; (try with_reducible rfl))); simp only [Act.put, List.getElem_toArray, List.getElem_cons_succ, List.getElem_cons_zero, List.setIfInBounds_toArray, List.set_cons_zero, List.set_cons_succ])
      (refine wpF_take (v := ?_) 4 rfl (by kernel_rfl) (by kernel_rfl) (by kernel_rfl) (by kernel_rfl) (fun _ _ _ h => h) (by assumption) rfl ?_ ?_; rotate_left; (focus (rintro _ ⟨E, rfl⟩; go_simp; (try with_reducible rfl))); simp only [Act.put, List.getElem_toArray, List.getElem_cons_succ, List.getElem_cons_zero, List.setIfInBounds_toArray, List.set_cons_zero, List.set_cons_succ])
      (refine wpF_take (v := ?_) 5 rfl (by kernel_rfl) (by kernel_rfl) (by kernel_rfl) (by kernel_rfl) (fun _ _ _ h => h) (by assumption) rfl ?_ ?_; rotate_left; (focus (rintro _ ⟨E, rfl⟩; go_simp; (try with_reducible rfl))); simp only [Act.put, List.getElem_toArray, List.getElem_cons_succ, List.getElem_cons_zero, List.setIfInBounds_toArray, List.set_cons_zero, List.set_cons_succ])
      (refine wpF_take (v := ?_) 6 rfl (by kernel_rfl) (by kernel_rfl) (by kernel_rfl) (by kernel_rfl) (fun _ _ _ h => h) (by assumption) rfl ?_ ?_; rotate_left; (focus (rintro _ ⟨E, rfl⟩; go_simp; (try with_reducible rfl))); simp only [Act.put, List.getElem_toArray, List.getElem_cons_succ, List.getElem_cons_zero, List.setIfInBounds_toArray, List.set_cons_zero, List.set_cons_succ])
      (refine wpF_take (v := ?_) 7 rfl (by kernel_rfl) (by kernel_rfl) (by kernel_rfl) (by kernel_rfl) (fun _ _ _ h => h) (by assumption) rfl ?_ ?_; rotate_left; (focus (rintro _ ⟨E, rfl⟩; go_simp; (try with_reducible rfl))); simp only [Act.put, List.getElem_toArray, List.getElem_cons_succ, List.getElem_cons_zero, List.setIfInBounds_toArray, List.set_cons_zero, List.set_cons_succ])
      have hbX := hb.keep hK0 id
      have hrX := hr.keep hK0 id
      (refine wpF_one 8 rfl (by kernel_rfl) rfl (fun K hK => ?_))
      go_simp
      refine (with_t g q1.toNat q2.toNat (UInt8.toNat_lt q1) (UInt8.toNat_lt q2) _).mono ?_
      rintro e x1 ⟨he, hkn⟩
      subst he
      replace hbX := hbX.keep hkn id
      replace hrX := hrX.keep hkn id
      replace hK0 := Keep.trans hK0 hkn (fun _ _ h => h)
      clear hkn
      simp only [setRow]
      (refine hK _ _ (fun _ => InX.mk hK0) (fun hI => ?_); have hI := hI (by simp); clear hK K; try simp only [Act.put, List.getElem_toArray, List.getElem_cons_succ, List.getElem_cons_zero, List.setIfInBounds_toArray, List.set_cons_zero, List.set_cons_succ])
      (refine wpF_one 9 rfl (by kernel_rfl) rfl (fun K hK => ?_))
      refine wp_store_row 26 (.tmp 4) (.tmp 23) rfl (w.heap.size + 1) _ rfl rfl 26 _ hbX sizeS1 rfl (by simp [Value.oneCell']) ?_
      (refine hK _ _ (fun h => absurd (by simp) h) (fun _ => ?_); clear hK K; try simp only [Act.put, List.getElem_toArray, List.getElem_cons_succ, List.getElem_cons_zero, List.setIfInBounds_toArray, List.set_cons_zero, List.set_cons_succ])
      (refine wpF_done (by kernel_rfl) ?_ _)
      have hb3 : Blk (x1.setRow (w.heap.size + 1) (setRow (withF g q1.toNat q2.toNat))) (w.heap.size + 1) (setRow (withF g q1.toNat q2.toNat)) 26 := hbX.setRow _
      have hr3 : Blk (x1.setRow (w.heap.size + 1) (setRow (withF g q1.toNat q2.toNat))) w.heap.size (setRow zeroF) 26 := hrX.setRowOther (by omega) _
      have hk3 : Keep Nb w (x1.setRow (w.heap.size + 1) (setRow (withF g q1.toNat q2.toNat))) := Keep.setRow (hk.trans hK0 (fun _ _ h => h)) (Or.inl (by omega)) _
      have HB3 := Lib.hid hb3
      have HR3 := Lib.hid hr3
      have HK3 := Lib.hid hk3
      clear hb3 hr3 hk3 hbX hrX hb hr
      go_wp2_with fail
      go_roundw
      case rel => exact ⟨j + 1, m + 2, _, by omega, by go_num, by have := HM.out; omega, Lib.hid (by rw [HTK.out, hg.out]), HB3.out, HR3.out, HK3.out⟩
      case measure => exact meas_two ps.length m HMS.out _ hm5
    · obtain rfl : j = ps.length := by omega
      have hgv : g = foldC zeroF ps := by rw [hg.out, List.take_length]
      have HG := Lib.hid hgv
      have hm1 : ¬ (m : Int) < (r.size : Int) := by omega
      have hm2 : decide ((m : Int) < (r.size : Int)) = false := by simp; omega
      have hm3 : decide (m < r.size) = false := by simp; omega
      have hne := HNE.out
      have hb' := hb
      have hr' := hr
      clear hb hr hgv hm hrs
      go_wp2_with (first
        | (refine wpList_load_row rfl 26 (.tmp 4) rfl (w.heap.size + 1) rfl 26 _ (0, 0) _ hb' Try.underlying26 rfl sizeS1 ?_)
        | (refine wpList_store_row rfl 26 (.tmp 2) (.tmp 24) rfl w.heap.size _ rfl rfl 26 _ hr' sizeS1 rfl (by simp [setRow, Value.oneCell']) ?_))
      have hr2 : Blk (wr.setRow w.heap.size (setRow g)) w.heap.size (setRow g) 26 := hr'.setRow _
      refine bodyPost_ret (results_ct Try.results18 _ _ w.heap.size 26 _ (0, 0) _ rfl hr2 Try.underlying26 rfl sizeS1) rfl ⟨by rw [← HG.out]; go_simp, Keep.setRow hk (Or.inl (by omega)) _⟩

end Go.Proofs.Ytfjipiibkmapkaa
