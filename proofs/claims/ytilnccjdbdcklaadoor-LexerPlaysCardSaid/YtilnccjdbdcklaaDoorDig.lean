/- The digits of a number: digits of the law. -/
import Derived.Test.YtilnccjdbdcklaaDoorHeld
import Derived.Test.YtilnccjdbdcklaaDoorEsc
import Derived.Test.YtilnccjdbdcklaaDoorTrim
import Derived.Deep.DeepCutAuto
import Derived.Laws.Runes
namespace Go.Proofs.YtilnccjdbdcklaaDoor
set_option linter.unusedVariables false
set_option linter.unusedSimpArgs false
open Go.RowKit

/-- The digits of n. -/
def digF : Nat → Nat → List UInt8
  | 0, n => [UInt8.ofNat (48 + n % 10)]
  | k + 1, n => if n < 10 then [UInt8.ofNat (48 + n)] else digF k (n / 10) ++ [UInt8.ofNat (48 + n % 10)]
theorem digF_len : ∀ k n, (digF k n).length ≤ k + 1
  | 0, n => by simp [digF]
  | k + 1, n => by
    unfold digF
    split
    · simp
    · have := digF_len k (n / 10)
      simp only [List.length_append, List.length_cons, List.length_nil]; omega

theorem wrap8 (x : Int) (h0 : 0 ≤ x) (h1 : x < 256) : IntKind.u8.wrap x = x := by
  have a1 : IntKind.u8.bits = 8 := rfl
  have a2 : IntKind.u8.signed = false := rfl
  simp [IntKind.wrap, a1, a2]
  omega
theorem many_cons3 {i : Nat} {rs : List Nat} {p : Nat → Prop} (h1 : p i) (h2 : ∀ j, j ∈ rs → p j) : ∀ j, j ∈ i :: rs → p j := fun j hj => by
  rcases List.mem_cons.1 hj with rfl | hj
  · exact h1
  · exact h2 j hj
theorem many_nil3 {p : Nat → Prop} : ∀ j, j ∈ ([] : List Nat) → p j := fun j hj => by simp at hj
theorem add_sz3 (a b : ByteArray) : (a ++ b).data.toList = a.data.toList ++ b.data.toList := by
  rw [ByteArray.data_append, Array.toList_append]
theorem ba_eq3 {a b : ByteArray} (h : a.data.toList = b.data.toList) : a = b := by
  cases a; cases b; congr 1; exact Array.toList_inj.1 h
theorem conv_at (w : World) (g : Nat) (x : Int) (d : UInt8) (h : (d.toNat : Int) = x) (hb : Blk w g #[.int .u8 x] 5) : (convert 43 9 (.slice (some ⟨g, 0, none⟩) 1 1)).run Tryd.prog w = .ok (.string ⟨#[d]⟩) w := by
  subst h
  exact run_convert_bytes_back (P := Tryd.prog) w 43 9 5 ⟨g, 0, none⟩ 1 [d] Tryd.underlying43 Tryd.underlying5 Tryd.underlying9 (fun j hj => by
    have : j = 0 := by simp at hj; omega
    subst this
    rw [Addr.add_lit]
    exact hb.cell 0 rfl)

theorem conv_one (w : World) (x : Int) (d : UInt8) (h : (d.toNat : Int) = x) : (convert 43 9 (.slice (some ⟨w.heap.size, 0, none⟩) 1 1)).run Tryd.prog (w.alloc (.cells #[.int .u8 x] 5)) = .ok (.string ⟨#[d]⟩) (w.alloc (.cells #[.int .u8 x] 5)) := by
  subst h; exact one_conv w d

set_option maxHeartbeats 2000000 in
set_option maxRecDepth 100000 in
theorem digits_any : ∀ (k n : Nat) (w : World), n < 10 ^ (k + 1) → n ≤ 1000000000 → k ≤ 100 →
    Calls Tryd.prog 7 #[.int .i64 n] w fun e w' => e = .returned (.string ⟨(digF k n).toArray⟩) ∧ Keep Nb w w'
  | k, n, w, hk, hn, hkk => by
    by_cases h10 : n < 10
    · have m0 : decide ((n : Int) < 10) = true := decide_eq_true (by omega)
      have e1 : ((UInt8.ofNat (48 + n)).toNat : Int) = 48 + (n : Int) := by rw [UInt8.toNat_ofNat_of_lt' (by have : UInt8.size = 256 := rfl; omega)]; omega
      have hcv := conv_one w (48 + (n : Int)) (UInt8.ofNat (48 + n)) e1
      have HD : Hid (digF k n = [UInt8.ofNat (48 + n)]) := Lib.hid (by
        cases k with
        | zero => unfold digF; rw [Nat.mod_eq_of_lt h10]
        | succ k => unfold digF; rw [if_pos h10])
      clear e1
      generalize UInt8.ofNat (48 + n) = d at hcv HD
      go_enter Tryd.func7, Tryd.ntmps7
      go_wp2_with fail
      go_ret
      exact ⟨by rw [HD.out]; rfl, Keep.alloc (Keep.refl _ _) _⟩
    · obtain ⟨k, rfl⟩ : ∃ j, k = j + 1 := by
        cases k with
        | zero => omega
        | succ j => exact ⟨j, rfl⟩
      have m0 : decide ((n : Int) < 10) = false := decide_eq_false (by omega)
      have hdv : ((n : Int) / 10) = ((n / 10 : Nat) : Int) := by omega
      have HIH : Hid (∀ wx : World, Calls Tryd.prog 7 #[.int .i64 ((n : Int) / 10)] wx fun e w' => e = .returned (.string ⟨(digF k (n / 10)).toArray⟩) ∧ Keep Nb wx w') := Lib.hid (fun wx => by
        rw [hdv]; exact digits_any k (n / 10) wx (by rw [Nat.pow_succ] at hk; exact Nat.div_lt_of_lt_mul (by omega)) (by omega) (by omega))
      clear hdv
      have e1 : ((UInt8.ofNat (48 + n % 10)).toNat : Int) = 48 + (n : Int) % 10 := by rw [UInt8.toNat_ofNat_of_lt' (by have : UInt8.size = 256 := rfl; omega)]; omega
      have HCV := Lib.hid (fun wx => conv_one wx (48 + (n : Int) % 10) (UInt8.ofNat (48 + n % 10)) e1)
      have HC2 := Lib.hid (fun g wx hb => conv_at wx g (48 + (n : Int) % 10) (UInt8.ofNat (48 + n % 10)) e1 hb)
      have HD : Hid (digF (k + 1) n = digF k (n / 10) ++ [UInt8.ofNat (48 + n % 10)]) := Lib.hid (by conv => lhs; unfold digF; rw [if_neg h10])
      have HZ := Lib.hid (digF_len k (n / 10))
      clear e1
      generalize UInt8.ofNat (48 + n % 10) = d at HCV HC2 HD
      generalize hq : digF k (n / 10) = q at HIH HD HZ
      have nz : ¬ 9223372036854775807 < q.length + 1 := by have := HZ.out; omega
      clear hq h10 hk
      go_enter Tryd.func7, Tryd.ntmps7
      go_upto_region 3 with fail
      have wa : IntKind.i64.wrap ((n : Int) / 10) = (n : Int) / 10 := wrap_small _ (by omega) (by omega)
      have wb : (n : Int).tmod 10 = (n : Int) % 10 := Int.tmod_eq_emod_of_nonneg (by omega)
      have wc : IntKind.i64.wrap (48 + (n : Int) % 10) = 48 + (n : Int) % 10 := wrap_small _ (by omega) (by omega)
      have wd : IntKind.u8.wrap (48 + (n : Int) % 10) = 48 + (n : Int) % 10 := wrap8 _ (by omega) (by omega)
      (refine wp_region_f [10] (InX Nb _) (by kernel_rfl) (InX.mk (Keep.drew (Keep.refl _ _))) (fun hI => ?_))
      (refine wpF_take (v := ?_) 0 rfl (by kernel_rfl) (by kernel_rfl) (by kernel_rfl) (by kernel_rfl) (fun _ _ _ h => h) (by assumption) rfl ?_ ?_; rotate_left; (focus (rintro _ ⟨E, rfl⟩; go_simp; (try with_reducible rfl))); simp only [Act.put, List.getElem_toArray, List.getElem_cons_succ, List.getElem_cons_zero, List.setIfInBounds_toArray, List.set_cons_zero, List.set_cons_succ])
      (refine wpF_take (v := ?_) 1 rfl (by kernel_rfl) (by kernel_rfl) (by kernel_rfl) (by kernel_rfl) (fun _ _ _ h => h) (by assumption) rfl ?_ ?_; rotate_left; (focus (rintro _ ⟨E, rfl⟩; go_simp; (try with_reducible rfl))); simp only [Act.put, List.getElem_toArray, List.getElem_cons_succ, List.getElem_cons_zero, List.setIfInBounds_toArray, List.set_cons_zero, List.set_cons_succ])
      (refine wpF_take (v := ?_) 3 rfl (by kernel_rfl) (by kernel_rfl) (by kernel_rfl) (by kernel_rfl) (fun _ _ _ h => h) (by assumption) rfl ?_ ?_; rotate_left; (focus (rintro _ ⟨E, rfl⟩; go_simp; (try with_reducible rfl))); simp only [Act.put, List.getElem_toArray, List.getElem_cons_succ, List.getElem_cons_zero, List.setIfInBounds_toArray, List.set_cons_zero, List.set_cons_succ])
      (refine wpF_take (v := ?_) 4 rfl (by kernel_rfl) (by kernel_rfl) (by kernel_rfl) (by kernel_rfl) (fun _ _ _ h => h) (by assumption) rfl ?_ ?_; rotate_left; (focus (rintro _ ⟨E, rfl⟩; go_simp; (try with_reducible rfl))); simp only [Act.put, List.getElem_toArray, List.getElem_cons_succ, List.getElem_cons_zero, List.setIfInBounds_toArray, List.set_cons_zero, List.set_cons_succ])
      (refine wpF_take (v := ?_) 5 rfl (by kernel_rfl) (by kernel_rfl) (by kernel_rfl) (by kernel_rfl) (fun _ _ _ h => h) (by assumption) rfl ?_ ?_; rotate_left; (focus (rintro _ ⟨E, rfl⟩; go_simp; (try with_reducible rfl))); simp only [Act.put, List.getElem_toArray, List.getElem_cons_succ, List.getElem_cons_zero, List.setIfInBounds_toArray, List.set_cons_zero, List.set_cons_succ])
      (refine wpF_take (v := ?_) 6 rfl (by kernel_rfl) (by kernel_rfl) (by kernel_rfl) (by kernel_rfl) (fun _ _ _ h => h) (by assumption) rfl ?_ ?_; rotate_left; (focus (rintro _ ⟨E, rfl⟩; go_simp; (try with_reducible rfl))); simp only [Act.put, List.getElem_toArray, List.getElem_cons_succ, List.getElem_cons_zero, List.setIfInBounds_toArray, List.set_cons_zero, List.set_cons_succ])
      have hK0 : Keep Nb w w.drew := (Keep.refl _ _).drew
      generalize w.drew = x0 at hK0 hI ⊢
      refine wpF_many [2, 7] (by kernel_rfl) (by simp) ?_
      refine many_cons3 ?_ (many_cons3 ?_ many_nil3)
      · refine wpF_way 2 rfl rfl (fun K hK => ?_)
        go_simp
        refine (HIH.out x0).mono ?_
        rintro e x1 ⟨rfl, hkn⟩
        replace hK0 := Keep.trans hK0 hkn (fun _ _ h => h)
        clear hkn
        (refine hK _ _ (fun _ => InX.mk hK0) (fun hI => ?_); have hI := hI (by simp); clear hK K; try simp only [Act.put, List.getElem_toArray, List.getElem_cons_succ, List.getElem_cons_zero, List.setIfInBounds_toArray, List.set_cons_zero, List.set_cons_succ])
        (refine wpF_one 7 rfl (by kernel_rfl) rfl (fun K hK => ?_))
        have hcv := HCV.out x1
        have hK1 : Keep Nb w (x1.alloc (.cells #[.int .u8 (48 + (n : Int) % 10)] 5)) := Keep.alloc hK0 _
        go_simp
        (refine hK _ _ (fun _ => InX.mk hK1) (fun hI => ?_); have hI := hI (by simp); clear hK K; try simp only [Act.put, List.getElem_toArray, List.getElem_cons_succ, List.getElem_cons_zero, List.setIfInBounds_toArray, List.set_cons_zero, List.set_cons_succ])
        (refine wpF_one 8 rfl (by kernel_rfl) rfl (fun K hK => ?_))
        go_simp
        (refine hK _ _ (fun _ => InX.mk hK1) (fun hI => ?_); have hI := hI (by simp); clear hK K; try simp only [Act.put, List.getElem_toArray, List.getElem_cons_succ, List.getElem_cons_zero, List.setIfInBounds_toArray, List.set_cons_zero, List.set_cons_succ])
        (refine wpF_one 9 rfl (by kernel_rfl) rfl (fun K hK => ?_))
        go_simp
        (refine hK _ _ (fun _ => InX.mk hK1) (fun hI => ?_); have hI := hI (by simp); clear hK K; try simp only [Act.put, List.getElem_toArray, List.getElem_cons_succ, List.getElem_cons_zero, List.setIfInBounds_toArray, List.set_cons_zero, List.set_cons_succ])
        (refine wpF_one 10 rfl (by kernel_rfl) rfl (fun K hK => ?_))
        go_simp
        (refine hK _ _ (fun h => absurd (by simp) h) (fun _ => ?_); clear hK K; try simp only [Act.put, List.getElem_toArray, List.getElem_cons_succ, List.getElem_cons_zero, List.setIfInBounds_toArray, List.set_cons_zero, List.set_cons_succ])
        (refine wpF_done (by kernel_rfl) ?_ _)
        go_wp2_with fail
        go_ret
        exact ⟨by rw [HD.out]; exact congrArg (fun z => Ending.returned (Value.string z)) (ba_eq3 (by rw [add_sz3])), hK1⟩
      · refine wpF_way 7 rfl rfl (fun K hK => ?_)
        have hcv := HCV.out x0
        have hK1 : Keep Nb w (x0.alloc (.cells #[.int .u8 (48 + (n : Int) % 10)] 5)) := Keep.alloc hK0 _
        have hB1 : Blk (x0.alloc (.cells #[.int .u8 (48 + (n : Int) % 10)] 5)) x0.heap.size #[.int .u8 (48 + (n : Int) % 10)] 5 := Blk.new x0 _ _
        go_simp
        (refine hK _ _ (fun _ => InX.mk hK1) (fun hI => ?_); have hI := hI (by simp); clear hK K; try simp only [Act.put, List.getElem_toArray, List.getElem_cons_succ, List.getElem_cons_zero, List.setIfInBounds_toArray, List.set_cons_zero, List.set_cons_succ])
        refine wpF_many [2, 8] (by kernel_rfl) (by simp) ?_
        refine many_cons3 ?_ (many_cons3 ?_ many_nil3)
        · refine wpF_way 2 rfl rfl (fun K hK => ?_)
          go_simp
          refine (HIH.out _).mono ?_
          rintro e x2 ⟨rfl, hkn⟩
          have hB2 := hB1.keep hkn id
          have hK2 := Keep.trans hK1 hkn (fun _ _ h => h)
          have hcv2 := HC2.out x0.heap.size x2 hB2
          clear hkn
          (refine hK _ _ (fun _ => InX.mk hK2) (fun hI => ?_); have hI := hI (by simp); clear hK K; try simp only [Act.put, List.getElem_toArray, List.getElem_cons_succ, List.getElem_cons_zero, List.setIfInBounds_toArray, List.set_cons_zero, List.set_cons_succ])
          (refine wpF_one 8 rfl (by kernel_rfl) rfl (fun K hK => ?_))
          go_simp
          (refine hK _ _ (fun _ => InX.mk hK2) (fun hI => ?_); have hI := hI (by simp); clear hK K; try simp only [Act.put, List.getElem_toArray, List.getElem_cons_succ, List.getElem_cons_zero, List.setIfInBounds_toArray, List.set_cons_zero, List.set_cons_succ])
          (refine wpF_one 9 rfl (by kernel_rfl) rfl (fun K hK => ?_))
          go_simp
          (refine hK _ _ (fun _ => InX.mk hK2) (fun hI => ?_); have hI := hI (by simp); clear hK K; try simp only [Act.put, List.getElem_toArray, List.getElem_cons_succ, List.getElem_cons_zero, List.setIfInBounds_toArray, List.set_cons_zero, List.set_cons_succ])
          (refine wpF_one 10 rfl (by kernel_rfl) rfl (fun K hK => ?_))
          go_simp
          (refine hK _ _ (fun h => absurd (by simp) h) (fun _ => ?_); clear hK K; try simp only [Act.put, List.getElem_toArray, List.getElem_cons_succ, List.getElem_cons_zero, List.setIfInBounds_toArray, List.set_cons_zero, List.set_cons_succ])
          (refine wpF_done (by kernel_rfl) ?_ _)
          go_wp2_with fail
          go_ret
          exact ⟨by rw [HD.out]; exact congrArg (fun z => Ending.returned (Value.string z)) (ba_eq3 (by rw [add_sz3])), hK2⟩
        · refine wpF_way 8 rfl rfl (fun K hK => ?_)
          go_simp
          (refine hK _ _ (fun _ => InX.mk hK1) (fun hI => ?_); have hI := hI (by simp); clear hK K; try simp only [Act.put, List.getElem_toArray, List.getElem_cons_succ, List.getElem_cons_zero, List.setIfInBounds_toArray, List.set_cons_zero, List.set_cons_succ])
          (refine wpF_one 2 rfl (by kernel_rfl) rfl (fun K hK => ?_))
          go_simp
          refine (HIH.out _).mono ?_
          rintro e x2 ⟨rfl, hkn⟩
          have hK2 := Keep.trans hK1 hkn (fun _ _ h => h)
          clear hkn
          (refine hK _ _ (fun _ => InX.mk hK2) (fun hI => ?_); have hI := hI (by simp); clear hK K; try simp only [Act.put, List.getElem_toArray, List.getElem_cons_succ, List.getElem_cons_zero, List.setIfInBounds_toArray, List.set_cons_zero, List.set_cons_succ])
          (refine wpF_one 9 rfl (by kernel_rfl) rfl (fun K hK => ?_))
          go_simp
          (refine hK _ _ (fun _ => InX.mk hK2) (fun hI => ?_); have hI := hI (by simp); clear hK K; try simp only [Act.put, List.getElem_toArray, List.getElem_cons_succ, List.getElem_cons_zero, List.setIfInBounds_toArray, List.set_cons_zero, List.set_cons_succ])
          (refine wpF_one 10 rfl (by kernel_rfl) rfl (fun K hK => ?_))
          go_simp
          (refine hK _ _ (fun h => absurd (by simp) h) (fun _ => ?_); clear hK K; try simp only [Act.put, List.getElem_toArray, List.getElem_cons_succ, List.getElem_cons_zero, List.setIfInBounds_toArray, List.set_cons_zero, List.set_cons_succ])
          (refine wpF_done (by kernel_rfl) ?_ _)
          go_wp2_with fail
          go_ret
          exact ⟨by rw [HD.out]; exact congrArg (fun z => Ending.returned (Value.string z)) (ba_eq3 (by rw [add_sz3])), hK2⟩

end Go.Proofs.YtilnccjdbdcklaaDoor
