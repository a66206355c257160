import Derived.Test.YtkidjbfapldmbaaZMc
import Derived.Laws.IdiomStrings
set_option linter.unusedVariables false
set_option linter.unusedSimpArgs false
namespace Go.Proofs.Ytkidjbfapldmbaa
open Go.RowKit P8
theorem toList_len (s : ByteArray) : s.toList.length = s.size := by rw [ByteArray.toList_eq]; rfl
theorem ext_toList (s : ByteArray) (a b : Nat) : (s.extract a b).toList = (s.toList.drop a).take (b - a) := by
 rw [ByteArray.toList_eq, ByteArray.toList_eq]
 simp [ByteArray.data_extract]
theorem ext_size (s : ByteArray) (a b : Nat) (hb : b ≤ s.size) : (s.extract a b).size = b - a := by
 rw [← toList_len, ext_toList, List.length_take, List.length_drop, toList_len]
 omega
theorem byte_at {s : ByteArray} {a : Nat} {c : UInt8} (h : s.toList[a]? = some c) : ∃ ha : a < s.size, s[a] = c := by
 obtain ⟨h1, h2⟩ := List.getElem?_eq_some_iff.1 h
 refine ⟨by rwa [toList_len] at h1, ?_⟩
 rw [← h2]
 simp [ByteArray.toList_eq]
 rfl
theorem lt10 {m : Nat} (h : m < 10) : m = 0 ∨ m = 1 ∨ m = 2 ∨ m = 3 ∨ m = 4 ∨ m = 5 ∨ m = 6 ∨ m = 7 ∨ m = 8 ∨ m = 9 := by omega
theorem fRow_has (T : ByteArray) (e : Env) (s : St) (c : Caps) (m : Nat) (h : m < 10) : (fRow T e s c)[39 + m]? = some (hasV (c m)) := by
 rcases lt10 h with rfl | rfl | rfl | rfl | rfl | rfl | rfl | rfl | rfl | rfl <;> rfl
theorem fRow_grp (T : ByteArray) (e : Env) (s : St) (c : Caps) (m : Nat) (h : m < 10) : (fRow T e s c)[29 + m]? = some (grpV (c m)) := by
 rcases lt10 h with rfl | rfl | rfl | rfl | rfl | rfl | rfl | rfl | rfl | rfl <;> rfl
def CapsOk (n : Nat) (c : Caps) : Prop := ∀ i a b, c i = some (a, b) → a ≤ b ∧ b ≤ n
def backI (e : Env) (m q : Nat) (c : Caps) : Int := match c m with
 | none => -1
 | some (a, b) => if (e.L.drop q).take (b - a) = (e.L.drop a).take (b - a) then ((b - a : Nat) : Int) else -1
set_option maxRecDepth 100000 in
set_option maxHeartbeats 1000000 in
theorem back_any (p : Nat) (T : ByteArray) (e : Env) (s : St) (c : Caps) (m q : Nat) (w : World) (hT : T.toList = e.L) (h6 : T.size ≤ 600) (hm : m < 10) (hq : q ≤ T.size) (hc : CapsOk T.size c) (hb : FAt w p T e s c) :
  Calls Try.prog 114 #[.pointer (some ⟨p, 0, none⟩), .int .i64 (m : Int), .int .i64 (q : Int)] w fun x w' => x = .returned (.int .i64 (backI e m q c)) ∧ Keep Nb w w' := by
 have c0 := hb.cell 0 (u := .string T) rfl
 have ch := hb.cell (39 + m) (fRow_has T e s c m hm)
 have cg := hb.cell (29 + m) (fRow_grp T e s c m hm)
 have hl := hb.lt
 have i0 : (0 : Int) ≤ (m : Int) := by omega
 have i1 : (m : Int) < 10 := by omega
 unfold hasV at ch
 unfold backI
 cases hcm : c m with
 | none =>
  rw [hcm] at ch
  have ch' : w.cell? ⟨p, 39 + m, none⟩ = some (.bool false) := ch
  clear hcm ch cg hc hb
  go_enter Try.func114, Try.ntmps114
  go_wp2_with fail
  go_ret
  exact ⟨rfl, Keep.refl _ _⟩
 | some ab =>
  obtain ⟨a, b⟩ := ab
  obtain ⟨hab, hbl⟩ := hc m a b hcm
  rw [hcm] at ch cg
  have ch' : w.cell? ⟨p, 39 + m, none⟩ = some (.bool true) := ch
  have cg' : w.cell? ⟨p, 29 + m, none⟩ = some (.complex .f64 (F a) (F b)) := cg
  have HX := Lib.hid (fun wx => text_any T a b hab hbl h6 wx)
  have hz := ext_size T a b hbl
  have hx : (T.extract a b).toList = (e.L.drop a).take (b - a) := by rw [ext_toList, hT]
  have hxl : ((e.L.drop a).take (b - a)).length = b - a := by rw [List.length_take, List.length_drop, ← hT, toList_len]; omega
  have hy : (T.extract q (q + (b - a))).toList = (e.L.drop q).take (b - a) := by rw [ext_toList, hT, show q + (b - a) - q = b - a by omega]
  have hyl : ((e.L.drop q).take (b - a)).length = min (b - a) (T.size - q) := by rw [List.length_take, List.length_drop, ← hT, toList_len]
  simp only []
  obtain ⟨t, ht⟩ : ∃ t, t = T.extract a b := ⟨_, rfl⟩
  rw [← ht] at HX hz hx
  have j0 : (0 : Int) ≤ (q : Int) := by omega
  have j1 : (q : Int) ≤ (q : Int) + ((b - a : Nat) : Int) := by omega
  obtain ⟨k, hk⟩ : ∃ k, k = b - a := ⟨_, rfl⟩
  rw [← hk] at hz hx hxl hy hyl j1 ⊢
  obtain ⟨m2, hm2⟩ : ∃ m2, T.size = q + m2 := ⟨T.size - q, by omega⟩
  have HW1 := Lib.hid (show wrap64 ((T.size : Int) - (q : Int)) = (m2 : Int) by unfold wrap64; omega)
  have HW2 := Lib.hid (show wrap64 ((q : Int) + (k : Int)) = (q : Int) + (k : Int) by unfold wrap64; omega)
  have hz2 : ((t.size : Nat) : Int) = (k : Int) := by omega
  by_cases h1 : m2 < k
  ·have g1 : decide ((m2 : Int) < (k : Int)) = true := by simp; omega
   have g2 : decide (m2 < k) = true := by simp; omega
   have g3 : decide ((T.size : Int) - (q : Int) < (k : Int)) = true := by simp; omega
   have HN := Lib.hid (show ¬ (e.L.drop q).take k = (e.L.drop a).take k from fun h => by rw [h, hxl] at hyl; omega)
   rw [if_neg HN.out]
   clear hcm ch cg hc hb hx hxl hy hyl ht hk h1 hab hbl hm2
   go_enter Try.func114, Try.ntmps114
   go_wp2_with fail
   (refine wp_region_f [12] (InX Nb _) (by kernel_rfl) (InX.mk (Keep.drew (Keep.refl _ _))) (fun hI => ?_))
   have xx : ∀ k, ¬ Nb k := fun _ h => h
   have hK0 : Keep Nb w w.drew := (Keep.refl _ _).drew
   generalize w.drew = x0 at hK0 hI ⊢
   (refine wpI_from 0 ?_; (iterate 11 ((first | (refine wpI_take (v := ?_) rfl (by kernel_rfl) (fun _ _ _ h => h) hI rfl ?_ ?_; rotate_left; (focus (rintro _ ⟨E, rfl⟩; go_simp; (try with_reducible rfl)))) | refine wpI_skip rfl (by kernel_rfl) (fun _ _ _ h => h) hI rfl ?_); simp only [Act.put, tk, Nat.reduceAdd])); refine wpI_till ?_)
   (refine wpF_one 11 rfl (by kernel_rfl) rfl (fun K hK => ?_))
   go_simp
   refine (HX.out _).mono ?_
   rintro x x1 ⟨he, hw⟩
   subst he
   subst hw
   (refine hK _ _ (fun _ => InX.mk hK0) (fun hI => ?_); have hI := hI (by simp); clear hK K; try simp only [Act.put, tk])
   (refine wpF_one 12 rfl (by kernel_rfl) rfl (fun K hK => ?_))
   go_simp
   (refine hK _ _ (fun h => absurd (by simp) h) (fun _ => ?_); clear hK K; try simp only [Act.put, tk])
   (refine wpF_done (by kernel_rfl) ?_ _)
   have c0x := hK0.cell c0 (fun h => h)
   have w1 := HW1.out
   have w2 := HW2.out
   go_wp2_with fail
   go_ret
   exact ⟨rfl, hK0⟩
  ·have g1 : decide ((m2 : Int) < (k : Int)) = false := by simp; omega
   have g2 : decide (m2 < k) = false := by simp; omega
   have g3 : decide ((T.size : Int) - (q : Int) < (k : Int)) = false := by simp; omega
   have j2 : (q : Int) + (k : Int) ≤ (T.size : Int) := by omega
   have j3 : (0 : Int) ≤ (q : Int) + (k : Int) := by omega
   by_cases h2 : (e.L.drop q).take k = (e.L.drop a).take k
   ·have hs : ((T.extract q (q + k)).toList == t.toList) = true := by rw [hx, hy, h2]; simp
    have HN := Lib.hid h2
    rw [if_pos HN.out]
    clear hcm ch cg hc hb hx hxl hy hyl ht hk h1 hab hbl hm2 h2
    go_enter Try.func114, Try.ntmps114
    go_wp2_with fail
    (refine wp_region_f [12] (InX Nb _) (by kernel_rfl) (InX.mk (Keep.drew (Keep.refl _ _))) (fun hI => ?_))
    have xx : ∀ k, ¬ Nb k := fun _ h => h
    have hK0 : Keep Nb w w.drew := (Keep.refl _ _).drew
    generalize w.drew = x0 at hK0 hI ⊢
    (refine wpI_from 0 ?_; (iterate 11 ((first | (refine wpI_take (v := ?_) rfl (by kernel_rfl) (fun _ _ _ h => h) hI rfl ?_ ?_; rotate_left; (focus (rintro _ ⟨E, rfl⟩; go_simp; (try with_reducible rfl)))) | refine wpI_skip rfl (by kernel_rfl) (fun _ _ _ h => h) hI rfl ?_); simp only [Act.put, tk, Nat.reduceAdd])); refine wpI_till ?_)
    (refine wpF_one 11 rfl (by kernel_rfl) rfl (fun K hK => ?_))
    go_simp
    refine (HX.out _).mono ?_
    rintro x x1 ⟨he, hw⟩
    subst he
    subst hw
    (refine hK _ _ (fun _ => InX.mk hK0) (fun hI => ?_); have hI := hI (by simp); clear hK K; try simp only [Act.put, tk])
    (refine wpF_one 12 rfl (by kernel_rfl) rfl (fun K hK => ?_))
    go_simp
    (refine hK _ _ (fun h => absurd (by simp) h) (fun _ => ?_); clear hK K; try simp only [Act.put, tk])
    (refine wpF_done (by kernel_rfl) ?_ _)
    have c0x := hK0.cell c0 (fun h => h)
    have w1 := HW1.out
    have w2 := HW2.out
    go_wp2_with fail
    go_ret
    exact ⟨rfl, hK0⟩
   ·have hs : ((T.extract q (q + k)).toList == t.toList) = false := by rw [hx, hy]; exact beq_eq_false_iff_ne.2 h2
    have HN := Lib.hid h2
    rw [if_neg HN.out]
    clear hcm ch cg hc hb hx hxl hy hyl ht hk h1 hab hbl hm2 h2
    go_enter Try.func114, Try.ntmps114
    go_wp2_with fail
    (refine wp_region_f [12] (InX Nb _) (by kernel_rfl) (InX.mk (Keep.drew (Keep.refl _ _))) (fun hI => ?_))
    have xx : ∀ k, ¬ Nb k := fun _ h => h
    have hK0 : Keep Nb w w.drew := (Keep.refl _ _).drew
    generalize w.drew = x0 at hK0 hI ⊢
    (refine wpI_from 0 ?_; (iterate 11 ((first | (refine wpI_take (v := ?_) rfl (by kernel_rfl) (fun _ _ _ h => h) hI rfl ?_ ?_; rotate_left; (focus (rintro _ ⟨E, rfl⟩; go_simp; (try with_reducible rfl)))) | refine wpI_skip rfl (by kernel_rfl) (fun _ _ _ h => h) hI rfl ?_); simp only [Act.put, tk, Nat.reduceAdd])); refine wpI_till ?_)
    (refine wpF_one 11 rfl (by kernel_rfl) rfl (fun K hK => ?_))
    go_simp
    refine (HX.out _).mono ?_
    rintro x x1 ⟨he, hw⟩
    subst he
    subst hw
    (refine hK _ _ (fun _ => InX.mk hK0) (fun hI => ?_); have hI := hI (by simp); clear hK K; try simp only [Act.put, tk])
    (refine wpF_one 12 rfl (by kernel_rfl) rfl (fun K hK => ?_))
    go_simp
    (refine hK _ _ (fun h => absurd (by simp) h) (fun _ => ?_); clear hK K; try simp only [Act.put, tk])
    (refine wpF_done (by kernel_rfl) ?_ _)
    have c0x := hK0.cell c0 (fun h => h)
    have w1 := HW1.out
    have w2 := HW2.out
    go_wp2_with fail
    go_ret
    exact ⟨rfl, hK0⟩
end Go.Proofs.Ytkidjbfapldmbaa
