/- For every input BracketNot returns true. -/
import Derived.Test.YtfjipiibkmapkaaPAny
import Derived.Test.YtfjipiibkmapkaaEqS
namespace Go.Proofs.Ytfjipiibkmapkaa
set_option linter.unusedVariables false
set_option linter.unusedSimpArgs false
open Go.RowKit
attribute [local go_sem] eqi24 eqi26 setEq_self

theorem loopF_le : ∀ (fu : Nat) {b : Bool} {acc : Nat → Int} {l : List UInt8} {n : Nat} {t : Nat → Int} {k : Nat}, loopF fu b acc l n = some (t, k) → k ≤ n + l.length
  | 0, _, _, _, _, _, _, h => by cases h
  | fu + 1, b, acc, l, n, t, k, h => by
    rw [loopF] at h
    split at h
    · rename_i hp
      cases h
      have := preB_len hp.2
      simp only [List.length_cons, List.length_nil] at this
      omega
    · split at h
      · cases h
      · rename_i u j hm
        have h1 := memberF_len hm
        have h2 := loopF_le fu h
        rw [List.length_drop] at h2
        omega
theorem loopF_move : ∀ (fu : Nat) (b : Bool) (acc : Nat → Int) (l : List UInt8) (n d : Nat), loopF fu b acc l (n + d) = (loopF fu b acc l n).map fun r => (r.1, r.2 + d)
  | 0, _, _, _, _, _ => rfl
  | fu + 1, b, acc, l, n, d => by
    rw [loopF, loopF]
    split
    · simp only [Option.map_some]
      congr 2
      omega
    · cases memberF l with
      | none => rfl
      | some u =>
        obtain ⟨t, j⟩ := u
        simp only []
        rw [show n + d + j = n + j + d by omega]
        exact loopF_move fu _ _ _ _ d
theorem loopF_fuel : ∀ (fu gu : Nat) (b : Bool) (acc : Nat → Int) (l : List UInt8) (n : Nat), l.length < fu → l.length < gu → loopF fu b acc l n = loopF gu b acc l n
  | 0, _, _, _, _, _, h, _ => by omega
  | fu + 1, 0, _, _, _, _, _, h => by omega
  | fu + 1, gu + 1, b, acc, l, n, h1, h2 => by
    rw [loopF, loopF]
    split
    · rfl
    · cases hm : memberF l with
      | none => rfl
      | some u =>
        obtain ⟨t, j⟩ := u
        have := memberF_len hm
        simp only []
        exact loopF_fuel fu gu _ _ _ _ (by rw [List.length_drop]; omega) (by rw [List.length_drop]; omega)

theorem not_two (l : List UInt8) (h : preB [94] l = false) :
    (∃ (f : Nat → Int) (n : Nat), parseV (91 :: l) 0 = .tuple #[.agg (setRow f), .int .i64 (n : Int), .int .i64 0] ∧ parseV (91 :: 94 :: l) 0 = .tuple #[.agg (setRow (notF f)), .int .i64 ((n : Int) + 1), .int .i64 0] ∧ n ≤ l.length + 1) ∨
    (parseV (91 :: l) 0 = .tuple #[.agg (setRow zeroF), .int .i64 0, .int .i64 10] ∧ parseV (91 :: 94 :: l) 0 = .tuple #[.agg (setRow zeroF), .int .i64 0, .int .i64 10]) := by
  have e1 : parseV (91 :: l) 0 = brV false (loopF (l.length + 2) true zeroF l 1) := by
    rw [parseV, if_pos ⟨by omega, rfl⟩]
    show brV (preB [94] l) (parseF (91 :: l) 0) = _
    rw [h, parseF]
    show brV false (if preB [94] l then _ else _) = _
    rw [h]
    rfl
  have e2 : parseV (91 :: 94 :: l) 0 = brV true (loopF (l.length + 3) true zeroF l (1 + 1)) := by
    rw [parseV, if_pos ⟨by omega, rfl⟩]
    have hp : preB [94] (94 :: l) = true := rfl
    show brV (preB [94] (94 :: l)) (parseF (91 :: 94 :: l) 0) = _
    rw [hp, parseF]
    show brV true (if preB [94] (94 :: l) then _ else _) = _
    rw [hp]
    rfl
  rw [e1, e2, loopF_move, loopF_fuel (l.length + 3) (l.length + 2) _ _ _ _ (by omega) (by omega)]
  cases hL : loopF (l.length + 2) true zeroF l 1 with
  | none => exact .inr ⟨rfl, rfl⟩
  | some r =>
    obtain ⟨f, n⟩ := r
    have := loopF_le _ hL
    exact .inl ⟨f, n, rfl, rfl, by omega⟩

theorem nots_away (s : ByteArray) (h : 1000 < s.size ∨ preB [94] s.toList = true) (w : World) :
    Calls Try.prog 6 #[.string s] w fun e w' => e = .returned (.bool true) ∧ Keep Nb w w' := by
  by_cases h1 : 1000 < s.size
  · have m1 : decide (1000 < (s.size : Int)) = true := by simp; omega
    clear h h1
    go_enter Try.func6, Try.ntmps6
    go_wp2_with fail
    refine (awake_any _).mono ?_
    rintro e w2 ⟨rfl, hk2⟩
    go_wp2_with fail
    refine (awake_any _).mono ?_
    rintro e w3 ⟨rfl, hk3⟩
    go_wp2_with fail
    go_ret
    exact ⟨rfl, hk2.trans hk3 (fun _ _ h => h)⟩
  · have hp : preB [94] s.toList = true := by rcases h with h | h; omega; exact h
    have hl := preB_len hp
    rw [toList_len] at hl
    simp only [List.length_cons, List.length_nil] at hl
    obtain ⟨c, hc⟩ : ∃ c, s.toList[0]? = some c := ⟨_, List.getElem?_eq_getElem (by rw [toList_len]; omega)⟩
    have hp2 := pre1_eq (x := 94) hc
    rw [List.drop_zero, hp] at hp2
    have e : c = 94 := by simpa using hp2.symm
    subst e
    obtain ⟨b0, e0⟩ := byte_at hc
    have m1 : decide (1000 < (s.size : Int)) = false := by simp; omega
    have m2 : decide (0 < (s.size : Int)) = true := by simp; omega
    have m3 : decide (0 < s.size) = true := by simp; omega
    have m4 : (0 : Int) < (s.size : Int) := by omega
    clear h h1 hp hl hc hp2
    go_enter Try.func6, Try.ntmps6
    go_wp2_with fail
    refine (awake_any _).mono ?_
    rintro e w2 ⟨rfl, hk2⟩
    go_wp2_with fail
    refine (awake_any _).mono ?_
    rintro e w3 ⟨rfl, hk3⟩
    go_wp2_with fail
    go_ret
    exact ⟨rfl, hk2.trans hk3 (fun _ _ h => h)⟩

/-- What is asked ahead. -/
def Ahead (s : ByteArray) : Prop := (s.size = 0) ∨ (∃ c : UInt8, s.toList[0]? = some c ∧ c ≠ 94)

set_option maxRecDepth 100000 in
set_option maxHeartbeats 1000000 in
theorem nots_in (s : ByteArray) (h : s.size ≤ 1000) (hp : preB [94] s.toList = false) (w : World) (hm : Laid0 w) :
    Calls Try.prog 6 #[.string s] w fun e w' => e = .returned (.bool true) ∧ Keep Nb w w' := by
  have m1 : decide (1000 < (s.size : Int)) = false := by simp; omega
  have a1 := add_okk ⟨#[91]⟩ s (by show 1 + s.size ≤ 1000000; omega)
  have a2 := add_okk ⟨#[91, 94]⟩ s (by show 2 + s.size ≤ 1000000; omega)
  have s1 : (⟨#[91]⟩ ++ s : ByteArray).size ≤ 1000000 := by rw [ByteArray.size_append]; show 1 + s.size ≤ 1000000; omega
  have s2 : (⟨#[91, 94]⟩ ++ s : ByteArray).size ≤ 1000000 := by rw [ByteArray.size_append]; show 2 + s.size ≤ 1000000; omega
  have l1 : (⟨#[91]⟩ ++ s : ByteArray).toList = 91 :: s.toList := by rw [ByteArray.toList_eq, ByteArray.toList_eq]; simp
  have l2 : (⟨#[91, 94]⟩ ++ s : ByteArray).toList = 91 :: 94 :: s.toList := by rw [ByteArray.toList_eq, ByteArray.toList_eq]; simp
  have HT := Lib.hid (fun wx (hx : Laid0 wx) => parse_t (⟨#[91]⟩ ++ s) 0 s1 wx hx)
  have HR := Lib.hid (fun wx (hx : Laid0 wx) => parse_t (⟨#[91, 94]⟩ ++ s) 0 s2 wx hx)
  rw [l1] at HT
  rw [l2] at HR
  clear s1 s2 l1 l2
  have HL := Lib.hid hm
  clear hm
  have hA : Ahead s := by
    by_cases h0 : s.size = 0
    · exact .inl h0
    · obtain ⟨c, hc⟩ : ∃ c, s.toList[0]? = some c := ⟨_, List.getElem?_eq_getElem (by rw [toList_len]; omega)⟩
      refine .inr ⟨c, hc, fun e => ?_⟩
      have hp2 := pre1_eq (x := 94) hc
      rw [List.drop_zero, hp, e] at hp2
      simp at hp2
  have h2 := not_two s.toList hp
  have HLen := Lib.hid (show s.toList.length ≤ 1000 by rw [toList_len]; exact h)
  clear hp h
  generalize (⟨#[91]⟩ ++ s : ByteArray) = u at HT a1
  generalize (⟨#[91, 94]⟩ ++ s : ByteArray) = v at HR a2
  rcases hA with hA | ⟨c, hc, hne⟩
  all_goals
    first
    | (have m2 : decide (0 < (s.size : Int)) = false := decide_eq_false (by omega)
       have m3 : decide (0 < s.size) = false := decide_eq_false (by omega)
       clear hA)
    | (obtain ⟨b0, e0⟩ := byte_at hc
       have m2 : decide (0 < (s.size : Int)) = true := by simp; omega
       have m3 : decide (0 < s.size) = true := by simp; omega
       have m4 : (0 : Int) < (s.size : Int) := by omega
       have m5 : ((c.toNat : Int) == 94) = false := u8_ne (n := 94) (by omega) hne
       clear hc hne)
    rcases h2 with ⟨f, n, v1, v2, hn⟩ | ⟨v1, v2⟩
    · rw [v1] at HT
      rw [v2] at HR
      have hw : IntKind.i64.wrap ((n : Int) + 1) = (n : Int) + 1 := by have := HLen.out; rw [IntKind.wrap_i64]; omega
      have HW := Lib.hid hw
      simp only [setRow] at HT HR
      clear v1 v2 hn hw
      go_enter Try.func6, Try.ntmps6; go_wp2_with fail; refine (awake_any _).mono ?_; rintro e w2 ⟨rfl, hk2⟩
      have HL2 := Lib.hid (HL.out.keep hk2 id)
      go_wp2_with fail
      refine (HT.out _ HL2.out).mono ?_
      rintro e w3 ⟨rfl, hk3⟩
      have hb3 : Blk (w3.alloc (.cells (setRow f) 26)) w3.heap.size (setRow f) 26 := Blk.new w3 _ _
      have hk3' : Keep Nb w (w3.alloc (.cells (setRow f) 26)) := Keep.alloc (hk2.trans hk3 (fun _ _ h => h)) _
      simp only [setRow] at hb3 hk3'
      have HL3 := Lib.hid (HL.out.keep hk3' id)
      go_wp2_with fail
      refine (HR.out _ HL3.out).mono ?_
      rintro e w4 ⟨rfl, hk4⟩
      have hb4 := (hb3.keep hk4 id).alloc (.cells (setRow (notF f)) 26)
      have hr4 : Blk (w4.alloc (.cells (setRow (notF f)) 26)) w4.heap.size (setRow (notF f)) 26 := Blk.new w4 _ _
      have hk5 : Keep Nb w (w4.alloc (.cells (setRow (notF f)) 26)) := Keep.alloc (hk3'.trans hk4 (fun _ _ h => h)) _
      simp only [setRow] at hb4 hr4 hk5
      go_wp2_with fail
      generalize w4.alloc (.cells #[.int .u64 (notF f 0), .int .u64 (notF f 1), .int .u64 (notF f 2), .int .u64 (notF f 3)] 26) = w5 at hb4 hr4 hk5 ⊢
      have c0 := hb4.cell 0 (u := .int .u64 (f 0)) rfl
      have c1 := hb4.cell 1 (u := .int .u64 (f 1)) rfl
      have c2 := hb4.cell 2 (u := .int .u64 (f 2)) rfl
      have c3 := hb4.cell 3 (u := .int .u64 (f 3)) rfl
      have d0 := hr4.cell 0 (u := .int .u64 (notF f 0)) rfl
      have d1 := hr4.cell 1 (u := .int .u64 (notF f 1)) rfl
      have d2 := hr4.cell 2 (u := .int .u64 (notF f 2)) rfl
      have d3 := hr4.cell 3 (u := .int .u64 (notF f 3)) rfl
      have lb := hb4.lt
      have lr := hr4.lt
      have hw := HW.out
      clear hb3 hk3' hb4 hr4
      have HNT := Lib.hid (fun wx => not_t f wx)
      simp only [setRow] at HNT
      (refine wp_region_f [26] (InX Nb _) (by kernel_rfl) (InX.mk (Keep.drew (Keep.refl _ _))) (fun hI => ?_))
      have xx : ∀ k, ¬ Nb k := fun _ h => h
      have hK0 : Keep Nb w5 w5.drew := (Keep.refl _ _).drew
      generalize w5.drew = x0 at hK0 hI ⊢
      (refine wpF_take (v := ?_) 0 rfl (by kernel_rfl) (by kernel_rfl) (by kernel_rfl) (by kernel_rfl) (fun _ _ _ h => h) (by assumption) rfl ?_ ?_; rotate_left; (focus (rintro _ ⟨E, rfl⟩; go_simp; (try with_reducible rfl))); simp only [Act.put, List.getElem_toArray, List.getElem_cons_succ, List.getElem_cons_zero, List.setIfInBounds_toArray, List.set_cons_zero, List.set_cons_succ])
      (refine wpF_take (v := ?_) 1 rfl (by kernel_rfl) (by kernel_rfl) (by kernel_rfl) (by kernel_rfl) (fun _ _ _ h => h) (by assumption) rfl ?_ ?_; rotate_left; (focus (rintro _ ⟨E, rfl⟩; go_simp; (try with_reducible rfl))); simp only [Act.put, List.getElem_toArray, List.getElem_cons_succ, List.getElem_cons_zero, List.setIfInBounds_toArray, List.set_cons_zero, List.set_cons_succ])
      (refine wpF_take (v := ?_) 2 rfl (by kernel_rfl) (by kernel_rfl) (by kernel_rfl) (by kernel_rfl) (fun _ _ _ h => h) (by assumption) rfl ?_ ?_; rotate_left; (focus (rintro _ ⟨E, rfl⟩; go_simp; (try with_reducible rfl))); simp only [Act.put, List.getElem_toArray, List.getElem_cons_succ, List.getElem_cons_zero, List.setIfInBounds_toArray, List.set_cons_zero, List.set_cons_succ])
      (refine wpF_skip 3 rfl (by kernel_rfl) (by kernel_rfl) (by kernel_rfl) (by kernel_rfl) (fun _ _ _ h => h) (by assumption) rfl ?_; simp only [Act.put, List.getElem_toArray, List.getElem_cons_succ, List.getElem_cons_zero, List.setIfInBounds_toArray, List.set_cons_zero, List.set_cons_succ])
      (refine wpF_skip 4 rfl (by kernel_rfl) (by kernel_rfl) (by kernel_rfl) (by kernel_rfl) (fun _ _ _ h => h) (by assumption) rfl ?_; simp only [Act.put, List.getElem_toArray, List.getElem_cons_succ, List.getElem_cons_zero, List.setIfInBounds_toArray, List.set_cons_zero, List.set_cons_succ])
      (refine wpF_take (v := ?_) 5 rfl (by kernel_rfl) (by kernel_rfl) (by kernel_rfl) (by kernel_rfl) (fun _ _ _ h => h) (by assumption) rfl ?_ ?_; rotate_left; (focus (rintro _ ⟨E, rfl⟩; go_simp; (try with_reducible rfl))); simp only [Act.put, List.getElem_toArray, List.getElem_cons_succ, List.getElem_cons_zero, List.setIfInBounds_toArray, List.set_cons_zero, List.set_cons_succ])
      (refine wpF_take (v := ?_) 6 rfl (by kernel_rfl) (by kernel_rfl) (by kernel_rfl) (by kernel_rfl) (fun _ _ _ h => h) (by assumption) rfl ?_ ?_; rotate_left; (focus (rintro _ ⟨E, rfl⟩; go_simp; (try with_reducible rfl))); simp only [Act.put, List.getElem_toArray, List.getElem_cons_succ, List.getElem_cons_zero, List.setIfInBounds_toArray, List.set_cons_zero, List.set_cons_succ])
      (refine wpF_skip 7 rfl (by kernel_rfl) (by kernel_rfl) (by kernel_rfl) (by kernel_rfl) (fun _ _ _ h => h) (by assumption) rfl ?_; simp only [Act.put, List.getElem_toArray, List.getElem_cons_succ, List.getElem_cons_zero, List.setIfInBounds_toArray, List.set_cons_zero, List.set_cons_succ])
      (refine wpF_skip 8 rfl (by kernel_rfl) (by kernel_rfl) (by kernel_rfl) (by kernel_rfl) (fun _ _ _ h => h) (by assumption) rfl ?_; simp only [Act.put, List.getElem_toArray, List.getElem_cons_succ, List.getElem_cons_zero, List.setIfInBounds_toArray, List.set_cons_zero, List.set_cons_succ])
      (refine wpF_take (v := ?_) 9 rfl (by kernel_rfl) (by kernel_rfl) (by kernel_rfl) (by kernel_rfl) (fun _ _ _ h => h) (by assumption) rfl ?_ ?_; rotate_left; (focus (rintro _ ⟨E, rfl⟩; go_simp; (try with_reducible rfl))); simp only [Act.put, List.getElem_toArray, List.getElem_cons_succ, List.getElem_cons_zero, List.setIfInBounds_toArray, List.set_cons_zero, List.set_cons_succ])
      (refine wpF_take (v := ?_) 10 rfl (by kernel_rfl) (by kernel_rfl) (by kernel_rfl) (by kernel_rfl) (fun _ _ _ h => h) (by assumption) rfl ?_ ?_; rotate_left; (focus (rintro _ ⟨E, rfl⟩; go_simp; (try with_reducible rfl))); simp only [Act.put, List.getElem_toArray, List.getElem_cons_succ, List.getElem_cons_zero, List.setIfInBounds_toArray, List.set_cons_zero, List.set_cons_succ])
      (refine wpF_take (v := ?_) 11 rfl (by kernel_rfl) (by kernel_rfl) (by kernel_rfl) (by kernel_rfl) (fun _ _ _ h => h) (by assumption) rfl ?_ ?_; rotate_left; (focus (rintro _ ⟨E, rfl⟩; go_simp; (try with_reducible rfl))); simp only [Act.put, List.getElem_toArray, List.getElem_cons_succ, List.getElem_cons_zero, List.setIfInBounds_toArray, List.set_cons_zero, List.set_cons_succ])
      (refine wpF_take (v := ?_) 12 rfl (by kernel_rfl) (by kernel_rfl) (by kernel_rfl) (by kernel_rfl) (fun _ _ _ h => h) (by assumption) rfl ?_ ?_; rotate_left; (focus (rintro _ ⟨E, rfl⟩; go_simp; (try with_reducible rfl))); simp only [Act.put, List.getElem_toArray, List.getElem_cons_succ, List.getElem_cons_zero, List.setIfInBounds_toArray, List.set_cons_zero, List.set_cons_succ])
      (refine wpF_take (v := ?_) 13 rfl (by kernel_rfl) (by kernel_rfl) (by kernel_rfl) (by kernel_rfl) (fun _ _ _ h => h) (by assumption) rfl ?_ ?_; rotate_left; (focus (rintro _ ⟨E, rfl⟩; go_simp; (try with_reducible rfl))); simp only [Act.put, List.getElem_toArray, List.getElem_cons_succ, List.getElem_cons_zero, List.setIfInBounds_toArray, List.set_cons_zero, List.set_cons_succ])
      (refine wpF_take (v := ?_) 14 rfl (by kernel_rfl) (by kernel_rfl) (by kernel_rfl) (by kernel_rfl) (fun _ _ _ h => h) (by assumption) rfl ?_ ?_; rotate_left; (focus (rintro _ ⟨E, rfl⟩; go_simp; (try with_reducible rfl))); simp only [Act.put, List.getElem_toArray, List.getElem_cons_succ, List.getElem_cons_zero, List.setIfInBounds_toArray, List.set_cons_zero, List.set_cons_succ])
      (refine wpF_take (v := ?_) 15 rfl (by kernel_rfl) (by kernel_rfl) (by kernel_rfl) (by kernel_rfl) (fun _ _ _ h => h) (by assumption) rfl ?_ ?_; rotate_left; (focus (rintro _ ⟨E, rfl⟩; go_simp; (try with_reducible rfl))); simp only [Act.put, List.getElem_toArray, List.getElem_cons_succ, List.getElem_cons_zero, List.setIfInBounds_toArray, List.set_cons_zero, List.set_cons_succ])
      (refine wpF_one 16 rfl (by kernel_rfl) rfl (fun K hK => ?_))
      go_simp
      refine (HNT.out _).mono ?_
      rintro e x1 ⟨he, hkn⟩
      subst he
      replace hK0 := Keep.trans hK0 hkn (fun _ _ h => h)
      clear hkn
      (refine hK _ _ (fun _ => InX.mk hK0) (fun hI => ?_); have hI := hI (by simp); clear hK K; try simp only [Act.put, List.getElem_toArray, List.getElem_cons_succ, List.getElem_cons_zero, List.setIfInBounds_toArray, List.set_cons_zero, List.set_cons_succ])
      (refine wpF_take (v := ?_) 17 rfl (by kernel_rfl) (by kernel_rfl) (by kernel_rfl) (by kernel_rfl) (fun _ _ _ h => h) (by assumption) rfl ?_ ?_; rotate_left; (focus (rintro _ ⟨E, rfl⟩; go_simp; (try with_reducible rfl))); simp only [Act.put, List.getElem_toArray, List.getElem_cons_succ, List.getElem_cons_zero, List.setIfInBounds_toArray, List.set_cons_zero, List.set_cons_succ])
      (refine wpF_take (v := ?_) 18 rfl (by kernel_rfl) (by kernel_rfl) (by kernel_rfl) (by kernel_rfl) (fun _ _ _ h => h) (by assumption) rfl ?_ ?_; rotate_left; (focus (rintro _ ⟨E, rfl⟩; go_simp; (try with_reducible rfl))); simp only [Act.put, List.getElem_toArray, List.getElem_cons_succ, List.getElem_cons_zero, List.setIfInBounds_toArray, List.set_cons_zero, List.set_cons_succ])
      (refine wpF_take (v := ?_) 19 rfl (by kernel_rfl) (by kernel_rfl) (by kernel_rfl) (by kernel_rfl) (fun _ _ _ h => h) (by assumption) rfl ?_ ?_; rotate_left; (focus (rintro _ ⟨E, rfl⟩; go_simp; (try with_reducible rfl))); simp only [Act.put, List.getElem_toArray, List.getElem_cons_succ, List.getElem_cons_zero, List.setIfInBounds_toArray, List.set_cons_zero, List.set_cons_succ])
      (refine wpF_take (v := ?_) 20 rfl (by kernel_rfl) (by kernel_rfl) (by kernel_rfl) (by kernel_rfl) (fun _ _ _ h => h) (by assumption) rfl ?_ ?_; rotate_left; (focus (rintro _ ⟨E, rfl⟩; go_simp; (try with_reducible rfl))); simp only [Act.put, List.getElem_toArray, List.getElem_cons_succ, List.getElem_cons_zero, List.setIfInBounds_toArray, List.set_cons_zero, List.set_cons_succ])
      (refine wpF_take (v := ?_) 21 rfl (by kernel_rfl) (by kernel_rfl) (by kernel_rfl) (by kernel_rfl) (fun _ _ _ h => h) (by assumption) rfl ?_ ?_; rotate_left; (focus (rintro _ ⟨E, rfl⟩; go_simp; (try with_reducible rfl))); simp only [Act.put, List.getElem_toArray, List.getElem_cons_succ, List.getElem_cons_zero, List.setIfInBounds_toArray, List.set_cons_zero, List.set_cons_succ])
      (refine wpF_take (v := ?_) 22 rfl (by kernel_rfl) (by kernel_rfl) (by kernel_rfl) (by kernel_rfl) (fun _ _ _ h => h) (by assumption) rfl ?_ ?_; rotate_left; (focus (rintro _ ⟨E, rfl⟩; go_simp; (try with_reducible rfl))); simp only [Act.put, List.getElem_toArray, List.getElem_cons_succ, List.getElem_cons_zero, List.setIfInBounds_toArray, List.set_cons_zero, List.set_cons_succ])
      (refine wpF_take (v := ?_) 23 rfl (by kernel_rfl) (by kernel_rfl) (by kernel_rfl) (by kernel_rfl) (fun _ _ _ h => h) (by assumption) rfl ?_ ?_; rotate_left; (focus (rintro _ ⟨E, rfl⟩; go_simp; (try with_reducible rfl))); simp only [Act.put, List.getElem_toArray, List.getElem_cons_succ, List.getElem_cons_zero, List.setIfInBounds_toArray, List.set_cons_zero, List.set_cons_succ])
      (refine wpF_take (v := ?_) 24 rfl (by kernel_rfl) (by kernel_rfl) (by kernel_rfl) (by kernel_rfl) (fun _ _ _ h => h) (by assumption) rfl ?_ ?_; rotate_left; (focus (rintro _ ⟨E, rfl⟩; go_simp; (try with_reducible rfl))); simp only [Act.put, List.getElem_toArray, List.getElem_cons_succ, List.getElem_cons_zero, List.setIfInBounds_toArray, List.set_cons_zero, List.set_cons_succ])
      (refine wpF_take (v := ?_) 25 rfl (by kernel_rfl) (by kernel_rfl) (by kernel_rfl) (by kernel_rfl) (fun _ _ _ h => h) (by assumption) rfl ?_ ?_; rotate_left; (focus (rintro _ ⟨E, rfl⟩; go_simp; (try with_reducible rfl))); simp only [Act.put, List.getElem_toArray, List.getElem_cons_succ, List.getElem_cons_zero, List.setIfInBounds_toArray, List.set_cons_zero, List.set_cons_succ])
      (refine wpF_one 26 rfl (by kernel_rfl) rfl (fun K hK => ?_))
      go_simp
      (refine hK _ _ (fun h => absurd (by simp) h) (fun _ => ?_); clear hK K; try simp only [Act.put, List.getElem_toArray, List.getElem_cons_succ, List.getElem_cons_zero, List.setIfInBounds_toArray, List.set_cons_zero, List.set_cons_succ])
      (refine wpF_done (by kernel_rfl) ?_ _)
      go_wp2_with fail
      go_ret
      exact ⟨rfl, hk5.trans hK0 (fun _ _ h => h)⟩
    · rw [v1] at HT
      rw [v2] at HR
      simp only [setRow] at HT HR
      clear v1 v2
      go_enter Try.func6, Try.ntmps6; go_wp2_with fail; refine (awake_any _).mono ?_; rintro e w2 ⟨rfl, hk2⟩
      have HL2 := Lib.hid (HL.out.keep hk2 id)
      go_wp2_with fail
      refine (HT.out _ HL2.out).mono ?_
      rintro e w3 ⟨rfl, hk3⟩
      have hk3' : Keep Nb w (w3.alloc (.cells (setRow zeroF) 26)) := Keep.alloc (hk2.trans hk3 (fun _ _ h => h)) _
      simp only [setRow] at hk3'
      have HL3 := Lib.hid (HL.out.keep hk3' id)
      go_wp2_with fail
      refine (HR.out _ HL3.out).mono ?_
      rintro e w4 ⟨rfl, hk4⟩
      have hk5 : Keep Nb w (w4.alloc (.cells (setRow zeroF) 26)) := Keep.alloc (hk3'.trans hk4 (fun _ _ h => h)) _
      simp only [setRow] at hk5
      go_wp2_with fail
      generalize w4.alloc (.cells _ 26) = w5 at hk5 ⊢
      refine wp_region_x (by kernel_rfl) (by kernel_rfl) ?_; (repeat (go_big_quiet_step ((fail)))); refine wpQuiet_nil ?_; rintro w6 ⟨⟨_, hk6⟩, rfl⟩
      go_wp2_with fail
      go_ret
      exact ⟨rfl, hk5.trans hk6 (fun _ _ h => h)⟩

theorem lawnot_any (s : ByteArray) (w : World) (hm : Laid0 w) :
    Calls Try.prog 6 #[.string s] w fun e w' => e = .returned (.bool true) ∧ Keep Nb w w' := by
  by_cases h : 1000 < s.size ∨ preB [94] s.toList = true
  · exact nots_away s h w
  · exact nots_in s (by rcases Nat.lt_or_ge 1000 s.size with h1 | h1; exact absurd (.inl h1) h; exact h1) (by cases hp : preB [94] s.toList with | false => rfl | true => exact absurd (.inr hp) h) w hm

end Go.Proofs.Ytfjipiibkmapkaa
