/- For every input BracketBack returns true. -/
import Derived.Test.YtfjipiibkmapkaaRuns
namespace Go.Proofs.Ytfjipiibkmapkaa
set_option linter.unusedVariables false
set_option linter.unusedSimpArgs false
open Go.RowKit
attribute [local go_sem] eqi24 eqi26 setEq_self

theorem back_away (f : Nat → Int) (A B : ByteArray) (h : 100 < A.size ∨ 100 < B.size) (w : World) :
    Calls Try.prog 8 #[.agg (setRow f), .string A, .string B] w fun e w' => e = .returned (.bool true) ∧ Keep Nb w w' := by
  simp only [setRow]
  by_cases h1 : 100 < A.size
  · have m1 : decide (100 < (A.size : Int)) = true := by simp; omega
    clear h h1
    go_enter Try.func8, Try.ntmps8
    go_wp2_with fail
    refine (awake_any _).mono ?_
    rintro e w2 ⟨rfl, hk2⟩
    go_wp2_with fail
    refine (awake_any _).mono ?_
    rintro e w3 ⟨rfl, hk3⟩
    go_wp2_with fail
    go_ret
    exact ⟨rfl, (Keep.alloc (Keep.refl _ _) _).trans (hk2.trans hk3 (fun _ _ h => h)) (fun _ _ h => h)⟩
  · have h2 : 100 < B.size := by rcases h with h | h; exact absurd h h1; exact h
    have m1 : decide (100 < (A.size : Int)) = false := by simp; omega
    have m2 : decide (100 < (B.size : Int)) = true := by simp; omega
    clear h h1 h2
    go_enter Try.func8, Try.ntmps8
    go_wp2_with fail
    refine (awake_any _).mono ?_
    rintro e w2 ⟨rfl, hk2⟩
    go_wp2_with fail
    refine (awake_any _).mono ?_
    rintro e w3 ⟨rfl, hk3⟩
    go_wp2_with fail
    go_ret
    exact ⟨rfl, (Keep.alloc (Keep.refl _ _) _).trans (hk2.trans hk3 (fun _ _ h => h)) (fun _ _ h => h)⟩

set_option maxRecDepth 100000 in
set_option maxHeartbeats 2000000 in
theorem back_in (f : Nat → Int) (hf : inU f) (A B : ByteArray) (hA : A.size ≤ 100) (hB : B.size ≤ 100) (w : World) (hm : Laid0 w) :
    Calls Try.prog 8 #[.agg (setRow f), .string A, .string B] w fun e w' => e = .returned (.bool true) ∧ Keep Nb w w' := by
  have m1 : decide (100 < (A.size : Int)) = false := by simp; omega
  have m2 : decide (100 < (B.size : Int)) = false := by simp; omega
  have HP := Lib.hid (fun wx => print_any f hf wx)
  have HL := Lib.hid hm
  have HF := Lib.hid hf
  have HA := Lib.hid hA
  have HB := Lib.hid hB
  clear hm hf hA hB
  simp only [setRow] at HP ⊢
  go_enter Try.func8, Try.ntmps8
  go_wp2_with fail
  have b0 : Blk (w.alloc (.cells (setRow f) 24)) w.heap.size (setRow f) 24 := Blk.new w _ _
  have k0 : Keep Nb w (w.alloc (.cells (setRow f) 24)) := Keep.alloc (Keep.refl _ _) _
  simp only [setRow] at b0 k0
  refine (awake_any _).mono ?_
  rintro e w1 ⟨rfl, hkn⟩
  have b1 := b0.keep hkn id
  have k1 := k0.trans hkn (fun _ _ h => h)
  have c0 := b1.cell 0 (u := .int .u64 (f 0)) rfl
  have c1 := b1.cell 1 (u := .int .u64 (f 1)) rfl
  have c2 := b1.cell 2 (u := .int .u64 (f 2)) rfl
  have c3 := b1.cell 3 (u := .int .u64 (f 3)) rfl
  clear hkn b0 k0
  go_wp2_with fail
  refine (HP.out _).mono ?_
  rintro e w2 ⟨⟨S, hS, rfl⟩, hkn⟩
  have b2 := b1.keep hkn id
  have k2 := k1.trans hkn (fun _ _ h => h)
  clear hkn b1 k1 c0 c1 c2 c3
  have hz : S.size = (printF f).length := by rw [← toList_len, hS]
  have hz2 : S.size ≤ 280 := by rw [hz]; exact print_len f
  have a1 := add_okk A S (by have := HA.out; omega)
  have z1 : (A ++ S : ByteArray).size = A.size + S.size := ByteArray.size_append
  have t1 : (A ++ S : ByteArray).toList = A.toList ++ printF f := by rw [app_toList, hS]
  generalize (A ++ S : ByteArray) = U at a1 z1 t1
  have a2 := add_okk U B (by rw [z1]; have := HA.out; have := HB.out; omega)
  have z2 : (U ++ B : ByteArray).size ≤ 1000000 := by rw [ByteArray.size_append, z1]; have := HA.out; have := HB.out; omega
  have t2 : (U ++ B : ByteArray).toList = A.toList ++ (printF f ++ B.toList) := by rw [app_toList, t1, List.append_assoc]
  generalize (U ++ B : ByteArray) = V at a2 z2 t2
  have HT := Lib.hid (fun wx (hx : Laid0 wx) => parse_t V (A.size : Int) z2 wx hx)
  have HR := Lib.hid (fun wx => bracket_r S 0 (by omega) wx)
  have v1 : parseV V.toList (A.size : Int) = .tuple #[.agg (setRow f), .int .i64 ((A.size : Int) + (S.size : Int)), .int .i64 0] := by
    rw [t2, ← toList_len, print_back f HF.out, toList_len, hz]
    rfl
  have v2 : parseV S.toList 0 = .tuple #[.agg (setRow f), .int .i64 (S.size : Int), .int .i64 0] := by
    have := print_back f HF.out [] []
    rw [List.append_nil, List.nil_append] at this
    rw [hS, hz]
    rw [show (([] : List UInt8).length : Int) = 0 from rfl, show ([] : List UInt8).length + (printF f).length = (printF f).length by simp] at this
    exact this
  rw [v1] at HT
  rw [v2] at HR
  simp only [setRow] at HT HR
  have x1 : wrap64 ((A.size : Int) + (S.size : Int)) = (A.size : Int) + (S.size : Int) := by have := HA.out; unfold wrap64; omega
  have X1 := Lib.hid x1
  have m3 : decide ((S.size : Int) ≤ 1100) = true := by simp; omega
  have m4 : decide (S.size ≤ 1100) = true := by simp; omega
  have HL2 := Lib.hid (HL.out.keep k2 id)
  clear x1 hS hz hz2 z1 t1 z2 t2 v1 v2
  go_wp2_with fail
  refine (HT.out _ HL2.out).mono ?_
  rintro e w3 ⟨rfl, hkn⟩
  have b3 := (b2.keep hkn id).alloc (.cells (setRow f) 26)
  have d3 : Blk (w3.alloc (.cells (setRow f) 26)) w3.heap.size (setRow f) 26 := Blk.new w3 _ _
  have k3 : Keep Nb w (w3.alloc (.cells (setRow f) 26)) := Keep.alloc (k2.trans hkn (fun _ _ h => h)) _
  simp only [setRow] at b3 d3 k3
  clear hkn b2 k2
  go_wp2_with fail
  refine (HR.out _).mono ?_
  rintro e w4 ⟨rfl, hkn⟩
  have b4 := (b3.keep hkn id).alloc (.cells (setRow f) 24)
  have d4 := (d3.keep hkn id).alloc (.cells (setRow f) 24)
  have q4 : Blk (w4.alloc (.cells (setRow f) 24)) w4.heap.size (setRow f) 24 := Blk.new w4 _ _
  have k4 : Keep Nb w (w4.alloc (.cells (setRow f) 24)) := Keep.alloc (k3.trans hkn (fun _ _ h => h)) _
  have c0 := b4.cell 0 (u := .int .u64 (f 0)) rfl
  have c1 := b4.cell 1 (u := .int .u64 (f 1)) rfl
  have c2 := b4.cell 2 (u := .int .u64 (f 2)) rfl
  have c3 := b4.cell 3 (u := .int .u64 (f 3)) rfl
  have e0 := d4.cell 0 (u := .int .u64 (f 0)) rfl
  have e1 := d4.cell 1 (u := .int .u64 (f 1)) rfl
  have e2 := d4.cell 2 (u := .int .u64 (f 2)) rfl
  have e3 := d4.cell 3 (u := .int .u64 (f 3)) rfl
  have g0 := q4.cell 0 (u := .int .u64 (f 0)) rfl
  have g1 := q4.cell 1 (u := .int .u64 (f 1)) rfl
  have g2 := q4.cell 2 (u := .int .u64 (f 2)) rfl
  have g3 := q4.cell 3 (u := .int .u64 (f 3)) rfl
  simp only [setRow] at k4 c0 c1 c2 c3 e0 e1 e2 e3 g0 g1 g2 g3
  clear hkn b3 d3 k3 b4 d4 q4
  have x1 := X1.out
  go_wp2_with fail
  go_ret
  exact ⟨rfl, k4⟩

theorem lawback_any (f : Nat → Int) (hf : ∀ i, i < 4 → 0 ≤ f i ∧ f i < 18446744073709551616) (A B : ByteArray) (w : World) (hm : Laid0 w) :
    Calls Try.prog 8 #[.agg (setRow f), .string A, .string B] w fun e w' => e = .returned (.bool true) ∧ Keep Nb w w' := by
  by_cases h : 100 < A.size ∨ 100 < B.size
  · exact back_away f A B h w
  · have hg : inU (fun i => if i < 4 then f i else 0) := fun i => by
      by_cases hi : i < 4
      · simp only [hi, if_true]; exact hf i hi
      · simp only [hi, if_false]; omega
    have e : setRow f = setRow (fun i => if i < 4 then f i else 0) := setRow_congr fun i hi => by simp [hi]
    rw [e]
    exact back_in _ hg A B (by omega) (by omega) w hm

end Go.Proofs.Ytfjipiibkmapkaa
