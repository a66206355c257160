/- What is found is held against itself. -/
import Derived.Test.YtkidjbfapldmbaaFna
import Derived.Test.YtkidjbfapldmbaaWit
import Derived.Laws.StructEq
import Derived.ChangeKeysEq
namespace Go.Proofs.Ytkidjbfapldmbaa
set_option linter.unusedVariables false
set_option linter.unusedSimpArgs false
open Go.RowKit P8

theorem run_equalIn_complex {P : Program} (w : World) (d : Nat) (t : TypeId) (k : FloatKind) (k' : FloatKind) (a b a' b' : Nat) (h : P.underlying t = some (.complex k')) :
    (Op.equalIn (d + 1) t (.complex k a b) (.complex k a' b')).run P w = .ok (Op.floatEq k a a' && Op.floatEq k b b') w := by
  simp [Op.equalIn, run_underlying h]
theorem infoC : ∃ i, Try.prog.info? 45 = some i := Option.isSome_iff_exists.1 (by kernel_rfl)
theorem infoB : ∃ i, Try.prog.info? 4 = some i := Option.isSome_iff_exists.1 (by kernel_rfl)
theorem cellsC : Try.prog.cellsOf 45 = 1 := by kernel_rfl
theorem cellsB : Try.prog.cellsOf 4 = 1 := by kernel_rfl
def selfC (v : Value) : Prop := ∃ a b, v = .complex .f64 a b ∧ Op.floatEq .f64 a a = true ∧ Op.floatEq .f64 b b = true
theorem eqC {v : Value} (h : selfC v) (d : Nat) (w : World) : (Op.equalIn (d + 1) 45 v v).run Try.prog w = .ok true w := by
  obtain ⟨a, b, rfl, h1, h2⟩ := h
  rw [run_equalIn_complex w d _ _ .f64 _ _ _ _ (by kernel_rfl), h1, h2]
  rfl
theorem eqB (b : Bool) (d : Nat) (w : World) : (Op.equalIn (d + 1) 4 (.bool b) (.bool b)).run Try.prog w = .ok true w := by
  rw [run_equalIn_bool w d _ _ _ (by kernel_rfl)]
  simp
theorem eqArrC (t : TypeId) (hu : Try.prog.underlying t = some (.array 10 45)) (v0 v1 v2 v3 v4 v5 v6 v7 v8 v9 : Value) (h0 : selfC v0) (h1 : selfC v1) (h2 : selfC v2) (h3 : selfC v3) (h4 : selfC v4) (h5 : selfC v5) (h6 : selfC v6) (h7 : selfC v7) (h8 : selfC v8) (h9 : selfC v9) (d : Nat) (w : World) :
    (Op.equalIn (d + 2) t (.agg #[v0, v1, v2, v3, v4, v5, v6, v7, v8, v9]) (.agg #[v0, v1, v2, v3, v4, v5, v6, v7, v8, v9])).run Try.prog w = .ok true w := by
  obtain ⟨i, hi⟩ := infoC
  rw [show d + 2 = (d + 1) + 1 from rfl, run_equalIn_array w (d + 1) _ _ hu hi, cellsC]
  obtain ⟨a0, b0, rfl, p0, q0⟩ := h0
  obtain ⟨a1, b1, rfl, p1, q1⟩ := h1
  obtain ⟨a2, b2, rfl, p2, q2⟩ := h2
  obtain ⟨a3, b3, rfl, p3, q3⟩ := h3
  obtain ⟨a4, b4, rfl, p4, q4⟩ := h4
  obtain ⟨a5, b5, rfl, p5, q5⟩ := h5
  obtain ⟨a6, b6, rfl, p6, q6⟩ := h6
  obtain ⟨a7, b7, rfl, p7, q7⟩ := h7
  obtain ⟨a8, b8, rfl, p8, q8⟩ := h8
  obtain ⟨a9, b9, rfl, p9, q9⟩ := h9
  simp only [List.range_succ, List.range_zero, List.nil_append, List.cons_append, Op.eqItems]
  have hc := fun a b c e => run_equalIn_complex (P := Try.prog) w d 45 .f64 .f64 a b c e (by kernel_rfl)
  go_simp

theorem eqArrB (t : TypeId) (hu : Try.prog.underlying t = some (.array 10 4)) (v0 v1 v2 v3 v4 v5 v6 v7 v8 v9 : Bool) (d : Nat) (w : World) :
    (Op.equalIn (d + 2) t (.agg #[.bool v0, .bool v1, .bool v2, .bool v3, .bool v4, .bool v5, .bool v6, .bool v7, .bool v8, .bool v9]) (.agg #[.bool v0, .bool v1, .bool v2, .bool v3, .bool v4, .bool v5, .bool v6, .bool v7, .bool v8, .bool v9])).run Try.prog w = .ok true w := by
  obtain ⟨i, hi⟩ := infoB
  rw [show d + 2 = (d + 1) + 1 from rfl, run_equalIn_array w (d + 1) _ _ hu hi, cellsB]
  simp only [List.range_succ, List.range_zero, List.nil_append, List.cons_append, Op.eqItems]
  have hc := fun b => eqB b d w
  go_simp

theorem selfC_grp {n : Nat} {c : Caps} (hc : CapsOk n c) (hn : n ≤ 600) (i : Nat) : selfC (grpV (c i)) := by
  cases h : c i with
  | none => exact ⟨0, 0, rfl, by decide +kernel, by decide +kernel⟩
  | some ab =>
    obtain ⟨a, b⟩ := ab
    have := hc i a b h
    exact ⟨F a, F b, rfl, (F_eq (by omega) (by omega)).trans (by simp), (F_eq (by omega) (by omega)).trans (by simp)⟩

/-- What is found, held against itself. -/
theorem found_self (s : St) {n : Nat} (hc : CapsOk n (bestC s)) (hn : n ≤ 600) (w : World) :
    Sem.run Try.prog (Op.equalIn 10000 53 (.agg (fndL s).toArray) (.agg (fndL s).toArray)) w = .ok true w := by
  have g := selfC_grp hc hn
  have h1 := fun w => eqC (g 0) 9998 w
  have h2 := fun w => eqArrC 46 (by kernel_rfl) _ _ _ _ _ _ _ _ _ _ (g 0) (g 1) (g 2) (g 3) (g 4) (g 5) (g 6) (g 7) (g 8) (g 9) 9997 w
  have h3 := fun w => eqArrB 47 (by kernel_rfl) (bestC s 0).isSome (bestC s 1).isSome (bestC s 2).isSome (bestC s 3).isSome (bestC s 4).isSome (bestC s 5).isSome (bestC s 6).isSome (bestC s 7).isSome (bestC s 8).isSome (bestC s 9).isSome 9997 w
  simp only [fndL, hasV]
  clear g
  obtain ⟨a0, b0, e0, _⟩ := selfC_grp hc hn 0
  obtain ⟨a1, b1, e1, _⟩ := selfC_grp hc hn 1
  obtain ⟨a2, b2, e2, _⟩ := selfC_grp hc hn 2
  obtain ⟨a3, b3, e3, _⟩ := selfC_grp hc hn 3
  obtain ⟨a4, b4, e4, _⟩ := selfC_grp hc hn 4
  obtain ⟨a5, b5, e5, _⟩ := selfC_grp hc hn 5
  obtain ⟨a6, b6, e6, _⟩ := selfC_grp hc hn 6
  obtain ⟨a7, b7, e7, _⟩ := selfC_grp hc hn 7
  obtain ⟨a8, b8, e8, _⟩ := selfC_grp hc hn 8
  obtain ⟨a9, b9, e9, _⟩ := selfC_grp hc hn 9
  simp only [e0, e1, e2, e3, e4, e5, e6, e7, e8, e9] at h1 h2 ⊢
  clear e0 e1 e2 e3 e4 e5 e6 e7 e8 e9
  go_simp

theorem zero_self (w : World) : Sem.run Try.prog (Op.equalIn 10000 53 (.agg zeroFnd) (.agg zeroFnd)) w = .ok true w :=
  found_self ⟨0, false, none⟩ (n := 0) (fun _ _ _ h => by cases h) (by omega) w

/-! What is found, as cells that lie open -/
def reV : Option (Nat × Nat) → Nat
  | none => 0
  | some (a, _) => F a
def imV : Option (Nat × Nat) → Nat
  | none => 0
  | some (_, b) => F b
theorem grpV_eq (o : Option (Nat × Nat)) : grpV o = .complex .f64 (reV o) (imV o) := by cases o <;> rfl
def fLit (s : St) : Array Value := #[.complex .f64 (reV (bestC s 0)) (imV (bestC s 0)), .complex .f64 (reV (bestC s 0)) (imV (bestC s 0)), .complex .f64 (reV (bestC s 1)) (imV (bestC s 1)), .complex .f64 (reV (bestC s 2)) (imV (bestC s 2)), .complex .f64 (reV (bestC s 3)) (imV (bestC s 3)), .complex .f64 (reV (bestC s 4)) (imV (bestC s 4)), .complex .f64 (reV (bestC s 5)) (imV (bestC s 5)), .complex .f64 (reV (bestC s 6)) (imV (bestC s 6)), .complex .f64 (reV (bestC s 7)) (imV (bestC s 7)), .complex .f64 (reV (bestC s 8)) (imV (bestC s 8)), .complex .f64 (reV (bestC s 9)) (imV (bestC s 9)), .bool (bestC s 0).isSome, .bool (bestC s 1).isSome, .bool (bestC s 2).isSome, .bool (bestC s 3).isSome, .bool (bestC s 4).isSome, .bool (bestC s 5).isSome, .bool (bestC s 6).isSome, .bool (bestC s 7).isSome, .bool (bestC s 8).isSome, .bool (bestC s 9).isSome, .int .i64 (s.tries : Int)]
theorem fLit_eq (s : St) : (fndL s).toArray = fLit s := by simp only [fndL, fLit, grpV_eq, hasV]
theorem fLit_self (s : St) {n : Nat} (hc : CapsOk n (bestC s)) (hn : n ≤ 600) (w : World) :
    Sem.run Try.prog (Op.equalIn 10000 53 (.agg (fLit s)) (.agg (fLit s))) w = .ok true w := by
  rw [← fLit_eq]; exact found_self s hc hn w
theorem fLit_one (s : St) : (fLit s).all (·.oneCell') = true := by rw [← fLit_eq]; exact fnd_all s
theorem zero_lit : zeroFnd = fLit ⟨0, false, none⟩ := by simp [zeroFnd, fLit, bestC, reV, imV]
theorem findV_form (N : Nd) (T : ByteArray) (a : Int) (bd : Bool) : ∃ (s : St) (b : Bool) (err : Int), findV N T a bd = .tuple #[.agg (fLit s), .bool b, .int .i64 err] ∧ CapsOk 600 (bestC s) := by
  have z : CapsOk 600 (bestC ⟨0, false, none⟩) := fun _ _ _ h => by cases h
  by_cases h : formedT N = true ∧ T.size ≤ 600 ∧ 0 ≤ a ∧ a ≤ T.size
  · have hv : findV N T a bd = findW (found T.toList bd N (formed_ok h.1) a.toNat) := by rw [findV, dif_pos h]
    obtain ⟨k, hk⟩ := found_spec T.toList bd N (formed_ok h.1) a.toNat
    have lo := find_again T.toList bd N (formed_ok h.1) k _ _ _ _ hk rfl (Nat.zero_le _) (by rw [toList_len]; omega)
    generalize found T.toList bd N (formed_ok h.1) a.toNat = S at hv lo
    by_cases ho : S.over = true
    · rw [findW, if_pos ho] at hv
      exact ⟨⟨0, false, none⟩, false, 12, by rw [hv, zero_lit], z⟩
    · rw [findW, if_neg ho, fLit_eq] at hv
      refine ⟨S, _, 0, hv, ?_⟩
      cases hb : S.best with
      | none => rw [bestC, hb]; exact fun _ _ _ h => by cases h
      | some o =>
        obtain ⟨q, c⟩ := o
        rw [bestC, hb]
        have h1 := (lo (by simpa using ho) q c hb).1
        intro i x y hi
        have := h1 i x y hi
        rw [toList_len] at this
        omega
  · have hv : findV N T a bd = noneV := by rw [findV, dif_neg h]
    exact ⟨⟨0, false, none⟩, false, 1, by rw [hv, noneV, zero_lit], z⟩

end Go.Proofs.Ytkidjbfapldmbaa
