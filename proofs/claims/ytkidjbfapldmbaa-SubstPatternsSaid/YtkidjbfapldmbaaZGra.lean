import Derived.Test.YtkidjbfapldmbaaZTheirs
import Derived.Deep.MidRow
import Derived.Lib.SliceRun
set_option linter.unusedVariables false
set_option linter.unusedSimpArgs false
namespace Go.Proofs.Ytkidjbfapldmbaa
open Go.RowKit P8
attribute [local go_sem ↓] Go.wp_at_zero Go.wp_at_succ
theorem info27 : (Try.prog.info? 27).map (fun i => (i.zero, i.size, i.bytes)) = some (some (.agg #[.int .i64 0, .int .u8 0, .int .u64 0, .int .u64 0, .int .u64 0, .int .u64 0, .int .i64 0, .int .i64 0, .int .i64 0, .slice none 0 0]), 10, 96) := by kernel_rfl
theorem size27 : (Try.prog.info? 27).map (·.size) = some 10 := by kernel_rfl
theorem news_at {Ok : Nat → Prop} {w : World} {A : Option Addr} : ∀ {l : List Nd} {i : Nat}, LiesPL Ok w A i l →
  ∃ qs : List (Nd × Value), qs.map (·.1) = l ∧ (∀ q ∈ qs, LiesP Ok w q.1 q.2) ∧ ∀ j u, (rowsOf qs)[j]? = some u → ∃ b off, A = some ⟨b, off, none⟩ ∧ Ok b ∧ w.cell? ⟨b, off + i * 10 + j, none⟩ = some u := by
 intro l
 induction l with
 | nil => intro i _; exact ⟨[], rfl, by simp, by simp [rowsOf]⟩
 | cons x r ih =>
  intro i h
  rw [LiesPL] at h
  obtain ⟨⟨b, off, S, hA, hb, hc, hS⟩, hr⟩ := h
  obtain ⟨qs, h1, h2, h3⟩ := ih hr
  refine ⟨(x, S) :: qs, by simp [h1], fun q hq => ?_, fun j u hu => ?_⟩
  ·rcases List.mem_cons.1 hq with rfl | hq
   ·exact hS
   ·exact h2 q hq
  ·rw [rowsOf_cons] at hu
   have h10 : (Nd.row (x, S).1 (x, S).2).toList.length = 10 := rfl
   rcases Nat.lt_or_ge j 10 with hj | hj
   ·rw [List.getElem?_append_left (by omega)] at hu
    exact ⟨b, off, hA, hb, hc j u (by simpa using hu)⟩
   ·rw [List.getElem?_append_right (by omega), h10] at hu
    obtain ⟨b2, off2, hA2, hb2, hc2⟩ := h3 (j - 10) u hu
    refine ⟨b2, off2, hA2, hb2, ?_⟩
    rw [show off2 + i * 10 + j = off2 + (i + 1) * 10 + (j - 10) by omega]
    exact hc2
theorem rows_one {Ok : Nat → Prop} {w : World} {qs : List (Nd × Value)} (h : ∀ q ∈ qs, LiesP Ok w q.1 q.2) : ∀ u ∈ rowsOf qs, u.oneCell' = true := fun u hu => by
 obtain ⟨q, hq, hu⟩ := List.mem_flatMap.1 hu
 obtain ⟨A, cap, hS, _⟩ := LiesP_def.1 (h q hq)
 rw [hS] at hu
 simp only [Nd.row, List.mem_cons, List.not_mem_nil, or_false] at hu
 rcases hu with rfl | rfl | rfl | rfl | rfl | rfl | rfl | rfl | rfl | rfl <;> rfl
theorem run_append_void {P : Program} {w : World} (base : Nat) (t ty e : TypeId) (i : TypeInfo) (size : Nat) (ht : P.underlying t = some (.slice e)) (hi : P.info? e = some i)
  (v : Value) (n : Nat) (xs : List Value) (c : Nat) (hown : w.ownsRow base e size v n xs) :
  (Builtin.append_ #[t, t] ty #[v, .slice none 0 c]).run P w = .ok v w := by
 rcases hown.2 with ⟨rfl, rfl⟩ | ⟨g, cap, cur, rfl, _, _, hnc, _⟩
 ·simp [Builtin.append_, run_underlying ht, sizeOf, typeInfo, hi, Builtin.lenOf, Builtin.firstCells]
 ·simp [Builtin.append_, run_underlying ht, sizeOf, typeInfo, hi, Builtin.lenOf, Builtin.firstCells, hnc, storeCells]
theorem run_append_nodes {P : Program} {Ok : Nat → Prop} {w : World} (base : Nat) (t ty e : TypeId) (i : TypeInfo) (z : Value) (ht : P.underlying t = some (.slice e)) (hi : P.info? e = some i) (hz : i.zero = some z)
  (hsize : i.size = 10) (hby : i.bytes = 96) (hzs : z.cells.size = 10) (V : Value) (n : Nat) (ps : List (Nd × Value)) (hown : w.ownsRow base e 10 V n (rowsOf ps)) (A : Option Addr) (l : List Nd) (c : Nat) (hl : LiesPL Ok w A 0 l)
  (hb : n + l.length ≤ 1000000000) (hbase : base ≤ w.heap.size) :
  ∃ V' w' qs, (Builtin.append_ #[t, t] ty #[V, .slice A l.length c]).run P w = .ok V' w' ∧ qs.map (·.1) = l ∧ (∀ q ∈ qs, LiesP Ok w q.1 q.2) ∧ w'.ownsRow base e 10 V' (n + l.length) (rowsOf (ps ++ qs)) ∧ w.grownBy w' V.ownBlock ∧
   (V'.ownBlock = V.ownBlock ∨ V'.ownBlock = some w.heap.size) := by
 obtain ⟨qs, h1, h2, h3⟩ := news_at hl
 have hlq : qs.length = l.length := by rw [← h1, List.length_map]
 rcases A with _ | ad
 ·have h0 : l = [] := by
   cases l with
   | nil => rfl
   | cons x r => rw [LiesPL] at hl; obtain ⟨⟨_, _, _, h, _⟩, _⟩ := hl; cases h
  subst h0
  obtain rfl : qs = [] := by simpa using h1
  refine ⟨V, w, [], run_append_void base t ty e i 10 ht hi V n _ c hown, rfl, by simp, by simpa using hown, ⟨rfl, rfl, rfl, Nat.le_refl _, fun _ _ _ => rfl⟩, .inl rfl⟩
 ·obtain ⟨V', w', hr, ho, hg, _, hat⟩ := run_append_own_at (P := P) w base t ty e i z 10 96 ht hi hz hsize hby hzs (by omega) V n (rowsOf ps) hown ad l.length c (rowsOf qs) (by rw [rowsOf_length, hlq])
   (fun j u hu => by
    obtain ⟨b, off, hA, _, hc⟩ := h3 j u hu
    cases hA
    rw [Addr.add_mid]
    simpa using hc) (rows_one h2) (by unfold maxLen; omega) (by omega) hbase
  exact ⟨V', w', qs, hr, h1, h2, by rw [rowsOf_append]; exact ho, hg, hat⟩
theorem wp_append_nodes {P : Program} {Ok : Nat → Prop} {w : World} {o : Oper} {a : Act} {K : Act → World → Prop} {Q : Exit → Act → World → Prop} (s x : Operand) (t : TypeId)
  (ho : o.op = .call { callee := .builtin .append, args := #[s, x], argTypes := #[t, t] })
  (base : Nat) (e : TypeId) (i : TypeInfo) (z : Value) (ht : P.underlying t = some (.slice e)) (hi : P.info? e = some i) (hz : i.zero = some z)
  (hsize : i.size = 10) (hby : i.bytes = 96) (hzs : z.cells.size = 10) (V : Value) (n : Nat) (ps : List (Nd × Value)) (hs : a.eval s = V) (hown : w.ownsRow base e 10 V n (rowsOf ps)) (A : Option Addr) (l : List Nd) (c : Nat) (hx : a.eval x = .slice A l.length c) (hl : LiesPL Ok w A 0 l)
  (hb : n + l.length ≤ 1000000000) (hbase : base ≤ w.heap.size)
  (h : ∀ V' w' qs, qs.map (·.1) = l → (∀ q ∈ qs, LiesP Ok w q.1 q.2) → w'.ownsRow base e 10 V' (n + l.length) (rowsOf (ps ++ qs)) → w.grownBy w' V.ownBlock →
   (V'.ownBlock = V.ownBlock ∨ V'.ownBlock = some w.heap.size) → K (a.put o.dst V') w') : o.wp P a w K Q := by
 obtain ⟨V', w', qs, hr, h1, h2, h3, h4, h5⟩ := run_append_nodes (P := P) base t o.type e i z ht hi hz hsize hby hzs V n ps hown A l c hl hb hbase
 unfold Oper.wp execOp
 simp only [ho, resolve, invoke, builtin, Sem.run_bind, Sem.run_pure, Result.andThen_ok, List.map_toArray, List.map_cons, List.map_nil, hs, hx, hr]
 exact h V' w' qs h1 h2 h3 h4 h5
theorem wpList_append_nodes {P : Program} {Ok : Nat → Prop} {w : World} {ops : Array Oper} {rest : List Oper} {o : Oper} {a : Act} {Q : Exit → Act → World → Prop} (hgd : o.guard = none) (s x : Operand) (t : TypeId)
  (ho : o.op = .call { callee := .builtin .append, args := #[s, x], argTypes := #[t, t] })
  (base : Nat) (e : TypeId) (i : TypeInfo) (z : Value) (ht : P.underlying t = some (.slice e)) (hi : P.info? e = some i) (hz : i.zero = some z)
  (hsize : i.size = 10) (hby : i.bytes = 96) (hzs : z.cells.size = 10) (V : Value) (n : Nat) (ps : List (Nd × Value)) (hs : a.eval s = V) (hown : w.ownsRow base e 10 V n (rowsOf ps)) (A : Option Addr) (l : List Nd) (c : Nat) (hx : a.eval x = .slice A l.length c) (hl : LiesPL Ok w A 0 l)
  (hb : n + l.length ≤ 1000000000) (hbase : base ≤ w.heap.size)
  (h : ∀ V' w' qs, qs.map (·.1) = l → (∀ q ∈ qs, LiesP Ok w q.1 q.2) → w'.ownsRow base e 10 V' (n + l.length) (rowsOf (ps ++ qs)) → w.grownBy w' V.ownBlock →
   (V'.ownBlock = V.ownBlock ∨ V'.ownBlock = some w.heap.size) → wpList P ops Q rest (a.put o.dst V') w') : wpList P ops Q (o :: rest) a w :=
 wpList_plain hgd fun _ hK => wp_append_nodes s x t ho base e i z ht hi hz hsize hby hzs V n ps hs hown A l c hx hl hb hbase fun V' w' qs h1 h2 h3 h4 h5 => hK _ _ (h V' w' qs h1 h2 h3 h4 h5)
theorem one_lies {Ok : Nat → Prop} {w : World} {b : Nat} {T : Nd} {S : Value} {t : TypeId} (h : Blk w b (Nd.row T S) t) (hb : Ok b) (hS : LiesP Ok w T S) : LiesPL Ok w (some ⟨b, 0, none⟩) 0 [T] := by
 rw [LiesPL, LiesPL]
 exact ⟨⟨b, 0, S, rfl, hb, fun j u hu => by rw [Nat.zero_mul, Nat.add_zero, Nat.zero_add]; exact h.cell j hu, hS⟩, trivial⟩
end Go.Proofs.Ytkidjbfapldmbaa
