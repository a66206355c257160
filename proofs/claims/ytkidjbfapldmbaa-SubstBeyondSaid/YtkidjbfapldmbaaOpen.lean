/- How a tree that comes in as an argument lies in memory. -/
import Derived.Test.YtkidjbfapldmbaaBase
import Derived.ProofKit
import Derived.OpenShut
import Derived.ShutString
import Derived.ChangeOld
import Derived.Below
import Derived.Laws.IdiomArrays
import Derived.Deep.Slices
namespace Go.Proofs.Ytkidjbfapldmbaa
set_option linter.unusedVariables false
set_option linter.unusedSimpArgs false
open Go.RowKit P8 Go.ChangeShapes Go.WideShapes

def Hd.wf (h : Hd) : Prop := (Lit.int .i64 h.k).wf = true ∧ (Lit.int .u8 h.c).wf = true ∧ (Lit.int .u64 h.s0).wf = true ∧ (Lit.int .u64 h.s1).wf = true ∧ (Lit.int .u64 h.s2).wf = true ∧ (Lit.int .u64 h.s3).wf = true ∧
  (Lit.int .i64 h.n).wf = true ∧ (Lit.int .i64 h.mn).wf = true ∧ (Lit.int .i64 h.mx).wf = true

mutual
def wfT : Nd → Prop
  | .mk h l => Hd.wf h ∧ wfL l
def wfL : List Nd → Prop
  | [] => True
  | x :: r => wfT x ∧ wfL r
end

theorem wfL_of {l : List Nd} (h : ∀ x ∈ l, wfT x) : wfL l := by
  induction l with
  | nil => rw [wfL]; trivial
  | cons x r ih => rw [wfL]; exact ⟨h x (by simp), ih fun y hy => h y (by simp [hy])⟩
theorem wfL_mem {l : List Nd} (h : wfL l) : ∀ x ∈ l, wfT x := by
  induction l with
  | nil => simp
  | cons x r ih =>
    rw [wfL] at h
    intro y hy
    rcases List.mem_cons.1 hy with rfl | hy
    · exact h.1
    · exact ih h.2 y hy

theorem cells27 : Try.prog.cellsOf 27 = 10 := by kernel_rfl
theorem cells3 : Try.prog.cellsOf 3 = 1 := by kernel_rfl
theorem cells5 : Try.prog.cellsOf 5 = 1 := by kernel_rfl
theorem cells24 : Try.prog.cellsOf 24 = 4 := by kernel_rfl
theorem cells25 : Try.prog.cellsOf 25 = 1 := by kernel_rfl
theorem cells22' : Try.prog.cellsOf 22 = 1 := by kernel_rfl

theorem list10 {α : Type} {l : List α} (h : l.length = 10) : ∃ a b c d e f g i j k, l = [a, b, c, d, e, f, g, i, j, k] := by
  match l, h with
  | [a, b, c, d, e, f, g, i, j, k], _ => exact ⟨a, b, c, d, e, f, g, i, j, k, rfl⟩

theorem get_some {α : Type} {l : List α} {i : Nat} {o : Option α} (h : o = l[i]?) (hi : i < l.length) : ∃ y, o = some y := ⟨l[i], by rw [h, List.getElem?_eq_getElem hi]⟩

theorem addr_add10 {b off i : Nat} {m : Nat} : ((⟨b, off, none⟩ : Addr).add (i * 10)).add m = ⟨b, off + i * 10 + m, none⟩ := by
  unfold Addr.add
  split <;> split <;> simp_all

section
variable {H : Type} {enc : TypeId × Value → H} {W : World} {base : Nat} {spare : Nat → Bool} {held : Bool}

instance : Inhabited Nd := ⟨.mk ⟨0, 0, 0, 0, 0, 0, 0, 0, 0⟩ []⟩

theorem open_node : ∀ (fuel : Nat) (cs : List Value) (x : DataW H × List MemPlace), DataW.trod enc Try.prog W base spare held fuel 27 cs = some x →
    ∃ T S, cs = (Nd.row T S).toList ∧ Lies W T S ∧ wfT T := by
  intro fuel
  induction fuel using Nat.strongRecOn with
  | _ fuel ih =>
  intro cs x h
  obtain ⟨xs, n, rfl, _, hlen, hxl, hf⟩ := DataW.trod_struct Try.underlying27 h
  rw [cells27] at hlen
  obtain ⟨c0, c1, c2, c3, c4, c5, c6, c7, c8, c9, rfl⟩ := list10 hlen
  have hxl7 : xs.length = 7 := hxl
  obtain ⟨y0, h0⟩ := get_some (hf 0 _ rfl) (by omega)
  obtain ⟨y1, h1⟩ := get_some (hf 1 _ rfl) (by omega)
  obtain ⟨y2, h2⟩ := get_some (hf 2 _ rfl) (by omega)
  obtain ⟨y3, h3⟩ := get_some (hf 3 _ rfl) (by omega)
  obtain ⟨y4, h4⟩ := get_some (hf 4 _ rfl) (by omega)
  obtain ⟨y5, h5⟩ := get_some (hf 5 _ rfl) (by omega)
  obtain ⟨y6, h6⟩ := get_some (hf 6 _ rfl) (by omega)
  simp only [List.getElem_toArray, List.getElem_cons_zero, List.getElem_cons_succ, cells3, cells5, cells24, cells25, List.drop_succ_cons, List.drop_zero, List.take_succ_cons, List.take_zero] at h0 h1 h2 h3 h4 h5 h6
  obtain ⟨k, e0, _, w0⟩ := DataW.trod_int Try.underlying3 h0
  obtain ⟨c, e1, _, w1⟩ := DataW.trod_int Try.underlying5 h1
  obtain ⟨z0, z1, z2, z3, n2, _, g0, g1, g2, g3⟩ := trod_array4 Try.underlying24 cells22' h2
  obtain ⟨s0, e20, _, v0⟩ := DataW.trod_int Try.underlying22 g0
  obtain ⟨s1, e21, _, v1⟩ := DataW.trod_int Try.underlying22 g1
  obtain ⟨s2, e22, _, v2⟩ := DataW.trod_int Try.underlying22 g2
  obtain ⟨s3, e23, _, v3⟩ := DataW.trod_int Try.underlying22 g3
  obtain ⟨nn, e3, _, w3⟩ := DataW.trod_int Try.underlying3 h3
  obtain ⟨mn, e4, _, w4⟩ := DataW.trod_int Try.underlying3 h4
  obtain ⟨mx, e5, _, w5⟩ := DataW.trod_int Try.underlying3 h5
  simp only [List.cons.injEq, and_true] at e0 e1 e20 e21 e22 e23 e3 e4 e5
  subst e0 e1 e20 e21 e22 e23 e3 e4 e5
  have hw : Hd.wf ⟨k, c, s0, s1, s2, s3, nn, mn, mx⟩ := ⟨w0, w1, v0, v1, v2, v3, w3, w4, w5⟩
  rcases DataW.trod_slice Try.underlying25 h6 with ⟨e6, _⟩ | ⟨a, len, cap, elems, rest, m, rfl, e6, _, _, hl, hm, hel, hget, _, _⟩
  · simp only [List.cons.injEq, and_true] at e6
    subst e6
    refine ⟨.mk ⟨k, c, s0, s1, s2, s3, nn, mn, mx⟩ [], .slice none 0 0, rfl, Lies_mk.2 ⟨none, 0, rfl, by simp, by simp [maxLen], by simp [LiesPL]⟩, ?_⟩
    rw [wfT]; exact ⟨hw, wfL_of (by simp)⟩
  · simp only [List.cons.injEq, and_true] at e6
    subst e6
    have key0 : ∀ i, i < len → ∃ T S, Lies W T S ∧ wfT T ∧ ∀ j u, (Nd.row T S)[j]? = some u → W.cell? ((a.add (i * 10)).add j) = some u := fun i hi => by
      have h7 := hget i hi
      rw [cells27] at h7
      obtain ⟨y, h8⟩ := get_some h7 (by omega)
      obtain ⟨cs', h9, h10⟩ := Option.bind_eq_some_iff.1 h8
      obtain ⟨T, S, rfl, hL, hwT⟩ := ih m (by omega) cs' y h10
      obtain ⟨_, _, hcell⟩ := World.cells?_some h9
      refine ⟨T, S, hL, hwT, fun j u hu => ?_⟩
      have hj : j < 10 := by
        rcases Nat.lt_or_ge j 10 with h | h
        · exact h
        · rw [Array.getElem?_eq_none (by simp [Nd.row]; omega)] at hu; simp at hu
      rw [hcell j hj]
      simpa using hu
    have hsp : 0 < len → a.spot = none := fun h => by
      obtain ⟨T, S, _, _, hc⟩ := key0 0 h
      have := World.cell?_spot (hc 0 _ rfl)
      simpa [Addr.add] using this
    have key : ∀ i, i < len → ∃ T S, Lies W T S ∧ wfT T ∧ a = ⟨a.block, a.off, none⟩ ∧ ∀ j u, (Nd.row T S)[j]? = some u → W.cell? ⟨a.block, a.off + i * 10 + j, none⟩ = some u := fun i hi => by
      have hs := hsp (by omega)
      obtain ⟨ab, ao, asp⟩ := a
      simp only at hs
      subst hs
      obtain ⟨T, S, hL, hwT, hc⟩ := key0 i hi
      refine ⟨T, S, hL, hwT, rfl, fun j u hu => ?_⟩
      have := hc j u hu
      rwa [addr_add10] at this
    clear key0
    obtain ⟨Ts, hT⟩ := Go.Deep.choose_lt (α := Nd × Value) (p := fun i q => Lies W q.1 q.2 ∧ wfT q.1 ∧ a = ⟨a.block, a.off, none⟩ ∧ ∀ j u, (Nd.row q.1 q.2)[j]? = some u → W.cell? ⟨a.block, a.off + i * 10 + j, none⟩ = some u) (n := len)
      (fun i hi => by obtain ⟨T, S, h⟩ := key i hi; exact ⟨(T, S), h⟩)
    refine ⟨.mk ⟨k, c, s0, s1, s2, s3, nn, mn, mx⟩ ((List.range len).map fun i => (Ts i).1), .slice (some a) len cap, rfl, Lies_mk.2 ⟨some a, cap, by simp, by simpa using hl, hm, LiesPL_of fun j hj => ?_⟩, ?_⟩
    · have hj' : j < len := by simpa using hj
      obtain ⟨hL, _, ha, hc⟩ := hT j hj'
      refine ⟨a.block, a.off, (Ts j).2, by rw [← ha], trivial, fun m u hu => ?_, by simpa using hL⟩
      rw [Nat.zero_add]
      exact hc m u (by simpa using hu)
    · rw [wfT]
      refine ⟨hw, wfL_of fun x hx => ?_⟩
      obtain ⟨i, hi, rfl⟩ := List.mem_map.1 hx
      exact (hT i (List.mem_range.1 hi)).2.1

end
end Go.Proofs.Ytkidjbfapldmbaa
