/- A slice of nodes, as it comes in. -/
import Derived.Test.YtkidjbfapldmbaaOpen
namespace Go.Proofs.Ytkidjbfapldmbaa
set_option linter.unusedVariables false
set_option linter.unusedSimpArgs false
open Go.RowKit P8
section
variable {H : Type} {enc : TypeId × Value → H} {W : World} {base : Nat} {spare : Nat → Bool} {held : Bool}

theorem open_slice (fuel : Nat) (v : Value) (x : DataW H × List MemPlace) (h : DataW.trod enc Try.prog W base spare held fuel 25 [v] = some x) :
    ∃ l A cap, v = .slice A l.length cap ∧ l.length ≤ cap ∧ cap ≤ maxLen ∧ LiesL W A 0 l := by
  rcases DataW.trod_slice Try.underlying25 h with ⟨e6, _⟩ | ⟨a, len, cap, elems, rest, m, rfl, e6, _, _, hl, hm, hel, hget, _, _⟩
  · simp only [List.cons.injEq, and_true] at e6
    subst e6
    exact ⟨[], none, 0, rfl, by simp, by simp [maxLen], by simp [LiesPL]⟩
  · simp only [List.cons.injEq, and_true] at e6
    subst e6
    have key0 : ∀ i, i < len → ∃ T S, Lies W T S ∧ wfT T ∧ ∀ j u, (Nd.row T S)[j]? = some u → W.cell? ((a.add (i * 10)).add j) = some u := fun i hi => by
      have h7 := hget i hi
      rw [cells27] at h7
      obtain ⟨y, h8⟩ := get_some h7 (by omega)
      obtain ⟨cs', h9, h10⟩ := Option.bind_eq_some_iff.1 h8
      obtain ⟨T, S, rfl, hL, hwT⟩ := open_node m cs' y h10
      obtain ⟨_, _, hcell⟩ := World.cells?_some h9
      refine ⟨T, S, hL, hwT, fun j u hu => ?_⟩
      have hj : j < 10 := by
        rcases Nat.lt_or_ge j 10 with h | h
        · exact h
        · rw [Array.getElem?_eq_none (by simp [Nd.row]; omega)] at hu; simp at hu
      rw [hcell j hj]
      simpa using hu
    have hsp : 0 < len → a.spot = none := fun h => by
      obtain ⟨T, S, _, _, hc⟩ := key0 0 h
      have := World.cell?_spot (hc 0 _ rfl)
      simpa [Addr.add] using this
    have key : ∀ i, i < len → ∃ T S, Lies W T S ∧ wfT T ∧ a = ⟨a.block, a.off, none⟩ ∧ ∀ j u, (Nd.row T S)[j]? = some u → W.cell? ⟨a.block, a.off + i * 10 + j, none⟩ = some u := fun i hi => by
      have hs := hsp (by omega)
      obtain ⟨ab, ao, asp⟩ := a
      simp only at hs
      subst hs
      obtain ⟨T, S, hL, hwT, hc⟩ := key0 i hi
      refine ⟨T, S, hL, hwT, rfl, fun j u hu => ?_⟩
      have := hc j u hu
      rwa [addr_add10] at this
    clear key0
    obtain ⟨Ts, hT⟩ := Go.Deep.choose_lt (α := Nd × Value) (p := fun i q => Lies W q.1 q.2 ∧ wfT q.1 ∧ a = ⟨a.block, a.off, none⟩ ∧ ∀ j u, (Nd.row q.1 q.2)[j]? = some u → W.cell? ⟨a.block, a.off + i * 10 + j, none⟩ = some u) (n := len)
      (fun i hi => by obtain ⟨T, S, h⟩ := key i hi; exact ⟨(T, S), h⟩)
    refine ⟨(List.range len).map fun i => (Ts i).1, some a, cap, by simp, by simpa using hl, hm, LiesPL_of fun j hj => ?_⟩
    have hj' : j < len := by simpa using hj
    obtain ⟨hL, _, ha, hc⟩ := hT j hj'
    refine ⟨a.block, a.off, (Ts j).2, by rw [← ha], trivial, fun m u hu => ?_, by simpa using hL⟩
    rw [Nat.zero_add]
    exact hc m u (by simpa using hu)

end
end Go.Proofs.Ytkidjbfapldmbaa
