/- Asks, as they come in. -/
import Derived.Test.YtilnccjdbdcklaaDoorOpA
import Derived.Deep.Slices
namespace Go.Proofs.YtilnccjdbdcklaaDoor
set_option linter.unusedVariables false
set_option linter.unusedSimpArgs false
open Go.RowKit Go.ChangeShapes Go.WideShapes

/-- What is asked lies behind a slice value: kind, delimiter, most. -/
def AsksAt (w : World) (v : Value) (xs : List (Int × UInt8 × Int)) : Prop :=
  ∃ A cap, v = .slice A xs.length cap ∧ xs.length ≤ cap ∧ cap ≤ maxLen ∧ ∀ (i : Nat) (h : i < xs.length), ∃ b off, A = some ⟨b, off, none⟩ ∧ w.cell? ⟨b, off + i * 3, none⟩ = some (.int .u8 xs[i].1) ∧ w.cell? ⟨b, off + i * 3 + 1, none⟩ = some (.int .u8 xs[i].2.1.toNat) ∧ w.cell? ⟨b, off + i * 3 + 2, none⟩ = some (.int .i64 xs[i].2.2)
theorem AsksAt.keep {X : Nat → Prop} {w w' : World} {v : Value} {xs : List (Int × UInt8 × Int)} (h : AsksAt w v xs) (hk : Keep X w w') (hx : ∀ k, k < w.heap.size → ¬ X k) : AsksAt w' v xs := by
  obtain ⟨A, cap, h1, h2, h3, h4⟩ := h
  refine ⟨A, cap, h1, h2, h3, fun i hi => ?_⟩
  obtain ⟨b, off, e, c0, c1, c2⟩ := h4 i hi
  exact ⟨b, off, e, hk.cell c0 (hx b (cell_lt c0)), hk.cell c1 (hx b (cell_lt c1)), hk.cell c2 (hx b (cell_lt c2))⟩
section
variable {H : Type} {enc : TypeId × Value → H} {W : World} {base : Nat} {spare : Nat → Bool} {held : Bool}

theorem byte_of {n : Int} (hw : (Lit.int .u8 n).wf = true) : ∃ d : UInt8, n = (d.toNat : Int) := by
  have hr : 0 ≤ n ∧ n ≤ 255 := by
    simp [Lit.wf, IntKind.wrap] at hw
    have a1 : IntKind.u8.min = 0 := rfl
    have a2 : IntKind.u8.max = 255 := rfl
    omega
  refine ⟨UInt8.ofNat n.toNat, ?_⟩
  rw [UInt8.toNat_ofNat_of_lt' (by have : UInt8.size = 256 := rfl; omega)]
  omega

theorem open_asks (fuel : Nat) (v : Value) (x : DataW H × List MemPlace) (h : DataW.trod enc Tryd.prog W base spare held fuel 30 [v] = some x) : ∃ xs, AsksAt W v xs := by
  rcases DataW.trod_slice Tryd.underlying30 h with ⟨e6, _⟩ | ⟨a, len, cap, elems, rest, m, rfl, e6, _, _, hl, hm, hel, hget, _, _⟩
  · simp only [List.cons.injEq, and_true] at e6
    subst e6
    exact ⟨[], none, 0, rfl, by simp, by unfold maxLen; omega, fun i h => by simp at h⟩
  · simp only [List.cons.injEq, and_true] at e6
    subst e6
    have key0 : ∀ i, i < len → ∃ (g : Int) (t : UInt8) (u : Int), W.cell? ((a.add (i * 3)).add 0) = some (.int .u8 g) ∧ W.cell? ((a.add (i * 3)).add 1) = some (.int .u8 t.toNat) ∧ W.cell? ((a.add (i * 3)).add 2) = some (.int .i64 u) := fun i hi => by
      have h7 := hget i hi
      rw [cellsOp] at h7
      obtain ⟨y, h8⟩ := get_some h7 (by omega)
      obtain ⟨cs', h9, h10⟩ := Option.bind_eq_some_iff.1 h8
      obtain ⟨g, d, u, rfl, _, hd, _⟩ := open_ask m cs' y h10
      obtain ⟨t, rfl⟩ := byte_of hd
      obtain ⟨_, _, hcell⟩ := World.cells?_some h9
      exact ⟨g, t, u, by rw [hcell 0 (by omega)]; rfl, by rw [hcell 1 (by omega)]; rfl, by rw [hcell 2 (by omega)]; rfl⟩
    have hsp : 0 < len → a.spot = none := fun h => by
      obtain ⟨g, t, u, hc, _, _⟩ := key0 0 h
      have := World.cell?_spot hc
      simpa [Addr.add] using this
    have key : ∀ i, i < len → ∃ q : Int × UInt8 × Int, a = ⟨a.block, a.off, none⟩ ∧ W.cell? ⟨a.block, a.off + i * 3, none⟩ = some (.int .u8 q.1) ∧ W.cell? ⟨a.block, a.off + i * 3 + 1, none⟩ = some (.int .u8 q.2.1.toNat) ∧ W.cell? ⟨a.block, a.off + i * 3 + 2, none⟩ = some (.int .i64 q.2.2) := fun i hi => by
      have hs := hsp (by omega)
      obtain ⟨ab, ao, asp⟩ := a
      simp only at hs
      subst hs
      obtain ⟨g, t, u, hc0, hc1, hc2⟩ := key0 i hi
      have ad : ∀ m, ((⟨ab, ao, none⟩ : Addr).add (i * 3)).add m = ⟨ab, ao + i * 3 + m, none⟩ := fun m => by unfold Addr.add; split <;> split <;> simp_all
      rw [ad] at hc0 hc1 hc2
      exact ⟨(g, t, u), rfl, hc0, hc1, hc2⟩
    clear key0
    obtain ⟨Ts, hT⟩ := Go.Deep.choose_lt (α := Int × UInt8 × Int) (n := len) (fun i hi => key i hi)
    refine ⟨(List.range len).map Ts, some a, cap, by simp, by simpa using hl, hm, fun i hi => ?_⟩
    have hi' : i < len := by simpa using hi
    obtain ⟨ha, hc0, hc1, hc2⟩ := hT i hi'
    exact ⟨a.block, a.off, by rw [← ha], by simpa using hc0, by simpa using hc1, by simpa using hc2⟩
end
end Go.Proofs.YtilnccjdbdcklaaDoor
