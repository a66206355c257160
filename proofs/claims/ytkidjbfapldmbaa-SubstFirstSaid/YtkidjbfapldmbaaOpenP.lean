/- Parts of a replacement, as they come in; what of them is looked at. -/
import Derived.Test.YtkidjbfapldmbaaOpen
import Derived.Test.YtkidjbfapldmbaaLawIts
namespace Go.Proofs.Ytkidjbfapldmbaa
set_option linter.unusedVariables false
set_option linter.unusedSimpArgs false
open Go.RowKit P8 Go.ChangeShapes Go.WideShapes
section
variable {H : Type} {enc : TypeId × Value → H} {W : World} {base : Nat} {spare : Nat → Bool} {held : Bool}

theorem cellsPart : Try.prog.cellsOf 78 = 2 := by kernel_rfl
theorem cellsStr : Try.prog.cellsOf 9 = 1 := by kernel_rfl
theorem list2 {α : Type} {l : List α} (h : l.length = 2) : ∃ a b, l = [a, b] := by
  match l, h with
  | [a, b], _ => exact ⟨a, b, rfl⟩

theorem open_part (fuel : Nat) (cs : List Value) (x : DataW H × List MemPlace) (h : DataW.trod enc Try.prog W base spare held fuel 78 cs = some x) : ∃ (g : Int) (t : ByteArray), cs = [.int .i64 g, .string t] ∧ t.size ≤ maxLen := by
  obtain ⟨xs, n, rfl, _, hlen, hxl, hf⟩ := DataW.trod_struct Try.underlying78 h
  rw [cellsPart] at hlen
  obtain ⟨c0, c1, rfl⟩ := list2 hlen
  have hxl2 : xs.length = 2 := hxl
  obtain ⟨y0, h0⟩ := get_some (hf 0 _ rfl) (by omega)
  obtain ⟨y1, h1⟩ := get_some (hf 1 _ rfl) (by omega)
  simp only [List.getElem_toArray, List.getElem_cons_zero, List.getElem_cons_succ, cells3, cellsStr, List.drop_succ_cons, List.drop_zero, List.take_succ_cons, List.take_zero] at h0 h1
  obtain ⟨k, e0, _, w0⟩ := DataW.trod_int Try.underlying3 h0
  obtain ⟨t, e1, _, hz⟩ := DataW.trod_string Try.underlying9 h1
  simp only [List.cons.injEq, and_true] at e0 e1
  subst e0 e1
  exact ⟨k, t, rfl, hz⟩

theorem open_parts (fuel : Nat) (v : Value) (x : DataW H × List MemPlace) (h : DataW.trod enc Try.prog W base spare held fuel 70 [v] = some x) : ∃ ps, PartsAt W v ps ∧ ∀ q ∈ ps, q.2.size ≤ maxLen := by
  rcases DataW.trod_slice Try.underlying70 h with ⟨e6, _⟩ | ⟨a, len, cap, elems, rest, m, rfl, e6, _, _, hl, hm, hel, hget, _, _⟩
  · simp only [List.cons.injEq, and_true] at e6
    subst e6
    exact ⟨[], noParts W, by simp⟩
  · simp only [List.cons.injEq, and_true] at e6
    subst e6
    have key0 : ∀ i, i < len → ∃ (g : Int) (t : ByteArray), W.cell? ((a.add (i * 2)).add 0) = some (.int .i64 g) ∧ W.cell? ((a.add (i * 2)).add 1) = some (.string t) ∧ t.size ≤ maxLen := fun i hi => by
      have h7 := hget i hi
      rw [cellsPart] at h7
      obtain ⟨y, h8⟩ := get_some h7 (by omega)
      obtain ⟨cs', h9, h10⟩ := Option.bind_eq_some_iff.1 h8
      obtain ⟨g, t, rfl, hz⟩ := open_part m cs' y h10
      obtain ⟨_, _, hcell⟩ := World.cells?_some h9
      exact ⟨g, t, by rw [hcell 0 (by omega)]; rfl, by rw [hcell 1 (by omega)]; rfl, hz⟩
    have hsp : 0 < len → a.spot = none := fun h => by
      obtain ⟨g, t, hc, _, _⟩ := key0 0 h
      have := World.cell?_spot hc
      simpa [Addr.add] using this
    have key : ∀ i, i < len → ∃ q : Int × ByteArray, a = ⟨a.block, a.off, none⟩ ∧ W.cell? ⟨a.block, a.off + i * 2, none⟩ = some (.int .i64 q.1) ∧ W.cell? ⟨a.block, a.off + i * 2 + 1, none⟩ = some (.string q.2) ∧ q.2.size ≤ maxLen := fun i hi => by
      have hs := hsp (by omega)
      obtain ⟨ab, ao, asp⟩ := a
      simp only at hs
      subst hs
      obtain ⟨g, t, hc0, hc1, hz⟩ := key0 i hi
      have ad : ∀ m, ((⟨ab, ao, none⟩ : Addr).add (i * 2)).add m = ⟨ab, ao + i * 2 + m, none⟩ := fun m => by unfold Addr.add; split <;> split <;> simp_all
      rw [ad] at hc0 hc1
      exact ⟨(g, t), rfl, hc0, hc1, hz⟩
    clear key0
    obtain ⟨Ts, hT⟩ := Go.Deep.choose_lt (α := Int × ByteArray) (n := len) (fun i hi => key i hi)
    refine ⟨(List.range len).map Ts, ⟨some a, cap, by simp, by simpa using hl, hm, fun i hi => ?_⟩, fun q hq => ?_⟩
    · have hi' : i < len := by simpa using hi
      obtain ⟨ha, hc0, hc1, _⟩ := hT i hi'
      exact ⟨a.block, a.off, by rw [← ha], by simpa using hc0, by simpa using hc1⟩
    · obtain ⟨i, hi, rfl⟩ := List.mem_map.1 hq
      exact (hT i (List.mem_range.1 hi)).2.2.2
end

/-! What is looked at -/
def fewGo : List (Int × ByteArray) → Nat → Nat → Bool
  | [], _, _ => true
  | x :: r, i, n => if 60 ≤ i ∨ 5000 < n + min x.2.size 10000 then false else fewGo r (i + 1) (n + min x.2.size 10000)
def fewP (ps : List (Int × ByteArray)) : Bool := fewGo ps 0 0
theorem fewGo_size : ∀ (ps : List (Int × ByteArray)) (i n : Nat), fewGo ps i n = true → i ≤ 60 → n ≤ 5000 → ps.length + i ≤ 60 ∧ (ps.map fun x => x.2.size).sum + n ≤ 5000
  | [], i, n, _, h1, h2 => by simp; omega
  | x :: r, i, n, h, h1, h2 => by
    rw [fewGo] at h
    split at h
    · cases h
    · rename_i hh
      have := fewGo_size r (i + 1) _ h (by omega) (by omega)
      simp only [List.map_cons, List.sum_cons, List.length_cons]
      omega
theorem fewP_size {ps : List (Int × ByteArray)} (h : fewP ps = true) : ps.length ≤ 60 ∧ sizeP ps ≤ 100000 := by
  have := fewGo_size ps 0 0 h (by omega) (by omega)
  have e : ∀ l : List (Int × ByteArray), sizeP l = (l.map fun x => x.2.size).sum + 600 * l.length := fun l => by
    induction l with
    | nil => rfl
    | cons x r ih => simp only [sizeP, List.map_cons, List.sum_cons, List.length_cons] at ih ⊢; omega
  rw [e]
  omega

set_option maxRecDepth 100000 in
set_option maxHeartbeats 4000000 in
theorem few18_any (ps : List (Int × ByteArray)) (hsz : ∀ x ∈ ps, x.2.size ≤ 9223372036854775807) (pv : Value) (w : World) (hp : PartsAt w pv ps) :
    Calls Try.prog 53 #[pv] w fun e w' => e = .returned (.bool (fewP ps)) ∧ Keep Nb w w' := by
  have HP := Lib.hid hp
  obtain ⟨A2, cap2, rfl, hn1, hn2, hcell⟩ := hp
  have HCE := Lib.hid hcell
  have hn3 : ps.length ≤ 9223372036854775807 := by unfold maxLen at hn2; omega
  have HSZ := Lib.hid hsz
  clear hcell hn1 hn2 hsz
  go_enter Try.func53, Try.ntmps53
  go_wp2_with fail
  go_loopw [3, 7] (fun n i wr => ∃ k m : Nat, k ≤ ps.length ∧ m ≤ 5000 ∧ i = .int .i64 (k : Int) ∧ n = .int .i64 (m : Int) ∧ Hid (fewP ps = fewGo (ps.drop k) k m) ∧ wr = w) (fun _ i _ => ps.length - (intOf i).toNat)
  case atStart => exact ⟨0, 0, Nat.zero_le _, Nat.zero_le _, rfl, rfl, Lib.hid rfl, rfl⟩
  case round =>
    obtain ⟨k, m, hk, hm, rfl, rfl, HF, rfl⟩ := hrel
    rcases Nat.lt_or_ge k ps.length with hlt | hge
    · obtain ⟨b, off, rfl, d0, d1⟩ := HCE.out k hlt
      have lb := cell_lt d1
      have hdr : ps.drop k = ps[k] :: ps.drop (k + 1) := List.drop_eq_getElem_cons hlt
      have hx := HSZ.out ps[k] (List.getElem_mem hlt)
      generalize ps[k] = x at d0 d1 hdr hx
      obtain ⟨g, tx⟩ := x
      have hF := HF.out
      rw [hdr, fewGo] at hF
      simp only [] at d0 d1 hF hx
      obtain ⟨c, hc⟩ : ∃ c, c = min tx.size 10000 := ⟨_, rfl⟩
      have hmin : min (tx.size : Int) 10000 = (c : Int) := by omega
      have hc2 : c ≤ 10000 := by omega
      rw [← hc] at hF
      have W1 : IntKind.i64.wrap ((m : Int) + (c : Int)) = ((m + c : Nat) : Int) := by rw [IntKind.wrap_i64]; omega
      have HF2 := Lib.hid hF
      clear d0 hdr hF hc
      by_cases h6 : 60 ≤ k
      · have m1 : decide ((60 : Int) ≤ (k : Int)) = true := by simp; omega
        have HE : Hid (fewP ps = false) := Lib.hid (by rw [HF2.out, if_pos (.inl h6)])
        clear h6
        go_wp2_with fail
        go_ret
        exact ⟨by rw [HE.out]; rfl, Keep.refl _ _⟩
      · have m1 : decide ((60 : Int) ≤ (k : Int)) = false := by simp; omega
        have m1' : decide (60 ≤ k) = false := by simpa using h6
        by_cases h7 : 5000 < m + c
        · have m2 : decide ((5000 : Int) < (m : Int) + (c : Int)) = true := by simp; omega
          have m3 : decide (5000 < m + c) = true := by simpa using h7
          have HE : Hid (fewP ps = false) := Lib.hid (by rw [HF2.out, if_pos (.inr h7)])
          clear h6 h7
          go_wp2_with fail
          go_ret
          exact ⟨by rw [HE.out]; rfl, Keep.refl _ _⟩
        · have m2 : decide ((5000 : Int) < (m : Int) + (c : Int)) = false := by simp; omega
          have m3 : decide (5000 < m + c) = false := by simpa using h7
          have HE : Hid (fewP ps = fewGo (ps.drop (k + 1)) (k + 1) (m + c)) := Lib.hid (by rw [HF2.out, if_neg (fun h => by omega)])
          have h8 : m + c ≤ 5000 := by omega
          clear h6 h7
          go_wp2_with fail
          go_roundw
          case rel => exact ⟨k + 1, m + c, by omega, h8, by go_num, by go_num, HE, by first | rfl | trivial⟩
          case measure => simp [intOf]; omega
    · obtain rfl : k = ps.length := by omega
      have HE : Hid (fewP ps = true) := Lib.hid (by rw [HF.out, List.drop_length]; rfl)
      go_wp2_with fail
      go_ret
      exact ⟨by rw [HE.out]; rfl, Keep.refl _ _⟩

end Go.Proofs.Ytkidjbfapldmbaa
