/- A space: its cells; the lines of a text; New; Lines; Next; Last. -/
import Derived.Test.YtnjanpejmfkopaaDoorBo
import Derived.Test.YtnjanpejmfkopaaDoorSplit
namespace Go.Proofs.YtnjanpejmfkopaaDoor
set_option linter.unusedVariables false
set_option linter.unusedSimpArgs false
open Go.RowKit P8

/-- The lines behind a slice value, in a block below B. -/
def LnAt (B : Nat) (w : World) (v : Value) (ls : List ByteArray) : Prop :=
  ∃ A, v = .slice A ls.length ls.length ∧ ls.length ≤ 100001 ∧ ∀ k (h : k < ls.length), ∃ b, A = some ⟨b, 0, none⟩ ∧ b < B ∧ w.cell? ⟨b, k, none⟩ = some (.string ls[k])
theorem LnAt.keep {X : Nat → Prop} {B : Nat} {w w' : World} {v : Value} {ls : List ByteArray} (h : LnAt B w v ls) (hk : Keep X w w') (hx : ∀ b, b < B → ¬ X b) : LnAt B w' v ls := by
  obtain ⟨A, h1, h2, h3⟩ := h
  refine ⟨A, h1, h2, fun k hl => ?_⟩
  obtain ⟨b, e, hb, hc⟩ := h3 k hl
  exact ⟨b, e, hb, (World.cell?_of_block (w := w) (hk.block b (cell_lt hc) (hx b hb))).trans hc⟩
theorem LnAt.mono {B C : Nat} {w : World} {v : Value} {ls : List ByteArray} (h : LnAt B w v ls) (hB : B ≤ C) : LnAt C w v ls := by
  obtain ⟨A, h1, h2, h3⟩ := h
  refine ⟨A, h1, h2, fun k hl => ?_⟩
  obtain ⟨b, e, hb, hc⟩ := h3 k hl
  exact ⟨b, e, by omega, hc⟩

/-- A space's ten cells. -/
def spRow (v : Value) (n : Int) (q bv : Value) (size : Int) : Array Value := #[v, .int .i64 n, .string ⟨#[]⟩, .string ⟨#[]⟩, q, bv, .slice none 0 0, .int .i64 size, .slice none 0 0, .int .i64 0]
abbrev SpAt (w : World) (p : Nat) (v : Value) (n : Int) : Prop := Blk w p (spRow v n (.pointer none) (.slice none 0 0) 0) 52

def trimL (s : ByteArray) : ByteArray := ⟨(Lib.trimSuffix s.data.toList [10]).toArray⟩
def linesP (s : ByteArray) : List ByteArray := if s.size = 0 then [] else Lib.splitB ⟨#[10]⟩ 0 (Lib.countB (trimL s) ⟨#[10]⟩) (trimL s)
def longL (ls : List ByteArray) : Bool := ls.any fun l => decide (600 < l.size)

theorem isEmpty_size (s : ByteArray) : s.toList.isEmpty = decide (s.size = 0) := by
  rw [ByteArray.toList_eq, Bool.eq_iff_iff]
  simp only [List.isEmpty_iff, decide_eq_true_eq]
  constructor
  · intro h; rw [← ByteArray.size_data, ← Array.length_toList, h]; rfl
  · intro h; rw [← ByteArray.size_data, ← Array.length_toList] at h; exact List.length_eq_zero_iff.1 h
theorem trimL_size (s : ByteArray) : (trimL s).size ≤ s.size := by
  show (Lib.trimSuffix s.data.toList [10]).toArray.size ≤ s.data.size
  unfold Lib.trimSuffix
  split <;> simp

set_option maxHeartbeats 1000000 in
set_option maxRecDepth 100000 in
theorem split_any (s : ByteArray) (hs : s.size ≤ 100000) (w : World) (hm : Laid0 w) :
    Calls Tryd.prog 27 #[.string s] w fun e w' => ∃ v, e = .returned v ∧ LnAt w'.heap.size w' v (linesP s) ∧ Keep Nb w w' := by
  by_cases h0 : s.size = 0
  · have hz : s.toList.isEmpty = true := by rw [isEmpty_size]; simpa using h0
    have HL : Hid (linesP s = []) := Lib.hid (by unfold linesP; rw [if_pos h0])
    clear h0
    go_enter Tryd.func27, Tryd.ntmps27
    go_wp2_with fail
    go_ret
    refine ⟨_, rfl, ?_, Keep.refl _ _⟩
    rw [HL.out]
    exact ⟨none, rfl, by simp, fun k h => by simp at h⟩
  · have hz : s.toList.isEmpty = false := by rw [isEmpty_size]; simpa using h0
    have HL : Hid (linesP s = Lib.splitB ⟨#[10]⟩ 0 (Lib.countB (trimL s) ⟨#[10]⟩) (trimL s)) := Lib.hid (by unfold linesP; rw [if_neg h0])
    have HT : Hid ((Lib.splitB ⟨#[10]⟩ 0 (Lib.countB (trimL s) ⟨#[10]⟩) (trimL s)).length = Lib.countB (trimL s) ⟨#[10]⟩ + 1) := Lib.hid (Lib.splitB_all _ (by decide) 0 _ _ rfl)
    have HC : Hid (Lib.countB (trimL s) ⟨#[10]⟩ ≤ 100000) := Lib.hid (Nat.le_trans (Lib.countB_le _ (by decide) _ _ (Nat.le_refl _)) (Nat.le_trans (trimL_size s) hs))
    have h1 := trim_t s ⟨#[10]⟩ w (by omega)
    have h2 := split_t (trimL s) ⟨#[10]⟩ w (by have := trimL_size s; omega) hm (by decide)
    have e1 : (⟨(Lib.trimSuffix s.data.toList (⟨#[10]⟩ : ByteArray).data.toList).toArray⟩ : ByteArray) = trimL s := rfl
    rw [e1] at h1
    clear h0 e1
    generalize trimL s = t at HL HT HC h1 h2
    generalize Lib.countB t ⟨#[10]⟩ = c at HL HT HC h2
    generalize Lib.splitB ⟨#[10]⟩ 0 c t = ls at HL HT h2
    have H1 := Lib.hid h1
    have H2 := Lib.hid h2
    clear h1 h2
    go_enter Tryd.func27, Tryd.ntmps27
    go_wp2_with fail
    refine H1.out.mono ?_
    rintro e w1 ⟨rfl, rfl⟩
    go_wp2_with fail
    refine H2.out.mono ?_
    rintro e w2 ⟨rfl, rfl⟩
    go_wp2_with fail
    go_ret
    refine ⟨_, rfl, ?_, Keep.alloc (Keep.refl _ _) _⟩
    rw [HL.out]
    refine ⟨some ⟨w1.heap.size, 0, none⟩, by rw [HT.out]; rfl, by have := HT.out; have := HC.out; omega, fun k h => ⟨_, rfl, by simp, ?_⟩⟩
    exact (Blk.new w1 _ _).cell k (by simp [h])

theorem long_any (s : ByteArray) (w : World) :
    Calls Tryd.prog 29 #[.string s] w fun e w' => e = .returned (.bool (decide (600 < s.size))) ∧ w' = w := by
  have e : decide (600 < s.size) = decide ((600 : Int) < (s.size : Int)) := by rw [decide_eq_decide]; omega
  rw [e]
  go_enter Tryd.func29, Tryd.ntmps29
  go_wp2_with fail
  go_ret
  exact ⟨rfl, rfl⟩

set_option maxHeartbeats 1000000 in
set_option maxRecDepth 100000 in
theorem index_any (B : Nat) (v : Value) (ls : List ByteArray) (w : World) (h : LnAt B w v ls) :
    Calls Tryd.prog 45 #[v, .func (.func 29) #[] #[]] w fun e w' => (∃ r : Int, e = .returned (.int .i64 r) ∧ decide (0 ≤ r) = longL ls) ∧ Keep Nb w w' := by
  obtain ⟨A, rfl, hn, hc⟩ := h
  have HC := Lib.hid hc
  clear hc
  have hn2 : ls.length ≤ 9223372036854775807 := by omega
  clear hn
  go_enter Tryd.func45, Tryd.ntmps45
  go_wp2_with fail
  go_loopw [8] (fun i wr => ∃ k : Nat, k ≤ ls.length ∧ i = .int .i64 (k : Int) ∧ Hid (longL (ls.take k) = false ∧ wr = w)) (fun i _ => ls.length - (intOf i).toNat)
  case atStart => exact ⟨0, Nat.zero_le _, rfl, Lib.hid ⟨by simp [longL], rfl⟩⟩
  case round =>
    obtain ⟨k, hk, rfl, HR⟩ := hrel
    obtain rfl := HR.out.2
    rcases Nat.lt_or_ge k ls.length with hlt | hge
    · obtain ⟨b, rfl, _, c0⟩ := HC.out k hlt
      have lb := cell_lt c0
      have HST : Hid (longL (ls.take (k + 1)) = (longL (ls.take k) || decide (600 < (ls[k]).size))) := Lib.hid (by unfold longL; rw [List.take_succ_eq_append_getElem hlt, List.any_append]; simp)
      have HAL : Hid (decide (600 < (ls[k]).size) = true → longL ls = true) := Lib.hid (fun h => List.any_eq_true.2 ⟨_, List.getElem_mem hlt, h⟩)
      have HX := Lib.hid (long_any ls[k] wr)
      generalize ls[k] = x at c0 HST HAL HX
      go_wp2_with fail
      refine HX.out.mono ?_
      rintro e w2 ⟨rfl, rfl⟩
      generalize decide (600 < x.size) = V at HST HAL ⊢
      cases V with
      | true =>
        go_wp2_with fail
        go_ret
        exact ⟨⟨_, rfl, by rw [HAL.out (by simp)]; simp⟩, Keep.refl _ _⟩
      | false =>
        go_wp2_with fail
        go_roundw
        case rel => exact ⟨k + 1, by omega, by go_num, Lib.hid ⟨by rw [HST.out, HR.out.1]; rfl, by simp⟩⟩
        case measure => simp [intOf]; omega
    · obtain rfl : k = ls.length := by omega
      have HA : Hid (longL ls = false) := Lib.hid (by have := HR.out.1; rwa [List.take_length] at this)
      go_wp2_with fail
      go_ret
      exact ⟨⟨_, rfl, by rw [HA.out]; rfl⟩, Keep.refl _ _⟩

theorem contains_any (B : Nat) (v : Value) (ls : List ByteArray) (w : World) (h : LnAt B w v ls) :
    Calls Tryd.prog 28 #[v, .func (.func 29) #[] #[]] w fun e w' => e = .returned (.bool (longL ls)) ∧ Keep Nb w w' := by
  have H := Lib.hid (index_any B v ls w h)
  clear h
  go_enter Tryd.func28, Tryd.ntmps28
  go_wp2_with fail
  refine H.out.mono ?_
  rintro e w2 ⟨⟨r, rfl, hr⟩, hk⟩
  go_wp2_with fail
  go_ret
  exact ⟨by rw [← hr]; rfl, hk⟩

theorem names_nil (w : World) : Calls Tryd.prog 30 #[.slice none 0 0] w fun e w' => e = .returned (.bool true) ∧ Keep Nb w w' := by
  go_enter Tryd.func30, Tryd.ntmps30
  go_wp2_with fail
  go_loopw [7] (fun i wr => i = .int .i64 0 ∧ wr = w) (fun i _ => 0)
  case atStart => exact ⟨rfl, rfl⟩
  case round =>
    obtain ⟨rfl, rfl⟩ := hrel
    go_wp2_with fail
    go_ret
    exact ⟨rfl, Keep.refl _ _⟩

/-- What New answers. -/
def newBad (s : ByteArray) : Bool := decide (2000 < s.size) || longL (linesP s)

set_option maxHeartbeats 1000000 in
set_option maxRecDepth 100000 in
theorem new_any (s : ByteArray) (hs : s.size ≤ 100000) (w : World) (hm : Laid0 w) :
    Calls Tryd.prog 7 #[.string s, .slice none 0 0] w fun e w' => Keep Nb w w' ∧ (newBad s = true → e = .returned (.tuple #[.pointer none, .int .i64 14])) ∧
      (newBad s = false → ∃ p v, e = .returned (.tuple #[.pointer (some ⟨p, 0, none⟩), .int .i64 0]) ∧ w.heap.size ≤ p ∧ SpAt w' p v 0 ∧ LnAt p w' v (linesP s)) := by
  have HS := Lib.hid (split_any s hs w hm)
  have HB : Hid (newBad s = (decide (2000 < s.size) || longL (linesP s))) := Lib.hid rfl
  generalize newBad s = N at HB
  generalize linesP s = ls at HS HB
  go_enter Tryd.func7, Tryd.ntmps7
  go_wp2_with fail
  refine HS.out.mono ?_
  rintro e w1 ⟨v, rfl, hln, hk⟩
  have hv : ∃ A n, v = .slice A n n := by obtain ⟨A, rfl, _⟩ := hln; exact ⟨_, _, rfl⟩
  have HLN := Lib.hid hln
  have HK := Lib.hid hk
  clear hln hk HS hm hs
  by_cases hbig : 2000 < s.size
  · have m1 : decide ((2000 : Int) < (s.size : Int)) = true := by simp; omega
    have m2 : decide (2000 < s.size) = true := by simpa using hbig
    have HN : Hid (N = true) := Lib.hid (by rw [HB.out, m2]; rfl)
    clear m2 hbig
    obtain ⟨A, n, rfl⟩ := hv
    go_wp2_with fail
    go_ret2
    exact ⟨HK.out.trans (Keep.alloc (Keep.refl _ _) _) (fun _ _ h => h), fun _ => rfl, fun h => by rw [HN.out] at h; cases h⟩
  · have m1 : decide ((2000 : Int) < (s.size : Int)) = false := by simp; omega
    have m2 : decide (2000 < s.size) = false := by simpa using hbig
    have HN : Hid (N = longL ls) := Lib.hid (by rw [HB.out, m2]; rfl)
    clear m2 hbig
    obtain ⟨A, n, rfl⟩ := hv
    have HC := Lib.hid (fun wx (hx : LnAt w1.heap.size wx (.slice A n n) ls) => contains_any w1.heap.size (.slice A n n) ls wx hx)
    have HP : Hid (Keep Nb w1 (w1.alloc (.cells (spRow (.slice A n n) 0 (.pointer none) (.slice none 0 0) 0) 52))) := Lib.hid (Keep.alloc (Keep.refl _ _) _)
    have HP2 : Hid (SpAt (w1.alloc (.cells (spRow (.slice A n n) 0 (.pointer none) (.slice none 0 0) 0) 52)) w1.heap.size (.slice A n n) 0) := Lib.hid (Blk.new w1 _ _)
    go_wp2_with fail
    refine (HC.out _ (HLN.out.keep HP.out (fun _ _ h => h))).mono ?_
    rintro e w2 ⟨rfl, hk2⟩
    have HK2 := Lib.hid hk2
    have HLL := Lib.hid ((HLN.out.keep HP.out (fun _ _ h => h)).keep hk2 (fun _ _ h => h))
    have HSP : Hid (SpAt w2 w1.heap.size (.slice A n n) 0) := Lib.hid (HP2.out.keep hk2 (fun h => h))
    have HKA : Hid (Keep Nb w w2) := Lib.hid ((HK.out.trans HP.out (fun _ _ h => h)).trans hk2 (fun _ _ h => h))
    clear hk2
    cases hl : longL ls with
    | true =>
      go_wp2_with fail
      go_ret2
      exact ⟨HKA.out, fun _ => rfl, fun h => by rw [HN.out, hl] at h; cases h⟩
    | false =>
      have HNA := Lib.hid (names_nil w2)
      go_wp2_with fail
      refine HNA.out.mono ?_
      rintro e w3 ⟨rfl, hk3⟩
      have HLL3 := Lib.hid (HLL.out.keep hk3 (fun _ _ h => h))
      have HSP3 := Lib.hid (HSP.out.keep hk3 (fun h => h))
      have HKA3 : Hid (Keep Nb w w3) := Lib.hid (HKA.out.trans hk3 (fun _ _ h => h))
      clear hk3
      go_wp2_with fail
      go_loopw [28] (fun i wr => i = .int .i64 0 ∧ wr = w3) (fun i _ => 0)
      case atStart => exact ⟨rfl, rfl⟩
      case round =>
        obtain ⟨rfl, rfl⟩ := hrel
        go_wp2_with fail
        go_ret2
        exact ⟨HKA3.out, fun h => (by rw [HN.out, hl] at h; cases h), fun _ => ⟨_, _, rfl, HK.out.size, HSP3.out, HLL3.out⟩⟩

theorem lines_any (p : Nat) (v : Value) (n : Int) (B : Nat) (ls : List ByteArray) (w : World) (hp : SpAt w p v n) (hl : LnAt B w v ls) :
    Calls Tryd.prog 8 #[.pointer (some ⟨p, 0, none⟩)] w fun e w' => e = .returned (.int .i64 (ls.length : Int)) ∧ w' = w := by
  obtain ⟨A, rfl, _, _⟩ := hl
  have c0 := hp.cell 0 (u := .slice A ls.length ls.length) rfl
  have lb := hp.lt
  clear hp
  go_enter Tryd.func8, Tryd.ntmps8
  go_wp2_with fail
  go_ret
  exact ⟨rfl, rfl⟩

theorem last_any (p : Nat) (v : Value) (n : Nat) (B : Nat) (ls : List ByteArray) (w : World) (hp : SpAt w p v n) (hl : LnAt B w v ls) :
    Calls Tryd.prog 10 #[.pointer (some ⟨p, 0, none⟩)] w fun e w' => e = .returned (.bool (decide (n = ls.length))) ∧ Keep Nb w w' := by
  obtain ⟨A, rfl, _, _⟩ := hl
  have e : decide (n = ls.length) = ((n : Int) == (ls.length : Int)) := by rw [Bool.eq_iff_iff, decide_eq_true_eq, beq_iff_eq]; omega
  rw [e]
  have c0 := hp.cell 0 (u := .slice A ls.length ls.length) rfl
  have c1 := hp.cell 1 (u := .int .i64 n) rfl
  have lb := hp.lt
  clear hp e
  go_enter Tryd.func10, Tryd.ntmps10
  go_wp2_with fail
  refine wp_region_x (by kernel_rfl) (by kernel_rfl) ?_; (repeat (go_big_quiet_step ((fail)))); refine wpQuiet_nil ?_; rintro w3 ⟨⟨_, hk3⟩, rfl⟩
  go_wp2_with fail
  go_ret
  exact ⟨rfl, hk3⟩

end Go.Proofs.YtnjanpejmfkopaaDoor
