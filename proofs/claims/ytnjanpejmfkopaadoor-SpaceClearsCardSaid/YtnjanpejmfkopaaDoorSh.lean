/- How a byte is shown: the program's shown, the reference's sign. -/
import Derived.Test.YtnjanpejmfkopaaDoorAw
import Derived.Laws.IdiomStrings
import Derived.Laws.Runes
import Derived.Deep.DeepCutAuto
namespace Go.Proofs.YtnjanpejmfkopaaDoor
set_option linter.unusedVariables false
set_option linter.unusedSimpArgs false
open Go.RowKit P8

theorem conv_row (w : World) (l : List UInt8) (cs : Array Value) (n : Nat) (hn : l.length = n) (hcs : cs = (l.map fun (c : UInt8) => Value.int .u8 (c.toNat : Int)).toArray) :
    (convert 47 9 (.slice (some ⟨w.heap.size, 0, none⟩) n n)).run Tryd.prog (w.alloc (.cells cs 5)) = .ok (.string ⟨l.toArray⟩) (w.alloc (.cells cs 5)) := by
  subst hcs hn
  exact run_convert_bytes_back (P := Tryd.prog) _ 47 9 5 ⟨w.heap.size, 0, none⟩ l.length l Tryd.underlying47 Tryd.underlying5 Tryd.underlying9 (fun j hj => by
    rw [Addr.add_lit]
    exact Blk.cell (Blk.new w _ 5) _ (by simp [hj]))

/-- A byte, as it is shown. -/
def shP (c : Nat) : List UInt8 :=
  if c = 92 then [92, 92]
  else if 7 ≤ c ∧ c ≤ 13 then [92, [97, 98, 116, 110, 118, 102, 114].getD (c - 7) 0]
  else if c < 32 ∨ 126 < c then [92, UInt8.ofNat (48 + c / 64), UInt8.ofNat (48 + c / 8 % 8), UInt8.ofNat (48 + c % 8)]
  else [UInt8.ofNat c]
theorem shP_len (c : Nat) : (shP c).length ≤ 4 ∧ 1 ≤ (shP c).length := by
  unfold shP; split
  · simp
  · split
    · simp
    · split <;> simp
theorem shP_good : ∀ c : Nat, c < 256 → ∀ x ∈ shP c, 32 ≤ x.toNat ∧ x.toNat ≤ 126 := by decide +kernel

theorem sh0 (w : World) : Calls Tryd.prog 33 #[.int .u8 92] w fun e w' => e = .returned (.string ⟨#[92, 92]⟩) ∧ Keep Nb w w' := by
  go_enter Tryd.func33, Tryd.ntmps33
  go_wp2_with fail
  go_ret
  exact ⟨rfl, Keep.refl _ _⟩
set_option maxRecDepth 100000 in
theorem sh1 (c : Int) (x : Int) (y : UInt8) (w : World) (h : (c, x, y) ∈ [(7, 97, 97), (8, 98, 98), (9, 116, 116), (10, 110, 110), (11, 118, 118), (12, 102, 102), ((13 : Int), (114 : Int), (114 : UInt8))]) : Calls Tryd.prog 33 #[.int .u8 c] w fun e w' => e = .returned (.string ⟨#[92, y]⟩) ∧ Keep Nb w w' := by
  have henc : Utf8.encode x = ⟨#[y]⟩ := by
    simp only [List.mem_cons, Prod.mk.injEq, List.mem_nil_iff, or_false] at h
    rcases h with ⟨_, rfl, rfl⟩ | ⟨_, rfl, rfl⟩ | ⟨_, rfl, rfl⟩ | ⟨_, rfl, rfl⟩ | ⟨_, rfl, rfl⟩ | ⟨_, rfl, rfl⟩ | ⟨_, rfl, rfl⟩ <;> kernel_rfl
  simp only [List.mem_cons, Prod.mk.injEq, List.mem_nil_iff, or_false] at h
  rcases h with ⟨rfl, rfl, rfl⟩ | ⟨rfl, rfl, rfl⟩ | ⟨rfl, rfl, rfl⟩ | ⟨rfl, rfl, rfl⟩ | ⟨rfl, rfl, rfl⟩ | ⟨rfl, rfl, rfl⟩ | ⟨rfl, rfl, rfl⟩
  all_goals
    go_enter Tryd.func33, Tryd.ntmps33
    go_wp2_with fail
    go_ret
    refine ⟨?_, Keep.refl _ _⟩
    exact (congrArg (fun z : ByteArray => Ending.returned (Value.string (⟨#[92]⟩ ++ z))) henc).trans (by kernel_rfl)
theorem sh3 (c : Nat) (w : World) (hc : c < 256) (h0 : c ≠ 92) (h1 : ¬ (7 ≤ c ∧ c ≤ 13)) (h2 : c < 32 ∨ 126 < c) :
    Calls Tryd.prog 33 #[.int .u8 c] w fun e w' => e = .returned (.string ⟨#[92, UInt8.ofNat (48 + c / 64), UInt8.ofNat (48 + c / 8 % 8), UInt8.ofNat (48 + c % 8)]⟩) ∧ Keep Nb w w' := by
  have m0 : ((c : Int) == 92) = false := by simp; omega
  have m1 : (decide ((7 : Int) ≤ (c : Int)) && decide ((c : Int) ≤ 13)) = false := by simp; omega
  have e1 : ((UInt8.ofNat (48 + c / 64)).toNat : Int) = 48 + (c : Int) / 64 := by rw [UInt8.toNat_ofNat_of_lt' (by have : UInt8.size = 256 := rfl; omega)]; omega
  have e2 : ((UInt8.ofNat (48 + c / 8 % 8)).toNat : Int) = 48 + (c : Int) / 8 % 8 := by rw [UInt8.toNat_ofNat_of_lt' (by have : UInt8.size = 256 := rfl; omega)]; omega
  have e3 : ((UInt8.ofNat (48 + c % 8)).toNat : Int) = 48 + (c : Int) % 8 := by rw [UInt8.toNat_ofNat_of_lt' (by have : UInt8.size = 256 := rfl; omega)]; omega
  have hcv := conv_row w [92, UInt8.ofNat (48 + c / 64), UInt8.ofNat (48 + c / 8 % 8), UInt8.ofNat (48 + c % 8)] #[.int .u8 92, .int .u8 (48 + (c : Int) / 64), .int .u8 (48 + (c : Int) / 8 % 8), .int .u8 (48 + (c : Int) % 8)] 4 rfl (by
    rw [← e1, ← e2, ← e3]; rfl)
  clear e1 e2 e3
  generalize UInt8.ofNat (48 + c / 64) = x1 at hcv ⊢
  generalize UInt8.ofNat (48 + c / 8 % 8) = x2 at hcv ⊢
  generalize UInt8.ofNat (48 + c % 8) = x3 at hcv ⊢
  go_enter Tryd.func33, Tryd.ntmps33
  go_wp2_with fail
  all_goals first
    | (exfalso; omega)
    | (go_ret; exact ⟨rfl, Keep.alloc (Keep.refl _ _) _⟩)
theorem sh2 (c : Nat) (w : World) (hc : c < 256) (h0 : c ≠ 92) (h1 : ¬ (7 ≤ c ∧ c ≤ 13)) (h2 : ¬ (c < 32 ∨ 126 < c)) :
    Calls Tryd.prog 33 #[.int .u8 c] w fun e w' => e = .returned (.string ⟨#[UInt8.ofNat c]⟩) ∧ Keep Nb w w' := by
  have m0 : ((c : Int) == 92) = false := by simp; omega
  have m1 : (decide ((7 : Int) ≤ (c : Int)) && decide ((c : Int) ≤ 13)) = false := by simp; omega
  have e1 : ((UInt8.ofNat c).toNat : Int) = (c : Int) := by rw [UInt8.toNat_ofNat_of_lt' (by have : UInt8.size = 256 := rfl; omega)]
  have hcv := conv_row w [UInt8.ofNat c] #[.int .u8 (c : Int)] 1 rfl (by rw [← e1]; rfl)
  clear e1
  generalize UInt8.ofNat c = x1 at hcv ⊢
  go_enter Tryd.func33, Tryd.ntmps33
  go_wp2_with fail
  all_goals first
    | (exfalso; omega)
    | (go_ret; exact ⟨rfl, Keep.alloc (Keep.refl _ _) _⟩)

theorem shown_any (c : Nat) (w : World) (hc : c < 256) :
    Calls Tryd.prog 33 #[.int .u8 c] w fun e w' => e = .returned (.string ⟨(shP c).toArray⟩) ∧ Keep Nb w w' := by
  unfold shP
  by_cases h0 : c = 92
  · subst h0; exact sh0 w
  rw [if_neg h0]
  by_cases h1 : 7 ≤ c ∧ c ≤ 13
  · rw [if_pos h1]
    have : c = 7 ∨ c = 8 ∨ c = 9 ∨ c = 10 ∨ c = 11 ∨ c = 12 ∨ c = 13 := by omega
    rcases this with rfl | rfl | rfl | rfl | rfl | rfl | rfl
    · exact sh1 7 97 97 w (by decide)
    · exact sh1 8 98 98 w (by decide)
    · exact sh1 9 116 116 w (by decide)
    · exact sh1 10 110 110 w (by decide)
    · exact sh1 11 118 118 w (by decide)
    · exact sh1 12 102 102 w (by decide)
    · exact sh1 13 114 114 w (by decide)
  rw [if_neg h1]
  by_cases h2 : c < 32 ∨ 126 < c
  · rw [if_pos h2]; exact sh3 c w hc h0 h1 h2
  · rw [if_neg h2]; exact sh2 c w hc h0 h1 h2

/-! The reference -/
theorem sg0 (w : World) : Calls Tryd.prog 35 #[.int .u8 92] w fun e w' => e = .returned (.string ⟨#[92, 92]⟩) ∧ Keep Nb w w' := by
  go_enter Tryd.func35, Tryd.ntmps35
  go_wp2_with fail
  go_ret
  exact ⟨rfl, Keep.refl _ _⟩
theorem sg1 (c : Int) (y : UInt8) (w : World) (h : (c, y) ∈ [(7, 97), (8, 98), (9, 116), (10, 110), (11, 118), (12, 102), ((13 : Int), (114 : UInt8))]) : Calls Tryd.prog 35 #[.int .u8 c] w fun e w' => e = .returned (.string ⟨#[92, y]⟩) ∧ Keep Nb w w' := by
  simp only [List.mem_cons, Prod.mk.injEq, List.mem_nil_iff, or_false] at h
  rcases h with ⟨rfl, rfl⟩ | ⟨rfl, rfl⟩ | ⟨rfl, rfl⟩ | ⟨rfl, rfl⟩ | ⟨rfl, rfl⟩ | ⟨rfl, rfl⟩ | ⟨rfl, rfl⟩
  all_goals
    go_enter Tryd.func35, Tryd.ntmps35
    go_wp2_with fail
    go_ret
    exact ⟨rfl, Keep.refl _ _⟩
theorem sg3 (c : Nat) (w : World) (hc : c < 256) (h0 : c ≠ 92) (h1 : ¬ (7 ≤ c ∧ c ≤ 13)) (h2 : c < 32 ∨ 126 < c) :
    Calls Tryd.prog 35 #[.int .u8 c] w fun e w' => e = .returned (.string ⟨#[92, UInt8.ofNat (48 + c / 64), UInt8.ofNat (48 + c / 8 % 8), UInt8.ofNat (48 + c % 8)]⟩) ∧ Keep Nb w w' := by
  have m0 : ((c : Int) == 92) = false := by simp; omega
  have m1 : (decide ((7 : Int) ≤ (c : Int)) && decide ((c : Int) ≤ 13)) = false := by simp; omega
  have e1 : ((UInt8.ofNat (48 + c / 64)).toNat : Int) = 48 + (c : Int) / 64 := by rw [UInt8.toNat_ofNat_of_lt' (by have : UInt8.size = 256 := rfl; omega)]; omega
  have e2 : ((UInt8.ofNat (48 + c / 8 % 8)).toNat : Int) = 48 + (c : Int) / 8 % 8 := by rw [UInt8.toNat_ofNat_of_lt' (by have : UInt8.size = 256 := rfl; omega)]; omega
  have e3 : ((UInt8.ofNat (48 + c % 8)).toNat : Int) = 48 + (c : Int) % 8 := by rw [UInt8.toNat_ofNat_of_lt' (by have : UInt8.size = 256 := rfl; omega)]; omega
  have hcv := conv_row w [UInt8.ofNat (48 + c / 64), UInt8.ofNat (48 + c / 8 % 8), UInt8.ofNat (48 + c % 8)] #[.int .u8 (48 + (c : Int) / 64), .int .u8 (48 + (c : Int) / 8 % 8), .int .u8 (48 + (c : Int) % 8)] 3 rfl (by
    rw [← e1, ← e2, ← e3]; rfl)
  clear e1 e2 e3
  generalize UInt8.ofNat (48 + c / 64) = x1 at hcv ⊢
  generalize UInt8.ofNat (48 + c / 8 % 8) = x2 at hcv ⊢
  generalize UInt8.ofNat (48 + c % 8) = x3 at hcv ⊢
  go_enter Tryd.func35, Tryd.ntmps35
  go_wp2_with fail
  all_goals first
    | (exfalso; omega)
    | (go_ret; exact ⟨rfl, Keep.alloc (Keep.refl _ _) _⟩)
theorem sg2 (c : Nat) (w : World) (hc : c < 256) (h0 : c ≠ 92) (h1 : ¬ (7 ≤ c ∧ c ≤ 13)) (h2 : ¬ (c < 32 ∨ 126 < c)) :
    Calls Tryd.prog 35 #[.int .u8 c] w fun e w' => e = .returned (.string ⟨#[UInt8.ofNat c]⟩) ∧ Keep Nb w w' := by
  have m0 : ((c : Int) == 92) = false := by simp; omega
  have m1 : (decide ((7 : Int) ≤ (c : Int)) && decide ((c : Int) ≤ 13)) = false := by simp; omega
  have e1 : ((UInt8.ofNat c).toNat : Int) = (c : Int) := by rw [UInt8.toNat_ofNat_of_lt' (by have : UInt8.size = 256 := rfl; omega)]
  have hcv := conv_row w [UInt8.ofNat c] #[.int .u8 (c : Int)] 1 rfl (by rw [← e1]; rfl)
  clear e1
  generalize UInt8.ofNat c = x1 at hcv ⊢
  go_enter Tryd.func35, Tryd.ntmps35
  go_wp2_with fail
  all_goals first
    | (exfalso; omega)
    | (go_ret; exact ⟨rfl, Keep.alloc (Keep.refl _ _) _⟩)
theorem sign_any (c : Nat) (w : World) (hc : c < 256) :
    Calls Tryd.prog 35 #[.int .u8 c] w fun e w' => e = .returned (.string ⟨(shP c).toArray⟩) ∧ Keep Nb w w' := by
  unfold shP
  by_cases h0 : c = 92
  · subst h0; exact sg0 w
  rw [if_neg h0]
  by_cases h1 : 7 ≤ c ∧ c ≤ 13
  · rw [if_pos h1]
    have : c = 7 ∨ c = 8 ∨ c = 9 ∨ c = 10 ∨ c = 11 ∨ c = 12 ∨ c = 13 := by omega
    rcases this with rfl | rfl | rfl | rfl | rfl | rfl | rfl
    · exact sg1 7 97 w (by decide)
    · exact sg1 8 98 w (by decide)
    · exact sg1 9 116 w (by decide)
    · exact sg1 10 110 w (by decide)
    · exact sg1 11 118 w (by decide)
    · exact sg1 12 102 w (by decide)
    · exact sg1 13 114 w (by decide)
  rw [if_neg h1]
  by_cases h2 : c < 32 ∨ 126 < c
  · rw [if_pos h2]; exact sg3 c w hc h0 h1 h2
  · rw [if_neg h2]; exact sg2 c w hc h0 h1 h2

end Go.Proofs.YtnjanpejmfkopaaDoor
