/- What is found from a place on: starts in turn. -/
import Derived.Test.YtkidjbfapldmbaaMth
namespace Go.Proofs.Ytkidjbfapldmbaa
set_option linter.unusedVariables false
set_option linter.unusedSimpArgs false
open Go.RowKit P8

def noC : Caps := fun _ => none
def findS (k : Nat) (L : List UInt8) (b : Bool) (n : Nd) : Nat → Nat → St → Option St
  | 0, _, s => some s
  | m + 1, a, s => if s.best.isSome = true then some s else (thr k ⟨L, b, a⟩ [.node n] a noC s).bind fun s1 => if s1.over = true then some s1 else findS k L b n m (a + 1) s1
theorem findS_more {k j : Nat} (hk : k ≤ j) {L : List UInt8} {b : Bool} {n : Nd} : ∀ (m a : Nat) (s x : St), findS k L b n m a s = some x → findS j L b n m a s = some x
  | 0, _, _, _, h => h
  | m + 1, a, s, x, h => by
    rw [findS] at h ⊢
    split
    · rename_i hb; rw [if_pos hb] at h; exact h
    · rename_i hb
      rw [if_neg hb, Option.bind_eq_some_iff] at h
      obtain ⟨s1, h1, h2⟩ := h
      rw [Option.bind_eq_some_iff]
      refine ⟨s1, thr_more hk h1, ?_⟩
      split
      · rename_i ho; rw [if_pos ho] at h2; exact h2
      · rename_i ho; rw [if_neg ho] at h2; exact findS_more hk m _ _ _ h2
theorem noC_ok (n : Nat) : CapsOk n noC := fun _ _ _ h => by cases h
theorem one_ok {n : Nd} (h : okT n) (q t : Nat) : TksOk q t [.node n] := fun u hu => by
  rcases List.mem_cons.1 hu with rfl | hu
  · exact h
  · cases hu
/-- There is always an answer. -/
theorem findS_ends (L : List UInt8) (b : Bool) (n : Nd) (hn : okT n) : ∀ (m a : Nat) (s : St), s.tries ≤ 3000 → ∃ k x, findS k L b n m a s = some x
  | 0, _, s, _ => ⟨0, s, rfl⟩
  | m + 1, a, s, hs => by
    by_cases hb : s.best.isSome = true
    · exact ⟨0, s, by rw [findS, if_pos hb]⟩
    obtain ⟨k1, s1, h1, _, h3⟩ := thr_ends ⟨L, b, a⟩ [.node n] a noC s (fun t ht => by
      rcases List.mem_cons.1 ht with rfl | ht
      · exact hn
      · cases ht) hs
    by_cases ho : s1.over = true
    · exact ⟨k1, s1, by rw [findS, if_neg hb, Option.bind_eq_some_iff]; exact ⟨s1, h1, if_pos ho⟩⟩
    obtain ⟨k2, x, h4⟩ := findS_ends L b n hn m (a + 1) s1 h3
    refine ⟨max k1 k2, x, ?_⟩
    rw [findS, if_neg hb, Option.bind_eq_some_iff]
    exact ⟨s1, thr_more (Nat.le_max_left _ _) h1, by rw [if_neg ho]; exact findS_more (Nat.le_max_right _ _) _ _ _ _ h4⟩
/-- What is found, by any fuel that is enough. -/
noncomputable def found (L : List UInt8) (b : Bool) (n : Nd) (hn : okT n) (a : Nat) : St := (findS_ends L b n hn (L.length + 1 - a) a ⟨0, false, none⟩ (Nat.zero_le _)).choose_spec.choose
theorem found_spec (L : List UInt8) (b : Bool) (n : Nd) (hn : okT n) (a : Nat) : ∃ k, findS k L b n (L.length + 1 - a) a ⟨0, false, none⟩ = some (found L b n hn a) :=
  ⟨_, (findS_ends L b n hn (L.length + 1 - a) a ⟨0, false, none⟩ (Nat.zero_le _)).choose_spec.choose_spec⟩

end Go.Proofs.Ytkidjbfapldmbaa
