/- What stands in a node besides its nodes: top; whether two are alike: Same. -/
import Derived.Test.YtkidjbfapldmbaaCount
import Derived.Deep.RegionHeld3
import Derived.Deep.QuietTactic
import Derived.BigQuiet
namespace Go.Proofs.Ytkidjbfapldmbaa
set_option linter.unusedVariables false
set_option linter.unusedSimpArgs false
open Go.RowKit P8

def Hd.row (h : Hd) : Array Value :=
  #[.int .i64 h.k, .int .u8 h.c, .int .u64 h.s0, .int .u64 h.s1, .int .u64 h.s2, .int .u64 h.s3, .int .i64 h.n, .int .i64 h.mn, .int .i64 h.mx]

set_option maxHeartbeats 1000000 in
theorem top_any (T : Nd) (v : Value) (w : World) :
    Calls Try.prog 59 #[.agg (Nd.row T v)] w fun e w' => e = .returned (.agg (Hd.row T.h)) ∧ Keep Nb w w' := by
  rw [Nd.row, Hd.row]
  go_enter Try.func59, Try.ntmps59
  go_wp2_with fail
  exact bodyPost_ret (v := .agg (Hd.row T.h)) (by simp [results, Try.results59, go_sem, Hd.row]) rfl ⟨rfl, (by repeat (first | assumption | exact Keep.refl _ _ | refine Keep.alloc ?_ _ | refine Keep.drew ?_ | refine Keep.setCell ?_ (Or.inl (by simp)) _ | refine Keep.setRow ?_ (Or.inl (by simp)) _))⟩

theorem top_lit (T : Nd) (v : Value) (w : World) :
    Calls Try.prog 59 #[.agg (Nd.row T v)] w fun e w' => e = .returned (.agg #[.int .i64 T.h.k, .int .u8 T.h.c, .int .u64 T.h.s0, .int .u64 T.h.s1, .int .u64 T.h.s2, .int .u64 T.h.s3, .int .i64 T.h.n, .int .i64 T.h.mn, .int .i64 T.h.mx]) ∧ Keep Nb w w' := top_any T v w

theorem sameL_len : ∀ {l l' : List Nd}, l.length ≠ l'.length → sameL l l' = false
  | [], [], h => by simp at h
  | [], _ :: _, _ => by simp [sameL]
  | _ :: _, [], _ => by simp [sameL]
  | x :: r, y :: s, h => by rw [sameL, sameL_len (l := r) (l' := s) (by simpa using h)]; simp

theorem sameL_step {l l' : List Nd} (j : Nat) (hj : j < l.length) (hj' : j < l'.length) : sameL (l.drop j) (l'.drop j) = (same l[j] l'[j] && sameL (l.drop (j + 1)) (l'.drop (j + 1))) := by
  rw [List.drop_eq_getElem_cons hj, List.drop_eq_getElem_cons hj', sameL]

def SameSaid (c : Nat) : Prop := ∀ (T U : Nd) (_ : count T ≤ c) (v v' : Value) (w : World) (_ : Lies w T v) (_ : Lies w U v'),
    Calls Try.prog 23 #[.agg (Nd.row T v), .agg (Nd.row U v')] w fun e w' => e = .returned (.bool (same T U)) ∧ Keep Nb w w'

set_option maxHeartbeats 1000000 in
theorem equal_any (c : Nat) (HI : SameSaid c) (l l' : List Nd) (hc : countL l ≤ c) (A A' : Option Addr) (cap cap' : Nat) (w : World) (hlen : l.length ≤ 1000000) (hlen' : l'.length ≤ maxLen) (hL : LiesL w A 0 l) (hL' : LiesL w A' 0 l') :
    Calls Try.prog 60 #[.slice A l.length cap, .slice A' l'.length cap', .func (.func 23) #[] #[]] w fun e w' => e = .returned (.bool (sameL l l')) ∧ Keep Nb w w' := by
  unfold maxLen at hlen'
  by_cases hl : l.length = l'.length
  · generalize hR : sameL l l' = R
    have HR := Lib.hid hR; clear hR
    have hb1 : ((l.length : Int) != (l'.length : Int)) = false := by simp; omega
    have HL := Lib.hid hl; clear hl
    go_enter Try.func60, Try.ntmps60
    go_wp2_with fail
    go_loopw [17] (fun i wr => ∃ j : Nat, j ≤ l.length ∧ i = .int .i64 j ∧ Hid (R = sameL (l.drop j) (l'.drop j)) ∧ Keep Nb w wr) (fun i _ => l.length - (intOf i).toNat)
    case atStart => exact ⟨0, by omega, rfl, Lib.hid (by rw [← HR.out]; rfl), Keep.refl _ _⟩
    case round =>
      obtain ⟨j, hj, rfl, hH, hk⟩ := hrel
      by_cases hlt : j < l.length
      · have hlt' : j < l'.length := by rw [← HL.out]; exact hlt
        obtain ⟨b, off, A2, n2, rfl, hten, hS⟩ := hL.at j hlt
        obtain ⟨c0, c1, c2, c3, c4, c5, c6, c7, c8, c9, lt⟩ := hten.keep hk
        obtain ⟨b', off', A2', n2', rfl, hten', hS'⟩ := hL'.at j hlt'
        obtain ⟨c0', c1', c2', c3', c4', c5', c6', c7', c8', c9', lt'⟩ := hten'.keep hk
        have hcj := countL_get_le l j hlt
        go_wp2_with fail
        refine (HI l[j] l'[j] (by omega) _ _ _ (Lies_keep (hk.trans (by repeat (first | assumption | exact Keep.refl _ _ | refine Keep.alloc ?_ _ | refine Keep.drew ?_ | refine Keep.setCell ?_ (Or.inl (by simp)) _ | refine Keep.setRow ?_ (Or.inl (by simp)) _)) (fun _ _ h => h)) hS) (Lies_keep (hk.trans (by repeat (first | assumption | exact Keep.refl _ _ | refine Keep.alloc ?_ _ | refine Keep.drew ?_ | refine Keep.setCell ?_ (Or.inl (by simp)) _ | refine Keep.setRow ?_ (Or.inl (by simp)) _)) (fun _ _ h => h)) hS')).mono ?_
        have hst := sameL_step j hlt hlt'
        have hH2 := hH.out
        rw [hst] at hH2
        generalize hy : same l[j] l'[j] = y at hH2 ⊢
        have HH := Lib.hid hH2; clear hH2 hst hH hy
        rintro e w2 ⟨rfl, hk2⟩
        have hk3 : Keep Nb w w2 := Keep.trans (by repeat (first | assumption | exact Keep.refl _ _ | refine Keep.alloc ?_ _ | refine Keep.drew ?_ | refine Keep.setCell ?_ (Or.inl (by simp)) _ | refine Keep.setRow ?_ (Or.inl (by simp)) _)) hk2 (fun _ _ h => h)
        cases y with
        | false =>
          go_wp2_with fail
          go_ret
          exact ⟨ret_bool (by rw [HH.out]; simp), hk3⟩
        | true =>
          go_wp2_with fail
          go_roundw
          case rel => exact ⟨j + 1, by omega, by go_num, Lib.hid (by rw [HH.out]; simp), hk3⟩
          case measure => simp [intOf]; omega
      · obtain rfl : j = l.length := by omega
        have hF := hH.out
        rw [List.drop_length, HL.out, List.drop_length, sameL] at hF
        have HF := Lib.hid hF; clear hF hH
        go_wp2_with fail
        go_ret
        exact ⟨ret_bool (by rw [HF.out]), hk⟩
  · have hb1 : ((l.length : Int) != (l'.length : Int)) = true := by simp; omega
    rw [sameL_len hl]
    go_enter Try.func60, Try.ntmps60
    go_wp2_with fail
    go_ret
    exact ⟨rfl, Keep.refl _ _⟩

end Go.Proofs.Ytkidjbfapldmbaa
