/- What the functions that tell the fewest bytes, and the groups, come to: often, Least, of the program and of the reference. -/
import Derived.Test.YtkidjbfapldmbaaCount
import Derived.Test.YtkidjbfapldmbaaHeld
namespace Go.Proofs.Ytkidjbfapldmbaa
set_option linter.unusedVariables false
set_option linter.unusedSimpArgs false
open Go.RowKit P8

theorem often_any (k n : Int) (h0 : 0 ≤ k) (h1 : k ≤ mostLeast) (w : World) :
    Calls Try.prog 65 #[.int .i64 k, .int .i64 n] w fun e w' => e = .returned (.int .i64 (often k n)) ∧ w' = w := by
  have hr := often_range (n := n) h0 h1
  by_cases c0 : k = 0
  · have b0 : (k == 0) = true := by simpa using c0
    have e : often k n = 0 := by simp [often, c0]
    rw [e]
    go_enter Try.func65, Try.ntmps65
    go_wp2_with fail
    go_ret
    exact ⟨rfl, rfl⟩
  have b0 : (k == 0) = false := by simpa using c0
  by_cases c1 : n < 1
  · have b1 : decide (n < 1) = true := by simpa using c1
    have e : often k n = 0 := by simp [often, c1]
    rw [e]
    go_enter Try.func65, Try.ntmps65
    go_wp2_with fail
    go_ret
    exact ⟨rfl, rfl⟩
  have b1 : decide (n < 1) = false := by simpa using c1
  by_cases c2 : 2147483647 / k < n
  · have b2 : decide (2147483647 / k < n) = true := by simpa using c2
    have e : often k n = 2147483647 := by simp [often, c0, c1, mostLeast, c2]
    rw [e]
    go_enter Try.func65, Try.ntmps65
    go_wp2_with fail
    go_ret
    exact ⟨rfl, rfl⟩
  have b2 : decide (2147483647 / k < n) = false := by simpa using c2
  have e : often k n = k * n := by simp [often, c0, c1, mostLeast, c2]
  rw [e] at hr ⊢
  have b4 : wrap64 (k * n) = k * n := by unfold mostLeast at hr; unfold wrap64; omega
  go_enter Try.func65, Try.ntmps65
  go_wp2_with fail
  go_ret
  exact ⟨rfl, rfl⟩

def tleastSaid (c : Nat) : Prop := ∀ (T : Nd) (_ : count T ≤ c) (v : Value) (w : World) (_ : Lies w T v),
    Calls Try.prog 38 #[.agg (Nd.row T v)] w fun e w' => e = .returned (.int .i64 (least T)) ∧ Keep Nb w w'

set_option maxRecDepth 100000 in
set_option maxHeartbeats 2000000 in
theorem tleast_k1 (h : Hd) (l : List Nd) (hk : h.k = 1) (A : Option Addr) (cap : Nat) (w : World) :
    Calls Try.prog 38 #[.agg (Nd.row (.mk h l) (.slice A l.length cap))] w fun e w' => e = .returned (.int .i64 (1)) ∧ Keep Nb w w' := by
  have t1 : (h.k == 1) = true := by rw [hk]; rfl
  have t2 : (h.k == 2) = false := by rw [hk]; rfl
  have t3 : (h.k == 3) = false := by rw [hk]; rfl
  have t6 : (h.k == 6) = false := by rw [hk]; rfl
  have t10 : (h.k == 10) = false := by rw [hk]; rfl
  have t8 : (h.k == 8) = false := by rw [hk]; rfl
  have t9 : (h.k == 9) = false := by rw [hk]; rfl
  clear hk
  rw [Nd.row]
  simp only [Nd.h]
  go_enter Try.func38, Try.ntmps38
  go_wp2_with fail
  go_ret
  exact ⟨rfl, (by repeat (first | assumption | exact Keep.refl _ _ | refine Keep.alloc ?_ _ | refine Keep.drew ?_ | refine Keep.setCell ?_ (Or.inl (by simp)) _ | refine Keep.setRow ?_ (Or.inl (by simp)) _))⟩

set_option maxRecDepth 100000 in
set_option maxHeartbeats 2000000 in
theorem tleast_k2 (h : Hd) (l : List Nd) (hk : h.k = 2) (A : Option Addr) (cap : Nat) (w : World) :
    Calls Try.prog 38 #[.agg (Nd.row (.mk h l) (.slice A l.length cap))] w fun e w' => e = .returned (.int .i64 (1)) ∧ Keep Nb w w' := by
  have t1 : (h.k == 1) = false := by rw [hk]; rfl
  have t2 : (h.k == 2) = true := by rw [hk]; rfl
  have t3 : (h.k == 3) = false := by rw [hk]; rfl
  have t6 : (h.k == 6) = false := by rw [hk]; rfl
  have t10 : (h.k == 10) = false := by rw [hk]; rfl
  have t8 : (h.k == 8) = false := by rw [hk]; rfl
  have t9 : (h.k == 9) = false := by rw [hk]; rfl
  clear hk
  rw [Nd.row]
  simp only [Nd.h]
  go_enter Try.func38, Try.ntmps38
  go_wp2_with fail
  go_ret
  exact ⟨rfl, (by repeat (first | assumption | exact Keep.refl _ _ | refine Keep.alloc ?_ _ | refine Keep.drew ?_ | refine Keep.setCell ?_ (Or.inl (by simp)) _ | refine Keep.setRow ?_ (Or.inl (by simp)) _))⟩

set_option maxRecDepth 100000 in
set_option maxHeartbeats 2000000 in
theorem tleast_k3 (h : Hd) (l : List Nd) (hk : h.k = 3) (A : Option Addr) (cap : Nat) (w : World) :
    Calls Try.prog 38 #[.agg (Nd.row (.mk h l) (.slice A l.length cap))] w fun e w' => e = .returned (.int .i64 (1)) ∧ Keep Nb w w' := by
  have t1 : (h.k == 1) = false := by rw [hk]; rfl
  have t2 : (h.k == 2) = false := by rw [hk]; rfl
  have t3 : (h.k == 3) = true := by rw [hk]; rfl
  have t6 : (h.k == 6) = false := by rw [hk]; rfl
  have t10 : (h.k == 10) = false := by rw [hk]; rfl
  have t8 : (h.k == 8) = false := by rw [hk]; rfl
  have t9 : (h.k == 9) = false := by rw [hk]; rfl
  clear hk
  rw [Nd.row]
  simp only [Nd.h]
  go_enter Try.func38, Try.ntmps38
  go_wp2_with fail
  go_ret
  exact ⟨rfl, (by repeat (first | assumption | exact Keep.refl _ _ | refine Keep.alloc ?_ _ | refine Keep.drew ?_ | refine Keep.setCell ?_ (Or.inl (by simp)) _ | refine Keep.setRow ?_ (Or.inl (by simp)) _))⟩

set_option maxRecDepth 100000 in
set_option maxHeartbeats 2000000 in
theorem tleast_z (h : Hd) (l : List Nd) (n1 : h.k ≠ 1) (n2 : h.k ≠ 2) (n3 : h.k ≠ 3) (n6 : h.k ≠ 6) (n10 : h.k ≠ 10) (n8 : h.k ≠ 8) (n9 : h.k ≠ 9) (A : Option Addr) (cap : Nat) (w : World) :
    Calls Try.prog 38 #[.agg (Nd.row (.mk h l) (.slice A l.length cap))] w fun e w' => e = .returned (.int .i64 (0)) ∧ Keep Nb w w' := by
  have t1 : (h.k == 1) = false := by simp; omega
  have t2 : (h.k == 2) = false := by simp; omega
  have t3 : (h.k == 3) = false := by simp; omega
  have t6 : (h.k == 6) = false := by simp; omega
  have t10 : (h.k == 10) = false := by simp; omega
  have t8 : (h.k == 8) = false := by simp; omega
  have t9 : (h.k == 9) = false := by simp; omega
  rw [Nd.row]
  simp only [Nd.h]
  go_enter Try.func38, Try.ntmps38
  go_wp2_with fail
  go_ret
  exact ⟨rfl, (by repeat (first | assumption | exact Keep.refl _ _ | refine Keep.alloc ?_ _ | refine Keep.drew ?_ | refine Keep.setCell ?_ (Or.inl (by simp)) _ | refine Keep.setRow ?_ (Or.inl (by simp)) _))⟩

set_option maxRecDepth 100000 in
set_option maxHeartbeats 2000000 in
theorem tleast_n6 (h : Hd) (l : List Nd) (hk : h.k = 6) (hl0 : l.length = 0) (A : Option Addr) (cap : Nat) (w : World) :
    Calls Try.prog 38 #[.agg (Nd.row (.mk h l) (.slice A l.length cap))] w fun e w' => e = .returned (.int .i64 (0)) ∧ Keep Nb w w' := by
  have t1 : (h.k == 1) = false := by rw [hk]; rfl
  have t2 : (h.k == 2) = false := by rw [hk]; rfl
  have t3 : (h.k == 3) = false := by rw [hk]; rfl
  have t6 : (h.k == 6) = true := by rw [hk]; rfl
  have t10 : (h.k == 10) = false := by rw [hk]; rfl
  have t8 : (h.k == 8) = false := by rw [hk]; rfl
  have t9 : (h.k == 9) = false := by rw [hk]; rfl
  clear hk
  have e0 : ((l.length : Int) == 0) = true := beq_iff_eq.2 (by omega)
  rw [Nd.row]
  simp only [Nd.h]
  go_enter Try.func38, Try.ntmps38
  go_wp2_with fail
  go_ret
  exact ⟨rfl, (by repeat (first | assumption | exact Keep.refl _ _ | refine Keep.alloc ?_ _ | refine Keep.drew ?_ | refine Keep.setCell ?_ (Or.inl (by simp)) _ | refine Keep.setRow ?_ (Or.inl (by simp)) _))⟩

set_option maxRecDepth 100000 in
set_option maxHeartbeats 2000000 in
theorem tleast_n10 (h : Hd) (l : List Nd) (hk : h.k = 10) (hl0 : l.length = 0) (A : Option Addr) (cap : Nat) (w : World) :
    Calls Try.prog 38 #[.agg (Nd.row (.mk h l) (.slice A l.length cap))] w fun e w' => e = .returned (.int .i64 (0)) ∧ Keep Nb w w' := by
  have t1 : (h.k == 1) = false := by rw [hk]; rfl
  have t2 : (h.k == 2) = false := by rw [hk]; rfl
  have t3 : (h.k == 3) = false := by rw [hk]; rfl
  have t6 : (h.k == 6) = false := by rw [hk]; rfl
  have t10 : (h.k == 10) = true := by rw [hk]; rfl
  have t8 : (h.k == 8) = false := by rw [hk]; rfl
  have t9 : (h.k == 9) = false := by rw [hk]; rfl
  clear hk
  have e0 : ((l.length : Int) == 0) = true := beq_iff_eq.2 (by omega)
  rw [Nd.row]
  simp only [Nd.h]
  go_enter Try.func38, Try.ntmps38
  go_wp2_with fail
  go_ret
  exact ⟨rfl, (by repeat (first | assumption | exact Keep.refl _ _ | refine Keep.alloc ?_ _ | refine Keep.drew ?_ | refine Keep.setCell ?_ (Or.inl (by simp)) _ | refine Keep.setRow ?_ (Or.inl (by simp)) _))⟩

set_option maxRecDepth 100000 in
set_option maxHeartbeats 2000000 in
theorem tleast_n9 (h : Hd) (l : List Nd) (hk : h.k = 9) (hl0 : l.length = 0) (A : Option Addr) (cap : Nat) (w : World) :
    Calls Try.prog 38 #[.agg (Nd.row (.mk h l) (.slice A l.length cap))] w fun e w' => e = .returned (.int .i64 (0)) ∧ Keep Nb w w' := by
  have t1 : (h.k == 1) = false := by rw [hk]; rfl
  have t2 : (h.k == 2) = false := by rw [hk]; rfl
  have t3 : (h.k == 3) = false := by rw [hk]; rfl
  have t6 : (h.k == 6) = false := by rw [hk]; rfl
  have t10 : (h.k == 10) = false := by rw [hk]; rfl
  have t8 : (h.k == 8) = false := by rw [hk]; rfl
  have t9 : (h.k == 9) = true := by rw [hk]; rfl
  clear hk
  have e0 : ((l.length : Int) == 0) = true := beq_iff_eq.2 (by omega)
  rw [Nd.row]
  simp only [Nd.h]
  go_enter Try.func38, Try.ntmps38
  go_wp2_with fail
  go_ret
  exact ⟨rfl, (by repeat (first | assumption | exact Keep.refl _ _ | refine Keep.alloc ?_ _ | refine Keep.drew ?_ | refine Keep.setCell ?_ (Or.inl (by simp)) _ | refine Keep.setRow ?_ (Or.inl (by simp)) _))⟩

set_option maxRecDepth 100000 in
set_option maxHeartbeats 2000000 in
theorem tleast_s6 (h : Hd) (l : List Nd) (hk : h.k = 6) (hlt : 0 < l.length) (c : Nat) (HI : Hid (tleastSaid c)) (hc : countL l ≤ c) (A : Option Addr) (cap : Nat) (w : World) (hL : LiesL w A 0 l) :
    Calls Try.prog 38 #[.agg (Nd.row (.mk h l) (.slice A l.length cap))] w fun e w' => e = .returned (.int .i64 (least l[0])) ∧ Keep Nb w w' := by
  have t1 : (h.k == 1) = false := by rw [hk]; rfl
  have t2 : (h.k == 2) = false := by rw [hk]; rfl
  have t3 : (h.k == 3) = false := by rw [hk]; rfl
  have t6 : (h.k == 6) = true := by rw [hk]; rfl
  have t10 : (h.k == 10) = false := by rw [hk]; rfl
  have t8 : (h.k == 8) = false := by rw [hk]; rfl
  have t9 : (h.k == 9) = false := by rw [hk]; rfl
  clear hk
  have e0 : ((l.length : Int) == 0) = false := beq_eq_false_iff_ne.2 (by omega)
  have p0 : (0 : Int) < (l.length : Int) := by omega
  obtain ⟨b, off, A2, n2, rfl, hten, hS⟩ := hL.at 0 hlt
  rw [Nat.zero_mul, Nat.add_zero] at hten
  obtain ⟨c0, c1, c2, c3, c4, c5, c6, c7, c8, c9, lt⟩ := hten
  have hcx := countL_get_le l 0 hlt
  have hrg := least_range l[0]
  generalize hy : least l[0] = y at *
  have HY := Lib.hid hy; clear hy
  rw [Nd.row]
  simp only [Nd.h]
  go_enter Try.func38, Try.ntmps38
  go_wp2_with fail
  refine (HI.out l[0] (by omega) _ _ (Lies_keep (by repeat (first | assumption | exact Keep.refl _ _ | refine Keep.alloc ?_ _ | refine Keep.drew ?_ | refine Keep.setCell ?_ (Or.inl (by simp)) _ | refine Keep.setRow ?_ (Or.inl (by simp)) _)) hS)).mono ?_
  rw [HY.out]
  generalize hx : l[0] = x0 at *
  clear hx HY
  rintro e w2 ⟨rfl, hk2⟩
  have hs2 := hk2.size
  have hb0 : w2.cell? ⟨w.heap.size, 0, none⟩ = some (.int .i64 h.k) := hk2.cell (by simp) id
  have hb7 : w2.cell? ⟨w.heap.size, 7, none⟩ = some (.int .i64 h.mn) := hk2.cell (by simp) id
  have hs3 : w.heap.size < w2.heap.size := by simp at hs2; omega
  have hk3 : Keep Nb w w2 := Keep.trans (by repeat (first | assumption | exact Keep.refl _ _ | refine Keep.alloc ?_ _ | refine Keep.drew ?_ | refine Keep.setCell ?_ (Or.inl (by simp)) _ | refine Keep.setRow ?_ (Or.inl (by simp)) _)) hk2 (fun _ _ h => h)
  clear hk2 hs2
  go_wp2_with fail
  go_ret
  exact ⟨rfl, hk3⟩

set_option maxRecDepth 100000 in
set_option maxHeartbeats 2000000 in
theorem tleast_s10 (h : Hd) (l : List Nd) (hk : h.k = 10) (hlt : 0 < l.length) (c : Nat) (HI : Hid (tleastSaid c)) (hc : countL l ≤ c) (A : Option Addr) (cap : Nat) (w : World) (hL : LiesL w A 0 l) :
    Calls Try.prog 38 #[.agg (Nd.row (.mk h l) (.slice A l.length cap))] w fun e w' => e = .returned (.int .i64 (often (least l[0]) h.mn)) ∧ Keep Nb w w' := by
  have t1 : (h.k == 1) = false := by rw [hk]; rfl
  have t2 : (h.k == 2) = false := by rw [hk]; rfl
  have t3 : (h.k == 3) = false := by rw [hk]; rfl
  have t6 : (h.k == 6) = false := by rw [hk]; rfl
  have t10 : (h.k == 10) = true := by rw [hk]; rfl
  have t8 : (h.k == 8) = false := by rw [hk]; rfl
  have t9 : (h.k == 9) = false := by rw [hk]; rfl
  clear hk
  have e0 : ((l.length : Int) == 0) = false := beq_eq_false_iff_ne.2 (by omega)
  have p0 : (0 : Int) < (l.length : Int) := by omega
  obtain ⟨b, off, A2, n2, rfl, hten, hS⟩ := hL.at 0 hlt
  rw [Nat.zero_mul, Nat.add_zero] at hten
  obtain ⟨c0, c1, c2, c3, c4, c5, c6, c7, c8, c9, lt⟩ := hten
  have hcx := countL_get_le l 0 hlt
  have hrg := least_range l[0]
  generalize hy : least l[0] = y at *
  have HY := Lib.hid hy; clear hy
  have org := often_range (n := h.mn) hrg.1 hrg.2
  generalize hO : often y h.mn = O at *
  have HO := Lib.hid hO; clear hO
  rw [Nd.row]
  simp only [Nd.h]
  go_enter Try.func38, Try.ntmps38
  go_wp2_with fail
  refine (HI.out l[0] (by omega) _ _ (Lies_keep (by repeat (first | assumption | exact Keep.refl _ _ | refine Keep.alloc ?_ _ | refine Keep.drew ?_ | refine Keep.setCell ?_ (Or.inl (by simp)) _ | refine Keep.setRow ?_ (Or.inl (by simp)) _)) hS)).mono ?_
  rw [HY.out]
  generalize hx : l[0] = x0 at *
  clear hx HY
  rintro e w2 ⟨rfl, hk2⟩
  have hs2 := hk2.size
  have hb0 : w2.cell? ⟨w.heap.size, 0, none⟩ = some (.int .i64 h.k) := hk2.cell (by simp) id
  have hb7 : w2.cell? ⟨w.heap.size, 7, none⟩ = some (.int .i64 h.mn) := hk2.cell (by simp) id
  have hs3 : w.heap.size < w2.heap.size := by simp at hs2; omega
  have hk3 : Keep Nb w w2 := Keep.trans (by repeat (first | assumption | exact Keep.refl _ _ | refine Keep.alloc ?_ _ | refine Keep.drew ?_ | refine Keep.setCell ?_ (Or.inl (by simp)) _ | refine Keep.setRow ?_ (Or.inl (by simp)) _)) hk2 (fun _ _ h => h)
  clear hk2 hs2
  go_wp2_with fail
  refine (often_any y h.mn hrg.1 hrg.2 _).mono ?_
  rw [HO.out]
  rintro e w3 ⟨rfl, rfl⟩
  go_wp2_with fail
  go_ret
  exact ⟨rfl, hk3⟩

set_option maxRecDepth 100000 in
set_option maxHeartbeats 2000000 in
theorem tleast_l8 (h : Hd) (l : List Nd) (hk : h.k = 8) (hlen : l.length ≤ 1000000) (c : Nat) (HI : Hid (tleastSaid c)) (hc : countL l ≤ c) (A : Option Addr) (cap : Nat) (w : World) (hL : LiesL w A 0 l) :
    Calls Try.prog 38 #[.agg (Nd.row (.mk h l) (.slice A l.length cap))] w fun e w' => e = .returned (.int .i64 (leastS l 0)) ∧ Keep Nb w w' := by
  have t1 : (h.k == 1) = false := by rw [hk]; rfl
  have t2 : (h.k == 2) = false := by rw [hk]; rfl
  have t3 : (h.k == 3) = false := by rw [hk]; rfl
  have t6 : (h.k == 6) = false := by rw [hk]; rfl
  have t10 : (h.k == 10) = false := by rw [hk]; rfl
  have t8 : (h.k == 8) = true := by rw [hk]; rfl
  have t9 : (h.k == 9) = false := by rw [hk]; rfl
  clear hk
  generalize hR : leastS l 0 = R
  have HR := Lib.hid hR; clear hR
  rw [Nd.row]
  simp only [Nd.h]
  go_enter Try.func38, Try.ntmps38
  go_wp2_with fail
  go_loopw [4, 41] (fun K i wr => ∃ (j : Nat) (x : Int), j ≤ l.length ∧ i = .int .i64 j ∧ K = .int .i64 x ∧ 0 ≤ x ∧ x ≤ 2147483647 ∧ Hid (leastS (l.drop j) x = R) ∧ wr.cell? ⟨w.heap.size, 9, none⟩ = some (.slice A l.length cap) ∧ w.heap.size < wr.heap.size ∧ Keep Nb w wr) (fun _ i _ => l.length - (intOf i).toNat)
  case atStart => exact ⟨0, 0, by omega, rfl, rfl, by omega, by omega, HR, by simp, by simp, (by repeat (first | assumption | exact Keep.refl _ _ | refine Keep.alloc ?_ _ | refine Keep.drew ?_ | refine Keep.setCell ?_ (Or.inl (by simp)) _ | refine Keep.setRow ?_ (Or.inl (by simp)) _))⟩
  case round =>
    obtain ⟨j, x, hj, rfl, rfl, hx0, hx1, hH, hbox, hsz, hk'⟩ := hrel
    by_cases hlt : j < l.length
    · obtain ⟨b, off, A2, n2, rfl, hten, hS⟩ := hL.at j hlt
      obtain ⟨c0, c1, c2, c3, c4, c5, c6, c7, c8, c9, lt⟩ := hten.keep hk'
      have hcx := countL_get_le l j hlt
      have hrg := least_range l[j]
      unfold mostLeast at hrg
      have HB : Hid (leastS (l.drop (j + 1)) (min mostLeast (x + least l[j])) = R) := by
        have := hH.out
        rw [List.drop_eq_getElem_cons hlt, leastS] at this
        exact this
      clear hH
      go_wp2_with fail
      refine (HI.out l[j] (by omega) _ _ (Lies_keep (hk'.trans (by repeat (first | assumption | exact Keep.refl _ _ | refine Keep.alloc ?_ _ | refine Keep.drew ?_ | refine Keep.setCell ?_ (Or.inl (by simp)) _ | refine Keep.setRow ?_ (Or.inl (by simp)) _)) (fun _ _ h => h)) hS)).mono ?_
      generalize hy : least l[j] = y at *
      clear hy
      rintro e w2 ⟨rfl, hk2⟩
      have hk3 : Keep Nb wr w2 := Keep.trans (by repeat (first | assumption | exact Keep.refl _ _ | refine Keep.alloc ?_ _ | refine Keep.drew ?_ | refine Keep.setCell ?_ (Or.inl (by simp)) _ | refine Keep.setRow ?_ (Or.inl (by simp)) _)) hk2 (fun _ _ h => h)
      clear hk2
      go_wp2_with fail
      all_goals
        go_roundw
        case rel => exact ⟨j + 1, min 2147483647 (x + y), by omega, by go_num, by first | rfl | go_num | (congr 1; omega), by omega, by omega, HB, hk3.cell hbox id, by have := hk3.size; omega, hk'.trans hk3 (fun _ _ h => h)⟩
        case measure => simp [intOf]; omega
    · obtain rfl : j = l.length := by omega
      have hF := hH.out
      rw [List.drop_length, leastS] at hF
      subst hF
      go_wp2_with fail
      go_ret
      exact ⟨rfl, hk'⟩

set_option maxRecDepth 100000 in
set_option maxHeartbeats 2000000 in
theorem tleast_l9 (h : Hd) (l : List Nd) (hk : h.k = 9) (hlen : l.length ≤ 1000000) (hlt0 : 0 < l.length) (c : Nat) (HI : Hid (tleastSaid c)) (hc : countL l ≤ c) (A : Option Addr) (cap : Nat) (w : World) (hL : LiesL w A 0 l) :
    Calls Try.prog 38 #[.agg (Nd.row (.mk h l) (.slice A l.length cap))] w fun e w' => e = .returned (.int .i64 (leastA l mostLeast)) ∧ Keep Nb w w' := by
  have t1 : (h.k == 1) = false := by rw [hk]; rfl
  have t2 : (h.k == 2) = false := by rw [hk]; rfl
  have t3 : (h.k == 3) = false := by rw [hk]; rfl
  have t6 : (h.k == 6) = false := by rw [hk]; rfl
  have t10 : (h.k == 10) = false := by rw [hk]; rfl
  have t8 : (h.k == 8) = false := by rw [hk]; rfl
  have t9 : (h.k == 9) = true := by rw [hk]; rfl
  clear hk
  have e0 : ((l.length : Int) == 0) = false := beq_eq_false_iff_ne.2 (by omega)
  generalize hR : leastA l mostLeast = R
  have HR := Lib.hid hR; clear hR
  rw [Nd.row]
  simp only [Nd.h]
  go_enter Try.func38, Try.ntmps38
  go_wp2_with fail
  go_loopw [7, 61] (fun K i wr => ∃ (j : Nat) (x : Int), j ≤ l.length ∧ i = .int .i64 j ∧ K = .int .i64 x ∧ 0 ≤ x ∧ x ≤ 2147483647 ∧ Hid (leastA (l.drop j) x = R) ∧ wr.cell? ⟨w.heap.size, 9, none⟩ = some (.slice A l.length cap) ∧ w.heap.size < wr.heap.size ∧ Keep Nb w wr) (fun _ i _ => l.length - (intOf i).toNat)
  case atStart => exact ⟨0, 2147483647, by omega, rfl, rfl, by omega, by omega, HR, by simp, by simp, (by repeat (first | assumption | exact Keep.refl _ _ | refine Keep.alloc ?_ _ | refine Keep.drew ?_ | refine Keep.setCell ?_ (Or.inl (by simp)) _ | refine Keep.setRow ?_ (Or.inl (by simp)) _))⟩
  case round =>
    obtain ⟨j, x, hj, rfl, rfl, hx0, hx1, hH, hbox, hsz, hk'⟩ := hrel
    by_cases hlt : j < l.length
    · obtain ⟨b, off, A2, n2, rfl, hten, hS⟩ := hL.at j hlt
      obtain ⟨c0, c1, c2, c3, c4, c5, c6, c7, c8, c9, lt⟩ := hten.keep hk'
      have hcx := countL_get_le l j hlt
      have hrg := least_range l[j]
      unfold mostLeast at hrg
      have HB : Hid (leastA (l.drop (j + 1)) (min x (least l[j])) = R) := by
        have := hH.out
        rw [List.drop_eq_getElem_cons hlt, leastA] at this
        exact this
      clear hH
      go_wp2_with fail
      refine (HI.out l[j] (by omega) _ _ (Lies_keep (hk'.trans (by repeat (first | assumption | exact Keep.refl _ _ | refine Keep.alloc ?_ _ | refine Keep.drew ?_ | refine Keep.setCell ?_ (Or.inl (by simp)) _ | refine Keep.setRow ?_ (Or.inl (by simp)) _)) (fun _ _ h => h)) hS)).mono ?_
      generalize hy : least l[j] = y at *
      clear hy
      rintro e w2 ⟨rfl, hk2⟩
      have hk3 : Keep Nb wr w2 := Keep.trans (by repeat (first | assumption | exact Keep.refl _ _ | refine Keep.alloc ?_ _ | refine Keep.drew ?_ | refine Keep.setCell ?_ (Or.inl (by simp)) _ | refine Keep.setRow ?_ (Or.inl (by simp)) _)) hk2 (fun _ _ h => h)
      clear hk2
      go_wp2_with fail
      all_goals
        go_roundw
        case rel => exact ⟨j + 1, min x y, by omega, by go_num, by first | rfl | go_num | (congr 1; omega), by omega, by omega, HB, hk3.cell hbox id, by have := hk3.size; omega, hk'.trans hk3 (fun _ _ h => h)⟩
        case measure => simp [intOf]; omega
    · obtain rfl : j = l.length := by omega
      have hF := hH.out
      rw [List.drop_length, leastA] at hF
      subst hF
      go_wp2_with fail
      go_ret
      exact ⟨rfl, hk'⟩

theorem tleast_any : ∀ (c : Nat) (_ : c ≤ 1000000), tleastSaid c
  | 0, _ => fun T h => by have := count_pos T; omega
  | c + 1, hcc => fun T hT v w hl => by
    have HI := Lib.hid (tleast_any c (by omega))
    cases T with
    | mk h l =>
    rw [Lies_mk] at hl
    obtain ⟨A, cap, rfl, hlc, hcap, hL⟩ := hl
    rw [count] at hT
    have hlen := countL_len l
    rw [least]
    by_cases k1 : h.k = 1
    · simpa [k1] using tleast_k1 h l k1 A cap w
    by_cases k2 : h.k = 2
    · simpa [k2] using tleast_k2 h l k2 A cap w
    by_cases k3 : h.k = 3
    · simpa [k3] using tleast_k3 h l k3 A cap w
    rw [if_neg (by omega)]
    by_cases k6 : h.k = 6
    · rw [if_pos (by omega), if_neg (by omega)]
      cases l with
      | nil => exact tleast_n6 h [] k6 rfl A cap w
      | cons x r => exact tleast_s6 h (x :: r) k6 (by simp) c HI (by omega) A cap w hL
    by_cases k10 : h.k = 10
    · rw [if_pos (by omega), if_pos k10]
      cases l with
      | nil => simpa [leastF, often] using tleast_n10 h [] k10 rfl A cap w
      | cons x r => exact tleast_s10 h (x :: r) k10 (by simp) c HI (by omega) A cap w hL
    rw [if_neg (by omega)]
    by_cases k8 : h.k = 8
    · rw [if_pos k8]
      exact tleast_l8 h l k8 (by omega) c HI (by omega) A cap w hL
    rw [if_neg k8]
    by_cases k9 : h.k = 9
    · rw [if_pos k9]
      by_cases l0 : l.length = 0
      · rw [if_pos l0]
        exact tleast_n9 h l k9 l0 A cap w
      · rw [if_neg l0]
        exact tleast_l9 h l k9 (by omega) (by omega) c HI (by omega) A cap w hL
    rw [if_neg k9]
    exact tleast_z h l k1 k2 k3 k6 k10 k8 k9 A cap w

end Go.Proofs.Ytkidjbfapldmbaa
