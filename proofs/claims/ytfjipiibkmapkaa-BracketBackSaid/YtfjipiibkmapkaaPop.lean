/- The bits of a word, as the program's OnesCount64 counts them, and one by one. -/
import Derived.Test.YtfjipiibkmapkaaEqS
import Derived.Laws.Bits64b
namespace Go.Proofs.Ytfjipiibkmapkaa
set_option linter.unusedVariables false
set_option linter.unusedSimpArgs false
open Go.RowKit

def bs : Nat → Nat → Nat
  | 0, _ => 0
  | n + 1, x => bs n x + x / 2 ^ n % 2
def vb : List Nat → Nat
  | [] => 0
  | y :: r => y + 256 * vb r

theorem bs_split (a : Nat) : ∀ (b x : Nat), bs (a + b) x = bs a x + bs b (x / 2 ^ a)
  | 0, x => by simp [bs]
  | b + 1, x => by
    show bs (a + b) x + x / 2 ^ (a + b) % 2 = _
    rw [bs_split a b x, bs, Nat.div_div_eq_div_mul, ← Nat.pow_add]
    omega
theorem bs8 (y z : Nat) : bs 8 (y + 256 * z) = bs 8 y := by
  simp only [bs]
  omega
theorem bs_vb : ∀ (l : List Nat), (∀ y ∈ l, y < 256) → bs (8 * l.length) (vb l) = (l.map (bs 8)).sum
  | [], _ => rfl
  | y :: r, h => by
    have hy := h y (by simp)
    rw [show 8 * (y :: r).length = 8 + 8 * r.length by simp; omega, bs_split 8, vb, bs8, show (y + 256 * vb r) / 2 ^ 8 = vb r by omega, bs_vb r (fun z hz => h z (by simp [hz]))]
    simp

theorem and_split (a b : Nat) : a &&& b = (a % 256 &&& b % 256) + 256 * (a / 256 &&& b / 256) := by
  have h1 : (a &&& b) % 2 ^ 8 = (a % 2 ^ 8) &&& (b % 2 ^ 8) := Nat.and_mod_two_pow
  have h2 : (a &&& b) / 2 ^ 8 = (a / 2 ^ 8) &&& (b / 2 ^ 8) := Nat.and_div_two_pow
  have := Nat.mod_add_div (a &&& b) 256
  rw [show (2 : Nat) ^ 8 = 256 from rfl] at h1 h2
  rw [← h1, ← h2]
  omega
def mk (m : Nat) : Nat → Nat
  | 0 => 0
  | n + 1 => m + 256 * mk m n

def p1 (y : Nat) : Nat := (y / 2 &&& 85) + (y &&& 85)
def p2 (y : Nat) : Nat := (y / 4 &&& 51) + (y &&& 51)
def p3 (y : Nat) : Nat := (y / 16 + y) &&& 15

theorem t1 : ∀ y < 256, ∀ b < 2, (y / 2 + 128 * b) &&& 85 = y / 2 &&& 85 := by decide +kernel
theorem t2 : ∀ y < 256, ∀ b < 4, (y / 4 + 64 * b) &&& 51 = y / 4 &&& 51 := by decide +kernel
theorem t3 : ∀ y < 69, ∀ b < 5, (y / 16 + 16 * b + y) &&& 15 = (y / 16 + y) &&& 15 := by decide +kernel
theorem p1_lt : ∀ y < 256, p1 y < 256 := by decide +kernel
theorem p2_lt : ∀ y < 256, p2 (p1 y) < 69 ∧ p2 (p1 y) % 16 < 5 := by decide +kernel
theorem p3_eq : ∀ y < 256, p3 (p2 (p1 y)) = bs 8 y := by decide +kernel
theorem bs8_le : ∀ y < 256, bs 8 y ≤ 8 := by decide +kernel

theorem s1 : ∀ (l : List Nat), (∀ y ∈ l, y < 256) → (vb l / 2 &&& mk 85 l.length) + (vb l &&& mk 85 l.length) = vb (l.map p1)
  | [], _ => rfl
  | y :: r, h => by
    have hy := h y (by simp)
    have ih := s1 r (fun z hz => h z (by simp [hz]))
    have e := t1 y hy (vb r % 2) (by omega)
    show ((y + 256 * vb r) / 2 &&& (85 + 256 * mk 85 r.length)) + ((y + 256 * vb r) &&& (85 + 256 * mk 85 r.length)) = p1 y + 256 * vb (r.map p1)
    rw [and_split ((y + 256 * vb r) / 2), and_split (y + 256 * vb r), show (y + 256 * vb r) / 2 % 256 = y / 2 + 128 * (vb r % 2) by omega, show (y + 256 * vb r) / 2 / 256 = vb r / 2 by omega,
      show (85 + 256 * mk 85 r.length) % 256 = 85 by omega, show (85 + 256 * mk 85 r.length) / 256 = mk 85 r.length by omega, show (y + 256 * vb r) % 256 = y by omega, show (y + 256 * vb r) / 256 = vb r by omega, e, ← ih, p1]
    omega
theorem s2 : ∀ (l : List Nat), (∀ y ∈ l, y < 256) → (vb l / 4 &&& mk 51 l.length) + (vb l &&& mk 51 l.length) = vb (l.map p2)
  | [], _ => rfl
  | y :: r, h => by
    have hy := h y (by simp)
    have ih := s2 r (fun z hz => h z (by simp [hz]))
    have e := t2 y hy (vb r % 4) (by omega)
    show ((y + 256 * vb r) / 4 &&& (51 + 256 * mk 51 r.length)) + ((y + 256 * vb r) &&& (51 + 256 * mk 51 r.length)) = p2 y + 256 * vb (r.map p2)
    rw [and_split ((y + 256 * vb r) / 4), and_split (y + 256 * vb r), show (y + 256 * vb r) / 4 % 256 = y / 4 + 64 * (vb r % 4) by omega, show (y + 256 * vb r) / 4 / 256 = vb r / 4 by omega,
      show (51 + 256 * mk 51 r.length) % 256 = 51 by omega, show (51 + 256 * mk 51 r.length) / 256 = mk 51 r.length by omega, show (y + 256 * vb r) % 256 = y by omega, show (y + 256 * vb r) / 256 = vb r by omega, e, ← ih, p2]
    omega
theorem vb_low : ∀ (l : List Nat), (∀ y ∈ l, y < 69 ∧ y % 16 < 5) → vb l % 16 < 5
  | [], _ => by decide
  | y :: r, h => by
    have hy := h y (by simp)
    show (y + 256 * vb r) % 16 < 5
    omega
theorem s3 : ∀ (l : List Nat), (∀ y ∈ l, y < 69 ∧ y % 16 < 5) → (vb l / 16 + vb l) &&& mk 15 l.length = vb (l.map p3)
  | [], _ => rfl
  | y :: r, h => by
    have hy := h y (by simp)
    have ih := s3 r (fun z hz => h z (by simp [hz]))
    have hr := vb_low r (fun z hz => h z (by simp [hz]))
    have e := t3 y hy.1 (vb r % 16) hr
    show ((y + 256 * vb r) / 16 + (y + 256 * vb r)) &&& (15 + 256 * mk 15 r.length) = p3 y + 256 * vb (r.map p3)
    rw [and_split, show ((y + 256 * vb r) / 16 + (y + 256 * vb r)) % 256 = y / 16 + 16 * (vb r % 16) + y by omega, show ((y + 256 * vb r) / 16 + (y + 256 * vb r)) / 256 = vb r / 16 + vb r by omega,
      show (15 + 256 * mk 15 r.length) % 256 = 15 by omega, show (15 + 256 * mk 15 r.length) / 256 = mk 15 r.length by omega, e, ← ih, p3]

def by8 (x : Nat) : List Nat := [x % 256, x / 256 % 256, x / 65536 % 256, x / 16777216 % 256, x / 4294967296 % 256, x / 1099511627776 % 256, x / 281474976710656 % 256, x / 72057594037927936 % 256]
theorem vb_by8 (x : Nat) (h : x < 18446744073709551616) : vb (by8 x) = x := by
  simp only [by8, vb]
  omega
theorem by8_lt (x : Nat) : ∀ y ∈ by8 x, y < 256 := by
  intro y hy
  simp only [by8, List.mem_cons, List.not_mem_nil, or_false] at hy
  omega
theorem vb_lt : ∀ (l : List Nat), (∀ y ∈ l, y < 256) → vb l < 256 ^ l.length
  | [], _ => by decide
  | y :: r, h => by
    have hy := h y (by simp)
    have ih := vb_lt r (fun z hz => h z (by simp [hz]))
    show y + 256 * vb r < 256 ^ (r.length + 1)
    rw [Nat.pow_succ]
    omega

theorem and_i64_127 (a : Nat) (h : a < 9223372036854775808) : bits .and .i64 (wrap64 (a : Int)) 127 = ((a % 128 : Nat) : Int) := by
  have hw : wrap64 (a : Int) = (a : Int) := by unfold wrap64; omega
  rw [hw]
  have h1 : (BitVec.ofInt 64 (a : Int)).toNat = a := by
    rw [BitVec.ofInt_natCast, BitVec.toNat_ofNat]; exact Nat.mod_eq_of_lt (by omega)
  have h2 : (BitVec.ofInt 64 (127 : Int)).toNat = 127 := by decide
  show IntKind.i64.wrap ((BitVec.ofInt 64 (a : Int) &&& BitVec.ofInt 64 (127 : Int)).toNat : Int) = _
  rw [BitVec.toNat_and, h1, h2, IntKind.wrap_i64, show a &&& 127 = a % 128 from Nat.and_two_pow_sub_one_eq_mod a 7]
  omega

theorem list8 {l : List Nat} (h : l.length = 8) : ∃ a b c d e f g k, l = [a, b, c, d, e, f, g, k] := by
  match l, h with
  | [a, b, c, d, e, f, g, k], _ => exact ⟨a, b, c, d, e, f, g, k, rfl⟩

theorem vdiv1 (a : Nat) (r : List Nat) (h : a < 256) : vb (a :: r) / 256 = vb r := by
  show (a + 256 * vb r) / 256 = _
  omega
theorem vdiv2 (a b : Nat) (r : List Nat) (h : a < 256) (h2 : b < 256) : vb (a :: b :: r) / 65536 = vb r := by
  show (a + 256 * (b + 256 * vb r)) / 65536 = _
  omega
theorem vdiv4 (a b c d : Nat) (r : List Nat) (h : a < 256 ∧ b < 256 ∧ c < 256 ∧ d < 256) : vb (a :: b :: c :: d :: r) / 4294967296 = vb r := by
  rw [show 4294967296 = 65536 * 65536 from rfl, ← Nat.div_div_eq_div_mul, vdiv2 _ _ _ h.1 h.2.1, vdiv2 _ _ _ h.2.2.1 h.2.2.2]
theorem wrap_add (x y : Nat) (h : x + y < 18446744073709551616) : IntKind.u64.wrap ((x : Int) + (y : Int)) = ((x + y : Nat) : Int) := by
  rw [IntKind.wrap_u64]; omega

/-- the sum of eight small bytes, as the program takes it -/
theorem pa_sum (a b c d e f g k : Nat) (h : a ≤ 8 ∧ b ≤ 8 ∧ c ≤ 8 ∧ d ≤ 8 ∧ e ≤ 8 ∧ f ≤ 8 ∧ g ≤ 8 ∧ k ≤ 8) :
    bits .and .i64 (wrap64 (pa6 (pa5 (pa4 ((vb [a, b, c, d, e, f, g, k] : Nat) : Int))))) 127 = ((a + b + c + d + e + f + g + k : Nat) : Int) := by
  obtain ⟨h0, h1, h2, h3, h4, h5, h6, h7⟩ := h
  have e4 : pa4 ((vb [a, b, c, d, e, f, g, k] : Nat) : Int) = ((vb [a + b, b + c, c + d, d + e, e + f, f + g, g + k, k] : Nat) : Int) := by
    unfold pa4
    rw [IntKind.wrap_u64]
    simp only [vb]
    omega
  have e5 : pa5 ((vb [a + b, b + c, c + d, d + e, e + f, f + g, g + k, k] : Nat) : Int) = ((vb [a + b + (c + d), b + c + (d + e), c + d + (e + f), d + e + (f + g), e + f + (g + k), f + g + k, g + k, k] : Nat) : Int) := by
    unfold pa5
    rw [show ((vb [a + b, b + c, c + d, d + e, e + f, f + g, g + k, k] : Nat) : Int) / 65536 = ((vb [a + b, b + c, c + d, d + e, e + f, f + g, g + k, k] / 65536 : Nat) : Int) from rfl, vdiv2 _ _ _ (by omega) (by omega), wrap_add _ _ (by simp only [vb]; omega)]
    simp only [vb]
    omega
  have e6 : pa6 ((vb [a + b + (c + d), b + c + (d + e), c + d + (e + f), d + e + (f + g), e + f + (g + k), f + g + k, g + k, k] : Nat) : Int) = ((vb [a + b + (c + d) + (e + f + (g + k)), b + c + (d + e) + (f + g + k), c + d + (e + f) + (g + k), d + e + (f + g) + k, e + f + (g + k), f + g + k, g + k, k] : Nat) : Int) := by
    unfold pa6
    rw [show ((vb [a + b + (c + d), b + c + (d + e), c + d + (e + f), d + e + (f + g), e + f + (g + k), f + g + k, g + k, k] : Nat) : Int) / 4294967296 = ((vb [a + b + (c + d), b + c + (d + e), c + d + (e + f), d + e + (f + g), e + f + (g + k), f + g + k, g + k, k] / 4294967296 : Nat) : Int) from rfl, vdiv4 _ _ _ _ _ (by omega), wrap_add _ _ (by simp only [vb]; omega)]
    simp only [vb]
    omega
  rw [e4, e5, e6]
  rw [and_i64_127 _ (by simp only [vb]; omega)]
  simp only [vb]
  omega

theorem popG_eq (x : Nat) (h : x < 18446744073709551616) : popG (x : Int) = ((bs 64 x : Nat) : Int) := by
  obtain ⟨l, hl⟩ : ∃ l, l = by8 x := ⟨_, rfl⟩
  have hlen : l.length = 8 := by rw [hl]; rfl
  have hlt : ∀ y ∈ l, y < 256 := by rw [hl]; exact by8_lt x
  have hx : vb l = x := by rw [hl]; exact vb_by8 x h
  have k85 : mk 85 l.length = 6148914691236517205 := by rw [hlen]; rfl
  have k51 : mk 51 l.length = 3689348814741910323 := by rw [hlen]; rfl
  have k15 : mk 15 l.length = 1085102592571150095 := by rw [hlen]; rfl
  have q1 := s1 l hlt
  have l1 : ∀ y ∈ l.map p1, y < 256 := by
    intro y hy; obtain ⟨z, hz, rfl⟩ := List.mem_map.1 hy; exact p1_lt z (hlt z hz)
  have q2 := s2 (l.map p1) l1
  rw [List.length_map, List.map_map] at q2
  have l2 : ∀ y ∈ l.map (p2 ∘ p1), y < 69 ∧ y % 16 < 5 := by
    intro y hy; obtain ⟨z, hz, rfl⟩ := List.mem_map.1 hy; exact p2_lt z (hlt z hz)
  have q3 := s3 (l.map (p2 ∘ p1)) l2
  rw [List.length_map, List.map_map] at q3
  rw [k85] at q1
  rw [k51] at q2
  rw [k15] at q3
  have v1 := vb_lt (l.map p1) l1
  have v2 := vb_lt (l.map (p2 ∘ p1)) (fun y hy => by have := l2 y hy; omega)
  have v3 : ∀ (m : List Nat), (∀ y ∈ m, y < 69) → m.length = 8 → vb m < 5000000000000000000 := by
    intro m hm h8
    obtain ⟨a, b, c, d, e, f, g, k, rfl⟩ := list8 h8
    simp only [List.mem_cons, List.not_mem_nil, or_false, forall_eq_or_imp, forall_eq] at hm
    simp only [vb]
    omega
  have v4 := v3 (l.map (p2 ∘ p1)) (fun y hy => (l2 y hy).1) (by rw [List.length_map, hlen])
  rw [List.length_map, hlen] at v1 v2
  have e1 : pa1 (x : Int) = ((vb (l.map p1) : Nat) : Int) := by
    unfold pa1
    rw [show (x : Int) / 2 = ((x / 2 : Nat) : Int) from rfl, show (6148914691236517205 : Int) = ((6148914691236517205 : Nat) : Int) from rfl, bits_and_u64_nat _ _ (by omega) (by omega), bits_and_u64_nat _ _ (by omega) (by omega), IntKind.wrap_u64, ← q1, hx]
    rw [hx] at q1
    omega
  have e2 : pa2 ((vb (l.map p1) : Nat) : Int) = ((vb (l.map (p2 ∘ p1)) : Nat) : Int) := by
    unfold pa2
    rw [show ((vb (l.map p1) : Nat) : Int) / 4 = ((vb (l.map p1) / 4 : Nat) : Int) from rfl, show (3689348814741910323 : Int) = ((3689348814741910323 : Nat) : Int) from rfl, bits_and_u64_nat _ _ (by omega) (by omega), bits_and_u64_nat _ _ (by omega) (by omega), IntKind.wrap_u64, ← q2]
    omega
  have e3 : pa3 ((vb (l.map (p2 ∘ p1)) : Nat) : Int) = ((vb (l.map (p3 ∘ p2 ∘ p1)) : Nat) : Int) := by
    unfold pa3
    rw [show IntKind.u64.wrap (((vb (l.map (p2 ∘ p1)) : Nat) : Int) / 16 + ((vb (l.map (p2 ∘ p1)) : Nat) : Int)) = ((vb (l.map (p2 ∘ p1)) / 16 + vb (l.map (p2 ∘ p1)) : Nat) : Int) by rw [IntKind.wrap_u64]; omega,
      show (1085102592571150095 : Int) = ((1085102592571150095 : Nat) : Int) from rfl, bits_and_u64_nat _ _ (by omega) (by omega), q3]
  have em : l.map (p3 ∘ p2 ∘ p1) = l.map (bs 8) := List.map_congr_left fun y hy => p3_eq y (hlt y hy)
  have hb := bs_vb l hlt
  rw [hlen, hx] at hb
  rw [show popG (x : Int) = bits .and .i64 (wrap64 (pa6 (pa5 (pa4 (pa3 (pa2 (pa1 (x : Int)))))))) 127 from rfl, e1, e2, e3, em]
  have h8 : ∀ y ∈ l, bs 8 y ≤ 8 := fun y hy => bs8_le y (hlt y hy)
  obtain ⟨a, b, c, d, e, f, g, k, rfl⟩ := list8 hlen
  simp only [List.mem_cons, List.not_mem_nil, or_false, forall_eq_or_imp, forall_eq] at h8
  simp only [List.map_cons, List.map_nil]
  rw [pa_sum _ _ _ _ _ _ _ _ h8, show bs 64 x = bs (8 * 8) x from rfl, hb]
  simp only [List.map_cons, List.map_nil, List.sum_cons, List.sum_nil]
  omega

/-! The whole set -/
def cntF (f : Nat → Int) : Nat → Nat
  | 0 => 0
  | c + 1 => cntF f c + if hasF f c then 1 else 0

theorem hasF_bit (f : Nat → Int) (q i : Nat) (hi : i < 64) (x : Nat) (h : x < 18446744073709551616) (hx : f q = (x : Int)) : (if hasF f (64 * q + i) then 1 else 0) = x / 2 ^ i % 2 := by
  unfold hasF
  rw [show (64 * q + i) / 64 = q by omega, show (64 * q + i) % 64 = i by omega, hx, show (x : Int) / 2 ^ i = ((x / 2 ^ i : Nat) : Int) by simp,
    show (1 : Int) = ((1 : Nat) : Int) from rfl, bits_and_u64_nat _ _ (by have := Nat.div_le_self x (2 ^ i); omega) (by omega), Nat.and_one_is_mod]
  rcases Nat.mod_two_eq_zero_or_one (x / 2 ^ i) with e | e <;> rw [e] <;> rfl
theorem cntF_word (f : Nat → Int) (q : Nat) (x : Nat) (h : x < 18446744073709551616) (hx : f q = (x : Int)) : ∀ i, i ≤ 64 → cntF f (64 * q + i) = cntF f (64 * q) + bs i x
  | 0, _ => by simp [bs]
  | i + 1, hi => by
    show cntF f (64 * q + i) + (if hasF f (64 * q + i) then 1 else 0) = _
    rw [cntF_word f q x h hx i (by omega), bs, hasF_bit f q i (by omega) x h hx]
    omega
theorem bs_le : ∀ n x, bs n x ≤ n
  | 0, _ => Nat.le_refl _
  | n + 1, x => by have := bs_le n x; show bs n x + x / 2 ^ n % 2 ≤ n + 1; omega
theorem cntF_le (f : Nat → Int) : ∀ n, cntF f n ≤ n
  | 0 => Nat.le_refl _
  | n + 1 => by have := cntF_le f n; show cntF f n + (if hasF f n then 1 else 0) ≤ n + 1; split <;> omega

theorem lenN_eq (f : Nat → Int) (hf : ∀ i, i < 4 → 0 ≤ f i ∧ f i < 18446744073709551616) : ∀ j, j ≤ 4 → lenN f j = (cntF f (64 * j) : Int)
  | 0, _ => rfl
  | j + 1, hj => by
    obtain ⟨h0, h1⟩ := hf j (by omega)
    have e : f j = ((f j).toNat : Int) := by omega
    have ih := lenN_eq f hf j (by omega)
    have hw := cntF_word f j (f j).toNat (by omega) e 64 (by omega)
    have hb := bs_le 64 (f j).toNat
    have hc := cntF_le f (64 * j)
    rw [show 64 * (j + 1) = 64 * j + 64 by omega, hw]
    show wrap64 (lenN f j + popG (f j)) = _
    rw [ih, e, popG_eq _ (by omega), show ((((f j).toNat : Nat) : Int)).toNat = (f j).toNat by omega]
    unfold wrap64
    omega

end Go.Proofs.Ytfjipiibkmapkaa
