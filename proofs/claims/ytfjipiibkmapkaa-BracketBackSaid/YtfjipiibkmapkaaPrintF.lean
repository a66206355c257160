/- A set is printed, and read back as it was: the plain law. -/
import Derived.Test.YtfjipiibkmapkaaBits
import Derived.Test.YtfjipiibkmapkaaLawNot
namespace Go.Proofs.Ytfjipiibkmapkaa
set_option linter.unusedVariables false
set_option linter.unusedSimpArgs false
open Go.RowKit

/-- A byte as it stands for itself between others. -/
def wr (x : UInt8) : List UInt8 := if x = 10 then [92, 110] else if x = 91 ∨ x = 93 ∨ x = 45 ∨ x = 94 ∨ x = 92 then [91, 46, x, 46, 93] else [x]
abbrev wn (c : Nat) : List UInt8 := wr (UInt8.ofNat c)
def endR (m : Nat → Bool) : Nat → Nat → Nat
  | 0, c => c
  | k + 1, c => if c < 255 ∧ m (c + 1) = true then endR m k (c + 1) else c
def runT (a b : Nat) : List UInt8 := wn a ++ (if b = a then [] else if b = a + 1 then wn b else 45 :: wn b)
def runsN (m : Nat → Bool) : Nat → Nat → List UInt8
  | 0, _ => []
  | k + 1, c => if c < 256 then (if m c = true then runT c (endR m 256 c) ++ runsN m k (endR m 256 c + 1) else runsN m k (c + 1)) else []
def printF (f : Nat → Int) : List UInt8 := if cntF f 256 = 0 then 91 :: 94 :: (runsN (hasF (notF f)) 256 0 ++ [93]) else 91 :: (runsN (hasF f) 256 0 ++ [93])

theorem preB_cons (t x : UInt8) (ts l : List UInt8) : preB (t :: ts) (x :: l) = (decide (x = t) && preB ts l) := by
  unfold preB
  rw [List.length_cons, List.take_succ_cons, List.cons_beq_cons]
  rfl
theorem preB_nil (l : List UInt8) : preB [] l = true := by unfold preB; simp
theorem preB_cons_nil (t : UInt8) (ts : List UInt8) : preB (t :: ts) [] = false := by unfold preB; simp

theorem wr_ne (x : UInt8) : wr x ≠ [] := by unfold wr; split; simp; split <;> simp
theorem wr_pre (x : UInt8) (T : List UInt8) : preB [93] (wr x ++ T) = false ∧ preB [45] (wr x ++ T) = false ∧ preB [94] (wr x ++ T) = false ∧ preB [91, 58] (wr x ++ T) = false ∧ preB [91, 61] (wr x ++ T) = false := by
  unfold wr
  split
  · simp [preB_cons]
  · split
    · simp [preB_cons]
    · rename_i h
      simp only [not_or] at h
      simp [preB_cons, h]
theorem wr_single (x : UInt8) (T : List UInt8) : singleF (wr x ++ T) = some (x, (wr x).length) := by
  unfold wr
  split
  · rename_i h
    subst h
    simp [singleF, preB_cons, preB_nil]
  · rename_i h10
    split
    · rename_i h
      simp [singleF, preB_cons, preB_nil, namedF, h10]
    · rename_i h
      simp only [not_or] at h
      simp [singleF, preB_cons, h10, h]
theorem wr_sign (x : UInt8) (T : List UInt8) : signF (wr x ++ T) = some (x, (wr x).length) := by
  have h := wr_pre x T
  rw [signF, if_neg (by rw [h.2.2.2.1, h.2.2.2.2]; simp), wr_single]
theorem member_one (x : UInt8) (T : List UInt8) (h : preB [45] T = false) : memberF (wr x ++ T) = some (withF zeroF x.toNat x.toNat, (wr x).length) := by
  have hp := wr_pre x T
  rw [memberF, if_neg (by rw [hp.2.2.2.1]; simp), if_neg (by rw [hp.2.2.2.2]; simp), wr_single]
  simp only []
  rw [rangeF, List.drop_left, if_neg (by rw [h]; simp)]
theorem member_two (x y : UInt8) (T : List UInt8) (h : x.toNat ≤ y.toNat) : memberF (wr x ++ (45 :: (wr y ++ T))) = some (withF zeroF x.toNat y.toNat, (wr x).length + 1 + (wr y).length) := by
  have hp := wr_pre x (45 :: (wr y ++ T))
  have hq := wr_pre y T
  have hl : (wr y).length ≠ 0 := fun e => wr_ne y (List.length_eq_zero_iff.1 e)
  rw [memberF, if_neg (by rw [hp.2.2.2.1]; simp), if_neg (by rw [hp.2.2.2.2]; simp), wr_single]
  simp only []
  have h1 : preB [45, 93] (45 :: (wr y ++ T)) = false := by rw [preB_cons, hq.1]; simp
  have h2 : preB [45] (45 :: (wr y ++ T)) = true := by rw [preB_cons, preB_nil]; simp
  have hd : (wr x ++ (45 :: (wr y ++ T))).drop ((wr x).length + 1) = wr y ++ T := by
    rw [← List.drop_drop, List.drop_left]; rfl
  rw [rangeF, List.drop_left, hd, if_pos ⟨h2, h1, by simp only [List.length_append, List.length_cons]; omega⟩, wr_sign]
  simp only []
  rw [if_neg]
  rintro (h3 | ⟨h3, _⟩)
  · omega
  · rw [hq.2.1] at h3; cases h3

theorem endR_spec (m : Nat → Bool) : ∀ (k c : Nat), c < 256 → 255 - c ≤ k → m c = true → c ≤ endR m k c ∧ endR m k c < 256 ∧ (∀ x, c ≤ x → x ≤ endR m k c → m x = true)
  | 0, c, h, hk, hm => ⟨Nat.le_refl _, h, fun x h1 h2 => by rw [show x = c from Nat.le_antisymm h2 h1]; exact hm⟩
  | k + 1, c, h, hk, hm => by
    rw [endR]
    split
    · rename_i hh
      obtain ⟨g1, g2, g3⟩ := endR_spec m k (c + 1) (by omega) (by omega) hh.2
      refine ⟨by omega, g2, fun x h1 h2 => ?_⟩
      rcases Nat.lt_or_ge c x with h3 | h3
      · exact g3 x (by omega) h2
      · rw [show x = c from by omega]; exact hm
    · exact ⟨Nat.le_refl _, h, fun x h1 h2 => by rw [show x = c from Nat.le_antisymm h2 h1]; exact hm⟩
theorem runs_pre (m : Nat → Bool) (T : List UInt8) : ∀ (k c : Nat), preB [45] (runsN m k c ++ 93 :: T) = false ∧ preB [94] (runsN m k c ++ 93 :: T) = false
  | 0, _ => by simp [runsN, preB_cons]
  | k + 1, c => by
    rw [runsN]
    split
    · split
      · rw [runT, List.append_assoc, List.append_assoc]
        have := wr_pre (UInt8.ofNat c) ((if endR m 256 c = c then [] else if endR m 256 c = c + 1 then wn (endR m 256 c) else 45 :: wn (endR m 256 c)) ++ (runsN m k (endR m 256 c + 1) ++ 93 :: T))
        exact ⟨this.2.1, this.2.2.1⟩
      · exact runs_pre m T k (c + 1)
    · simp [preB_cons]

theorem loop_one {fu : Nat} {b : Bool} {acc : Nat → Int} {l T : List UInt8} {n : Nat} {t : Nat → Int} (h : preB [93] (l ++ T) = false) (hm : memberF (l ++ T) = some (t, l.length)) : loopF (fu + 1) b acc (l ++ T) n = loopF fu false (orF acc t) T (n + l.length) := by
  rw [loopF_some (.inr h) hm, List.drop_left]

theorem nat8 {c : Nat} (h : c < 256) : (UInt8.ofNat c).toNat = c := UInt8.toNat_ofNat_of_lt' (by have : UInt8.size = 256 := rfl; omega)

theorem loop_runs (m : Nat → Bool) (T : List UInt8) : ∀ (k c fu : Nat) (b : Bool) (acc : Nat → Int) (n : Nat), c ≤ 256 → 256 - c ≤ k → inU acc → (b = true → ∃ x, c ≤ x ∧ x < 256 ∧ m x = true) → (runsN m k c).length < fu →
    ∃ R, loopF fu b acc (runsN m k c ++ 93 :: T) n = some (R, n + (runsN m k c).length + 1) ∧ inU R ∧ ∀ x, x < 256 → hasF R x = (hasF acc x || (decide (c ≤ x) && m x))
  | k, c, 0, b, acc, n, _, _, _, _, hf => by omega
  | 0, c, fu + 1, b, acc, n, hc, hk, ha, hb, hf => by
    have : b = false := by
      cases b with
      | false => rfl
      | true => obtain ⟨x, h1, h2, _⟩ := hb rfl; omega
    subst this
    refine ⟨acc, ?_, ha, fun x hx => ?_⟩
    · show loopF (fu + 1) false acc (93 :: T) n = _
      rw [loopF_exit (by rw [preB_cons, preB_nil]; simp)]
      rfl
    · rw [decide_eq_false (by omega)]; simp
  | k + 1, c, fu + 1, b, acc, n, hc, hk, ha, hb, hf => by
    by_cases hc2 : c < 256
    · by_cases hm : m c = true
      · have hR : runsN m (k + 1) c = runT c (endR m 256 c) ++ runsN m k (endR m 256 c + 1) := by rw [runsN, if_pos hc2, if_pos hm]
        obtain ⟨g1, g2, g3⟩ := endR_spec m 256 c hc2 (by omega) hm
        rw [hR] at hf ⊢
        generalize endR m 256 c = e at g1 g2 g3 hf ⊢
        have hT := (runs_pre m T k (e + 1)).1
        have key : ∀ (acc' : Nat → Int) (fu' n' : Nat), inU acc' → (runsN m k (e + 1)).length < fu' → (∀ x, x < 256 → hasF acc' x = (hasF acc x || decide (c ≤ x ∧ x ≤ e))) → n' = n + (runT c e).length →
            ∃ R, loopF fu' false acc' (runsN m k (e + 1) ++ 93 :: T) n' = some (R, n + (runT c e ++ runsN m k (e + 1)).length + 1) ∧ inU R ∧ ∀ x, x < 256 → hasF R x = (hasF acc x || (decide (c ≤ x) && m x)) := by
          intro acc' fu' n' h1 h2 h3 h4
          obtain ⟨R, r1, r2, r3⟩ := loop_runs m T k (e + 1) fu' false acc' n' (by omega) (by omega) h1 (fun h => by cases h) h2
          refine ⟨R, by rw [r1, h4, List.length_append, Nat.add_assoc n], r2, fun x hx => ?_⟩
          rw [r3 x hx, h3 x hx, Bool.or_assoc]
          congr 1
          by_cases x1 : c ≤ x
          · rw [decide_eq_true x1]
            by_cases x2 : x ≤ e
            · rw [decide_eq_true ⟨x1, x2⟩, g3 x x1 x2]; rfl
            · rw [decide_eq_false (by omega), decide_eq_true (by omega)]; simp
          · rw [decide_eq_false (by omega), decide_eq_false (by omega), decide_eq_false x1]; simp
        rw [List.append_assoc]
        rw [List.length_append] at hf
        have hn8 := nat8 hc2
        have he8 := nat8 g2
        have hwl : (wn c).length ≠ 0 := fun h => wr_ne _ (List.length_eq_zero_iff.1 h)
        have hwe : (wn e).length ≠ 0 := fun h => wr_ne _ (List.length_eq_zero_iff.1 h)
        by_cases he : e = c
        · have hr : runT c e = wn c := by rw [runT, if_pos he, List.append_nil]
          rw [hr] at hf key ⊢
          rw [loop_one (wr_pre _ _).1 (member_one _ _ hT), hn8]
          refine key _ _ _ (orF_in _ _) (by omega) (fun x hx => ?_) rfl
          rw [hasF_or ha (withF_in zero_in _ _), hasF_range _ _ _ (Nat.le_refl _), he]
        · by_cases he1 : e = c + 1
          · have hr : runT c e = wn c ++ wn e := by rw [runT, if_neg he, if_pos he1]
            rw [hr] at hf key ⊢
            rw [List.length_append] at hf
            obtain ⟨fv, rfl⟩ : ∃ v, fu = v + 1 := ⟨fu - 1, by omega⟩
            rw [List.append_assoc, loop_one (wr_pre _ _).1 (member_one _ _ (wr_pre _ _).2.1), loop_one (wr_pre _ _).1 (member_one _ _ hT), hn8, he8]
            refine key _ _ _ (orF_in _ _) (by omega) (fun x hx => ?_) (by rw [List.length_append, Nat.add_assoc])
            rw [hasF_or (orF_in _ _) (withF_in zero_in _ _), hasF_or ha (withF_in zero_in _ _), hasF_range _ _ _ (Nat.le_refl _), hasF_range _ _ _ (Nat.le_refl _), Bool.or_assoc]
            congr 1
            rw [← Bool.decide_or, decide_eq_decide]
            omega
          · have hr : runT c e = wn c ++ (45 :: wn e) := by rw [runT, if_neg he, if_neg he1]
            rw [hr] at hf key ⊢
            rw [List.append_assoc, List.cons_append]
            have hm2 := member_two (UInt8.ofNat c) (UInt8.ofNat e) (runsN m k (e + 1) ++ 93 :: T) (by rw [hn8, he8]; exact g1)
            rw [loopF_some (.inr (wr_pre _ _).1) hm2, hn8, he8]
            have hd : (wn c ++ (45 :: (wn e ++ (runsN m k (e + 1) ++ 93 :: T)))).drop ((wn c).length + 1 + (wn e).length) = runsN m k (e + 1) ++ 93 :: T := by
              rw [Nat.add_assoc, ← List.drop_drop, List.drop_left, Nat.add_comm 1, List.drop_succ_cons, List.drop_left]
            rw [hd]
            refine key _ _ _ (orF_in _ _) (by rw [List.length_append, List.length_cons] at hf; omega) (fun x hx => ?_) (by rw [List.length_append, List.length_cons]; show n + ((wn c).length + 1 + (wn e).length) = n + ((wn c).length + ((wn e).length + 1)); omega)
            rw [hasF_or ha (withF_in zero_in _ _), hasF_range _ _ _ g1]
      · have hR : runsN m (k + 1) c = runsN m k (c + 1) := by rw [runsN, if_pos hc2, if_neg hm]
        rw [hR] at hf ⊢
        obtain ⟨R, r1, r2, r3⟩ := loop_runs m T k (c + 1) (fu + 1) b acc n (by omega) (by omega) ha (fun h => by
          obtain ⟨x, h1, h2, h3⟩ := hb h
          refine ⟨x, ?_, h2, h3⟩
          rcases Nat.lt_or_ge c x with h4 | h4
          · omega
          · rw [show x = c by omega] at h3; exact absurd h3 hm) hf
        refine ⟨R, r1, r2, fun x hx => ?_⟩
        rw [r3 x hx]
        congr 1
        by_cases hxc : x = c
        · subst hxc
          rw [decide_eq_false (by omega), decide_eq_true (Nat.le_refl _), show m x = false by simpa using hm]; rfl
        · congr 1
          rw [decide_eq_decide]; omega
    · have hR : runsN m (k + 1) c = [] := by rw [runsN, if_neg hc2]
      have : b = false := by
        cases b with
        | false => rfl
        | true => obtain ⟨x, h1, h2, _⟩ := hb rfl; omega
      subst this
      rw [hR]
      refine ⟨acc, ?_, ha, fun x hx => ?_⟩
      · show loopF (fu + 1) false acc (93 :: T) n = _
        rw [loopF_exit (by rw [preB_cons, preB_nil]; simp)]
        rfl
      · rw [decide_eq_false (by omega)]; simp

theorem print_back (f : Nat → Int) (hf : inU f) (A B : List UInt8) : parseV (A ++ (printF f ++ B)) (A.length : Int) = .tuple #[.agg (setRow f), .int .i64 ((A.length + (printF f).length : Nat) : Int), .int .i64 0] := by
  have hd : ∀ (x : UInt8) (r : List UInt8), (A ++ (x :: r)).drop (A.length + 1) = r := fun x r => by rw [← List.drop_drop, List.drop_left]; rfl
  have hd2 : ∀ (x y : UInt8) (r : List UInt8), (A ++ (x :: y :: r)).drop (A.length + 2) = r := fun x y r => by rw [← List.drop_drop, List.drop_left]; rfl
  have hg : ∀ (r : List UInt8), (A ++ (91 :: r))[((A.length : Int)).toNat]? = some 91 := fun r => by rw [Int.toNat_natCast, List.getElem?_append_right (Nat.le_refl _), Nat.sub_self]; rfl
  unfold printF
  split
  · rename_i h0
    have hn := cnt_none f 256 h0
    rw [List.cons_append, List.cons_append, List.append_assoc, List.singleton_append]
    rw [parseV, if_pos ⟨Int.natCast_nonneg _, hg _⟩, Int.toNat_natCast, hd, parseF, hd, hd2]
    have hp : preB [94] (94 :: (runsN (hasF (notF f)) 256 0 ++ 93 :: B)) = true := by rw [preB_cons, preB_nil]; simp
    rw [hp, if_pos rfl]
    obtain ⟨R, r1, r2, r3⟩ := loop_runs (hasF (notF f)) B 256 0 ((A ++ (91 :: 94 :: (runsN (hasF (notF f)) 256 0 ++ 93 :: B))).length + 1) true zeroF (A.length + 2) (by omega) (by omega) zero_in (fun _ => ⟨0, by omega, by omega, by rw [hasF_not hf, hn 0 (by omega)]; rfl⟩) (by simp only [List.length_append, List.length_cons]; omega)
    rw [r1]
    show Value.tuple #[.agg (setRow (notF R)), _, _] = _
    rw [set_ext (notF_in r2) hf (fun x hx => by rw [hasF_not r2, r3 x hx, hasF_zero, hasF_not hf, hn x hx, decide_eq_true (Nat.zero_le _)]; rfl)]
    congr 5
    simp only [List.length_append, List.length_cons, List.length_nil]
    omega
  · rename_i h0
    obtain ⟨y, hy1, hy2⟩ := cnt_some f 256 h0
    rw [List.cons_append, List.append_assoc, List.singleton_append]
    rw [parseV, if_pos ⟨Int.natCast_nonneg _, hg _⟩, Int.toNat_natCast, hd, parseF, hd, (runs_pre _ B _ _).2, if_neg (by simp)]
    obtain ⟨R, r1, r2, r3⟩ := loop_runs (hasF f) B 256 0 ((A ++ (91 :: (runsN (hasF f) 256 0 ++ 93 :: B))).length + 1) true zeroF (A.length + 1) (by omega) (by omega) zero_in (fun _ => ⟨y, by omega, hy1, hy2⟩) (by simp only [List.length_append, List.length_cons]; omega)
    rw [r1]
    show Value.tuple #[.agg (setRow R), _, _] = _
    rw [set_ext r2 hf (fun x hx => by rw [r3 x hx, hasF_zero, decide_eq_true (Nat.zero_le _)]; simp)]
    congr 5
    simp only [List.length_append, List.length_cons, List.length_nil]
    omega

/-! How long it is -/
def sumW : Nat → Nat
  | 0 => 0
  | n + 1 => sumW n + (wn n).length
theorem sumW_mono {a b : Nat} (h : a ≤ b) : sumW a ≤ sumW b := by
  induction h with
  | refl => exact Nat.le_refl _
  | step _ ih => exact Nat.le_trans ih (Nat.le_add_right _ _)
theorem runT_len (c e : Nat) (h : c ≤ e) : sumW c + (runT c e).length ≤ sumW (e + 1) := by
  have hs : sumW (e + 1) = sumW e + (wn e).length := rfl
  have hc : sumW (c + 1) = sumW c + (wn c).length := rfl
  unfold runT
  split
  · rename_i he; subst he; rw [List.append_nil]; omega
  · split
    · rename_i he; subst he; rw [List.length_append]; omega
    · have h1 : sumW (c + 2) = sumW (c + 1) + (wn (c + 1)).length := rfl
      have h2 := sumW_mono (show c + 2 ≤ e by omega)
      have h3 : (wn (c + 1)).length ≠ 0 := fun h => wr_ne _ (List.length_eq_zero_iff.1 h)
      rw [List.length_append, List.length_cons]
      omega
theorem runs_len (m : Nat → Bool) : ∀ (k c : Nat), c ≤ 256 → sumW c + (runsN m k c).length ≤ sumW 256
  | 0, c, h => sumW_mono h
  | k + 1, c, h => by
    rw [runsN]
    split
    · rename_i h2
      split
      · rename_i hm
        obtain ⟨g1, g2, _⟩ := endR_spec m 256 c h2 (by omega) hm
        have h3 := runs_len m k (endR m 256 c + 1) (by omega)
        have h4 := runT_len c _ g1
        rw [List.length_append]
        omega
      · have h3 := runs_len m k (c + 1) (by omega)
        have h4 := sumW_mono (show c ≤ c + 1 by omega)
        omega
    · exact sumW_mono h
theorem sum256 : sumW 256 = 277 := by decide +kernel
theorem runs_277 (m : Nat → Bool) : (runsN m 256 0).length ≤ 277 := by
  have := runs_len m 256 0 (by omega)
  rw [sum256] at this
  exact Nat.le_trans (Nat.le_add_left _ _) this
theorem print_len (f : Nat → Int) : (printF f).length ≤ 280 := by
  unfold printF
  split
  · have := runs_277 (hasF (notF f)); simp only [List.length_append, List.length_cons, List.length_nil]; omega
  · have := runs_277 (hasF f); simp only [List.length_append, List.length_cons, List.length_nil]; omega

end Go.Proofs.Ytfjipiibkmapkaa
