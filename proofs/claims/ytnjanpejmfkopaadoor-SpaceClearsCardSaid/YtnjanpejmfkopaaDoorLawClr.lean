/- SpaceClears: any text is shown as the document says, in lines of at most Wide bytes. -/
import Derived.Test.YtnjanpejmfkopaaDoorRc
namespace Go.Proofs.YtnjanpejmfkopaaDoor
set_option linter.unusedVariables false
set_option linter.unusedSimpArgs false
open Go.RowKit P8

/-- How many bytes stand behind the last line feed, with n ahead. -/
def cntF : Nat → List UInt8 → Nat
  | n, [] => n
  | n, c :: r => cntF (if c = 10 then 0 else n + 1) r
def goodF : Nat → List UInt8 → Prop
  | _, [] => True
  | n, c :: r => (if c = 10 then 0 else n + 1) ≤ 60 ∧ (c = 10 ∨ 32 ≤ c.toNat ∧ c.toNat ≤ 126) ∧ goodF (if c = 10 then 0 else n + 1) r
theorem cntF_append : ∀ (a b : List UInt8) (n : Nat), cntF n (a ++ b) = cntF (cntF n a) b
  | [], _, _ => rfl
  | c :: r, b, n => cntF_append r b _
theorem goodF_append : ∀ (a b : List UInt8) (n : Nat), goodF n (a ++ b) ↔ goodF n a ∧ goodF (cntF n a) b
  | [], _, _ => by simp [goodF, cntF]
  | c :: r, b, n => by
    simp only [List.cons_append, goodF, cntF]
    rw [goodF_append r b]
    constructor
    · rintro ⟨h1, h2, h3, h4⟩; exact ⟨⟨h1, h2, h3⟩, h4⟩
    · rintro ⟨⟨h1, h2, h3⟩, h4⟩; exact ⟨h1, h2, h3, h4⟩
/-- Plain bytes. -/
theorem good_plain : ∀ (s : List UInt8) (n : Nat), (∀ x ∈ s, 32 ≤ x.toNat ∧ x.toNat ≤ 126) → n + s.length ≤ 60 → goodF n s ∧ cntF n s = n + s.length
  | [], n, _, _ => by simp [goodF, cntF]
  | c :: r, n, h, hn => by
    have hc := h c (by simp)
    have h10 : c ≠ 10 := by rintro rfl; simp at hc
    simp only [List.length_cons] at hn
    have ih := good_plain r (n + 1) (fun x hx => h x (by simp [hx])) (by omega)
    simp only [goodF, cntF, if_neg h10, List.length_cons]
    exact ⟨⟨by omega, .inr hc, ih.1⟩, by rw [ih.2]; omega⟩
theorem step_good (s : List UInt8) (room : Nat) (x : List UInt8 × Nat) (hs : ∀ c ∈ s, 32 ≤ c.toNat ∧ c.toNat ≤ 126) (hl : s.length ≤ 4) (hr : room ≤ 60) (hg : goodF 0 x.1) (hc : cntF 0 x.1 = x.2) (hx : x.2 ≤ 59) :
    goodF 0 (stepC s room x).1 ∧ cntF 0 (stepC s room x).1 = (stepC s room x).2 := by
  unfold stepC
  split
  · have h1 : goodF x.2 [92, 10] ∧ cntF x.2 [92, 10] = 0 := by
      simp only [goodF, cntF]; simp; omega
    have h2 := good_plain s 0 hs (by omega)
    simp only [goodF_append, cntF_append, hc, h1.2]
    refine ⟨⟨⟨hg, h1.1⟩, h2.1⟩, by rw [h2.2]; omega⟩
  · have h2 := good_plain s x.2 hs (by omega)
    simp only [goodF_append, cntF_append, hc]
    exact ⟨⟨hg, h2.1⟩, h2.2⟩
theorem runC_good : ∀ (k : Nat) (l : List UInt8), k ≤ l.length → goodF 0 (runC (l.take k)).1 ∧ cntF 0 (runC (l.take k)).1 = (runC (l.take k)).2
  | 0, l, _ => by simp [runC, goodF, cntF]
  | k + 1, l, h => by
    rw [runC_take (by omega)]
    have h1 := runC_good k l (by omega)
    exact step_good _ 59 _ (shP_good _ (UInt8.toNat_lt _)) (shP_len _).1 (by omega) h1.1 h1.2 (runC_len k l (by omega)).2
theorem clear_good (l : List UInt8) : goodF 0 (clearP l) := by
  unfold clearP
  have h1 := runC_good l.length l (Nat.le_refl _)
  have h2 := (runC_len l.length l (Nat.le_refl _)).2
  rw [List.take_length] at h1 h2
  have h3 := step_good [36] 60 (runC l) (by simp) (by simp) (by omega) h1.1 h1.2 h2
  rw [goodF_append]
  refine ⟨h3.1, ?_⟩
  simp [goodF]
theorem clear_size (l : List UInt8) : (clearP l).length ≤ 6 * l.length + 7 := by
  unfold clearP
  have h1 := (runC_len l.length l (Nat.le_refl _)).1
  rw [List.take_length] at h1
  have := (stepC_len [36] 60 (runC l) (by simp)).1
  simp only [List.length_append, List.length_cons, List.length_nil]; omega
theorem good_at {l : List UInt8} (h : goodF 0 l) {k : Nat} (hk : k < l.length) : cntF 0 (l.take (k + 1)) = (if l[k] = 10 then 0 else cntF 0 (l.take k) + 1) ∧ cntF 0 (l.take (k + 1)) ≤ 60 ∧ (l[k] = 10 ∨ 32 ≤ l[k].toNat ∧ l[k].toNat ≤ 126) := by
  have e : cntF 0 (l.take (k + 1)) = (if l[k] = 10 then 0 else cntF 0 (l.take k) + 1) := by
    rw [List.take_succ_eq_append_getElem hk, cntF_append]; rfl
  have e2 : l = l.take k ++ (l[k] :: l.drop (k + 1)) := by rw [List.getElem_cons_drop, List.take_append_drop]
  rw [e2, goodF_append] at h
  have h3 := h.2
  simp only [goodF] at h3
  exact ⟨e, by rw [e]; exact h3.1, h3.2.1⟩

set_option maxHeartbeats 2000000 in
set_option maxRecDepth 100000 in
theorem clr_any (s : ByteArray) (w : World) (hm : Laid0 w) :
    Calls Tryd.prog 4 #[.string s] w fun e w' => e = .returned (.bool true) ∧ Keep Nb w w' := by
  have HM := Lib.hid hm
  clear hm
  go_enter Tryd.func4, Tryd.ntmps4
  go_wp2_with fail
  refine (awake_any w HM.out).mono ?_
  rintro e w1 ⟨rfl, hk1⟩
  have HK1 := Lib.hid hk1
  have HM1 := Lib.hid (HM.out.keep hk1 id)
  clear hk1
  by_cases hbig : 2000 < s.size
  · have m1 : decide ((2000 : Int) < (s.size : Int)) = true := by simp; omega
    clear hbig
    go_wp2_with fail
    refine (awake_any w1 HM1.out).mono ?_
    rintro e w2 ⟨rfl, hk2⟩
    have HK2 := Lib.hid (HK1.out.trans hk2 (fun _ _ h => h))
    clear hk2
    go_wp2_with fail
    go_ret
    exact ⟨rfl, HK2.out⟩
  · have m1 : decide ((2000 : Int) < (s.size : Int)) = false := by simp; omega
    have HSZ : Hid (s.size ≤ 2000) := Lib.hid (by omega)
    have HC := Lib.hid (clear_any s (by omega) w1)
    have HR := Lib.hid (fun wx => rclear_any s (by omega) wx)
    have HG := Lib.hid (clear_good s.data.toList)
    have HZ := Lib.hid (clear_size s.data.toList)
    have HZ2 : Hid ((clearP s.data.toList).length ≤ 20000) := Lib.hid (by have := HZ.out; rw [← size_len] at this; omega)
    clear hbig HZ
    generalize clearP s.data.toList = l at HC HR HG HZ2
    obtain ⟨S, hS⟩ : ∃ S : ByteArray, S = ⟨l.toArray⟩ := ⟨_, rfl⟩
    have hSl : l = S.data.toList := by rw [hS]
    rw [← hS] at HC HR
    rw [hSl] at HG HZ2
    clear hS hSl
    go_wp2_with fail
    refine HC.out.mono ?_
    rintro e w2 ⟨rfl, hk2⟩
    have HK2 := Lib.hid (HK1.out.trans hk2 (fun _ _ h => h))
    clear hk2 HC
    have hn0 : S.size ≤ 9223372036854775807 := by have := HZ2.out; rw [← size_len] at this; omega
    go_wp2_with fail
    go_loopw [4, 18] (fun n i wr => ∃ k : Nat, k ≤ S.size ∧ i = .int .i64 (k : Int) ∧ n = .int .i64 ((cntF 0 (S.data.toList.take k) : Nat) : Int) ∧ Hid (Keep Nb w wr ∧ cntF 0 (S.data.toList.take k) ≤ 60)) (fun _ i _ => S.size - (intOf i).toNat)
    case atStart => exact ⟨0, Nat.zero_le _, rfl, rfl, Lib.hid ⟨HK2.out, by simp [cntF]⟩⟩
    case round =>
      obtain ⟨k, hk, rfl, rfl, HL⟩ := hrel
      rcases Nat.lt_or_ge k S.size with hlt | hge
      · have hlt2 : k < S.data.toList.length := by rw [← size_len]; exact hlt
        have hga := good_at HG.out hlt2
        have hge0 : S.data.toList[k] = S[k] := by rw [Array.getElem_toList]; rfl
        rw [hge0] at hga
        have hc8 : S[k] = 10 ↔ (S[k].toNat : Int) = 10 := by
          constructor
          · intro h; rw [h]; rfl
          · intro h; exact UInt8.toNat_inj.1 (by rw [show (10 : UInt8).toNat = 10 from rfl]; omega)
        have h60 := HL.out.2
        generalize cntF 0 (S.data.toList.take k) = n at hga h60
        generalize hn' : cntF 0 (S.data.toList.take (k + 1)) = n' at hga
        have HN' := Lib.hid hn'
        clear hn' hge0
        have hkz : (k : Int) < (S.size : Int) := by omega
        have hk0 : (0 : Int) ≤ (k : Int) := by omega
        by_cases hc : S[k] = 10
        · have hq : ((S[k].toNat : Int) == 10) = true := by rw [hc8.1 hc]; rfl
          have hq2 : ((S[k].toNat : Int) != 10) = false := by rw [hc8.1 hc]; rfl
          have e1 : n' = 0 := by rw [hga.1, if_pos hc]
          subst e1
          clear hc hc8 hga
          go_wp2_with fail
          go_roundw
          case rel => exact ⟨k + 1, by omega, by go_num, by rw [HN'.out]; rfl, Lib.hid ⟨HL.out.1, by rw [HN'.out]; omega⟩⟩
          case measure => simp [intOf]; omega
        · have hne : (S[k].toNat : Int) ≠ 10 := fun h => hc (hc8.2 h)
          have hq : ((S[k].toNat : Int) == 10) = false := beq_eq_false_iff_ne.2 hne
          have hq2 : ((S[k].toNat : Int) != 10) = true := bne_iff_ne.2 hne
          have e1 : n' = n + 1 := by rw [hga.1, if_neg hc]
          have hr := hga.2.2.resolve_left hc
          have h61 : n + 1 ≤ 60 := by rw [← e1]; exact hga.2.1
          have q1 : decide ((60 : Int) < (n : Int) + 1) = false := decide_eq_false (by omega)
          have q2 : decide ((S[k].toNat : Int) < 32) = false := decide_eq_false (by omega)
          have q3 : decide ((126 : Int) < (S[k].toNat : Int)) = false := decide_eq_false (by omega)
          subst e1
          clear hc hc8 hga hne hr
          go_wp2_with fail
          go_roundw
          case rel => exact ⟨k + 1, by omega, by go_num, by rw [HN'.out]; go_num, Lib.hid ⟨HL.out.1, by rw [HN'.out]; omega⟩⟩
          case measure => simp [intOf]; omega
      · obtain rfl : k = S.size := by omega
        have HK3 := Lib.hid HL.out.1
        clear HL
        go_wp2_with fail
        refine (HR.out wr).mono ?_
        rintro e w5 ⟨rfl, hk5⟩
        have HK4 := Lib.hid (HK3.out.trans hk5 (fun _ _ h => h))
        clear hk5
        go_wp2_with fail
        go_ret
        exact ⟨by simp, HK4.out⟩

end Go.Proofs.YtnjanpejmfkopaaDoor
