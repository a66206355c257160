import Derived.Test.YtkidjbfapldmbaaZRpp
set_option linter.unusedVariables false
set_option linter.unusedSimpArgs false
namespace Go.Proofs.Ytkidjbfapldmbaa
open Go.RowKit P8
theorem rput_any (N : Nd) (hcn : count N ≤ 900000) (A : Option Addr) (cap : Nat) (ps : List (Int × ByteArray)) (hz : sizeP ps ≤ 1000000) (pv : Value) (nth : Int) (all : Bool) (T : ByteArray)
  (w : World) (hl : Lies w N (.slice A N.l.length cap)) (hp : PartsAt w pv ps) :
  Calls Try.prog 72 #[.agg (Nd.row N (.slice A N.l.length cap)), pv, .int .i64 nth, .bool all, .string T] w fun e w' => e = .returned (putV N ps nth all T) ∧ Keep Nb w w' := by
 by_cases hW : formedT N = true ∧ T.size ≤ 600 ∧ 0 ≤ nth
 ·refine rput_main N hcn hW.1 A cap ps hz pv nth hW.2.2 (max nth 1).toNat (by omega) all T hW.2.1 w hl hp (runV N ps nth all T hW.1) _ (Nat.le_refl _) rfl _ (fun h => ?_) (fun h => ?_)
  ·rw [putV, dif_pos (by unfold rightB; rw [h, hW.1]; simp; exact hW.2)]
  ·rw [putV, dif_neg (fun x => h (by unfold rightB at x; simp only [Bool.and_eq_true] at x; exact x.1))]
 ·rw [putV, dif_neg (fun x => hW (by unfold rightB at x; simp only [Bool.and_eq_true, decide_eq_true_eq] at x; exact ⟨x.2.1.1, x.2.1.2, x.2.2⟩))]
  exact rput_wrong N hcn A cap pv nth all T hW w hl
theorem putV_form (N : Nd) (ps : List (Int × ByteArray)) (nth : Int) (all : Bool) (T : ByteArray) : ∃ (o : ByteArray) (k er : Int), putV N ps nth all T = .tuple #[.string o, .int .i64 k, .int .i64 er] := by
 unfold putV
 split
 ·cases runV N ps nth all T (right_formed (by assumption)).1 with
  | none => exact ⟨_, _, _, rfl⟩
  | some q =>
   unfold putW
   simp only []
   split <;> exact ⟨_, _, _, rfl⟩
 ·exact ⟨_, _, _, rfl⟩
theorem cellsP_snoc (ps : List (Int × ByteArray)) (g : Int) (x : ByteArray) : cellsP (ps ++ [(g, x)]) = cellsP ps ++ [.int .i64 g, .string x] := by
 unfold cellsP; rw [List.flatMap_append]; rfl
theorem rparts_own {base : Nat} {w : World} {v : Value} {ps : List (Int × ByteArray)} (h : w.ownsRow base 78 2 v ps.length (cellsP ps)) : PartsAt w v ps := by
 rcases h.2 with ⟨rfl, h0⟩ | ⟨g, cap, cur, rfl, hb, hg, hn, hc, hs, ht⟩
 ·refine ⟨none, 0, by rw [h0], by omega, by unfold maxLen; omega, fun i hi => by omega⟩
 ·refine ⟨_, cap, rfl, hn, hc, fun i hi => ⟨g, 0, rfl, ?_, ?_⟩⟩
  ·have := h.cells (g := g) rfl (i * 2) _ (cellsP_get ps i hi).1; rwa [add_zero'] at this
  ·have := h.cells (g := g) rfl (i * 2 + 1) _ (cellsP_get ps i hi).2; rwa [add_zero'] at this
theorem infoRPart : (Try.prog.info? 78).map (fun i => (i.zero, i.size, i.bytes)) = some (some (.agg #[.int .i64 0, .string ⟨#[]⟩]), 2, 24) := by kernel_rfl
theorem byteP {s : ByteArray} {a : Nat} (h : a < s.size) : ∃ d : UInt8, ∃ h : a < s.size, s[a] = d := ⟨_, h, rfl⟩
set_option maxRecDepth 100000 in
set_option maxHeartbeats 8000000 in
theorem rparts_any (s : ByteArray) (hs : s.size ≤ 500) (w : World) :
  Calls Try.prog 50 #[.string s] w fun e w' => ∃ ps A cap, e = .returned (.slice A ps.length cap) ∧ PartsAt w' (.slice A ps.length cap) ps ∧ (∀ x ∈ ps, x.2.size ≤ 1000) ∧ Keep Nb w w' := by
 obtain ⟨i0, hi, hz0, hz1, hz2⟩ := info_parts infoRPart
 have HS := Lib.hid hs
 clear hs
 go_enter Try.func50, Try.ntmps50
 go_wp2_with fail
 go_loopw [3, 4, 5] (fun o t i wz => ∃ (k : Nat) (X : ByteArray) (ps : List (Int × ByteArray)), k ≤ s.size + 1 ∧ i = .int .i64 (k : Int) ∧ t = .string X ∧ Hid (X.size ≤ k) ∧ Hid (ps.length ≤ 2 * k) ∧ Hid (∀ x ∈ ps, x.2.size ≤ 1000) ∧ Hid (wz.ownsRow w.heap.size 78 2 o ps.length (cellsP ps)) ∧ Hid (Keep Nb w wz)) (fun _ _ i _ => s.size + 1 - (intOf i).toNat)
 case atStart => exact ⟨0, ⟨#[]⟩, [], Nat.zero_le _, rfl, rfl, Lib.hid (Nat.zero_le _), Lib.hid (by simp), Lib.hid (by simp), Lib.hid (World.ownsRow_nil _ _ _ _), Lib.hid (Keep.refl _ _)⟩
 case round =>
  obtain ⟨k, X, ps, hk, rfl, rfl, HX, HPL, HSZ, HO, HK⟩ := hrel
  have hS5 : s.size ≤ 500 := HS.out
  obtain ⟨k1, hk1⟩ : ∃ k1, k1 = k + 1 := ⟨_, rfl⟩
  obtain ⟨k2, hk2⟩ : ∃ k2, k2 = k1 + 1 := ⟨_, rfl⟩
  have W1 : IntKind.i64.wrap ((k : Int) + 1) = (k1 : Int) := by rw [IntKind.wrap_i64]; omega
  have W2 : IntKind.i64.wrap ((k1 : Int) + 1) = (k2 : Int) := by rw [IntKind.wrap_i64]; omega
  have HK1 := Lib.hid hk1
  have HK2 := Lib.hid hk2
  have i0k : (0 : Int) ≤ (k : Int) := by omega
  rcases Nat.lt_or_ge s.size k with hgt | hle
  ·have m1 : decide ((k : Int) ≤ (s.size : Int)) = false := by simp; omega
   have m2 : decide (k ≤ s.size) = false := by simp; omega
   have hPP := rparts_own HO.out
   obtain ⟨A5, cap5, rfl, _⟩ := hPP
   have HPP := Lib.hid (rparts_own HO.out)
   clear hk1 hk2 hgt hk HO
   go_wp2_with fail
   go_ret
   exact ⟨ps, A5, cap5, rfl, HPP.out, HSZ.out, HK.out⟩
  ·have m1 : decide ((k : Int) ≤ (s.size : Int)) = true := by simp; omega
   have m2 : decide (k ≤ s.size) = true := by simp; omega
   have HKS := Lib.hid hle
   rcases Nat.lt_or_ge k s.size with hlt | hge
   rotate_left
   ·have hks : k = s.size := by omega
    have n1 : ((k : Int) == (s.size : Int)) = true := by simp; omega
    have n2 : (k == s.size) = true := by simp; omega
    clear hks hk1 hk2 hk hle hge
    by_cases hX0 : X = ⟨#[]⟩
    ·subst hX0
     go_wp2_with fail
     go_roundw
     case rel => exact ⟨k1, (⟨#[]⟩ : ByteArray), ps, by have := HK1.out; have := HK2.out; have := HKS.out; omega, rfl, rfl, Lib.hid (Nat.zero_le _), Lib.hid (by have := HPL.out; have := HK1.out; have := HK2.out; omega), HSZ, HO, HK⟩
     case measure => have h1 := HK1.out; have h2 := HK2.out; have h3 := HKS.out; simp [intOf]; omega
    ·have z4 : X.toList.isEmpty = false := by
      cases h : X.toList with
      | nil => exact absurd (ba_ext (by rw [h, ByteArray.toList_eq])) hX0
      | cons => rfl
     have z3 : (!X.toList.isEmpty) = true := by rw [z4]; rfl
     clear hX0
     have hs1 := HK.out.size
     have hpl1 := HPL.out
     have hks1 := HKS.out
     go_wp2_with (at_builtin; refine wpList_append_own _ rfl _ _ 70 rfl w.heap.size 78 i0 (.agg #[.int .i64 0, .string ⟨#[]⟩]) 2 24 Try.underlying70 hi hz0 hz1 hz2 rfl (by decide) _ _ _ rfl (HO.out.alloc _) ⟨(wr).heap.size, 0, none⟩ 1 1 [.int .i64 (-1), .string X] rfl rfl (fun j u hj => by
      rw [add_zero']
      match j, hj with
      | 0, hj => simp at hj; subst hj; simp
      | 1, hj => simp at hj; subst hj; simp) ?c2 ?c3 ?c4 ?c5 ?_)
     case c2 => first | exact ⟨rfl, rfl⟩ | simp [Value.oneCell']
     case c3 => unfold maxLen; omega
     case c4 => omega
     case c5 => simp; omega
     intro v1 w1 hown hgrow _
     have HO1 : Hid (w1.ownsRow w.heap.size 78 2 v1 (ps ++ [((-1), X)]).length (cellsP (ps ++ [((-1), X)]))) := Lib.hid (by rw [cellsP_snoc, List.length_append]; exact hown)
     have HK1x : Hid (Keep Nb w w1) := Lib.hid (by
      refine Keep.trans (Keep.alloc HK.out _) (Keep.of_grown hgrow) (fun b hb e => ?_)
      have := (HO.out.lt b e.symm).1
      omega)
     have HPL1 : Hid ((ps ++ [((-1), X)]).length ≤ 2 * k + 1) := Lib.hid (by rw [List.length_append]; simp; omega)
     have HSZ1 : Hid (∀ x ∈ ps ++ [((-1), X)], x.2.size ≤ 1000) := Lib.hid (fun x hx => by
      rcases List.mem_append.1 hx with h | h
      ·exact HSZ.out x h
      ·obtain rfl := List.mem_singleton.1 h
       have := HX.out; have := HS.out; simp only []; omega)
     clear hown hgrow hs1 hpl1 hks1
     generalize ps ++ [((-1), X)] = ps1 at HO1 HPL1 HSZ1
     go_wp2_with fail
     go_roundw
     case rel => exact ⟨k1, (⟨#[]⟩ : ByteArray), ps1, by have := HK1.out; have := HK2.out; have := HKS.out; omega, rfl, rfl, Lib.hid (Nat.zero_le _), Lib.hid (by have := HPL1.out; have := HK1.out; have := HK2.out; omega), HSZ1, HO1, HK1x⟩
     case measure => have h1 := HK1.out; have h2 := HK2.out; have h3 := HKS.out; simp [intOf]; omega
   ·have n1 : ((k : Int) == (s.size : Int)) = false := beq_eq_false_iff_ne.2 (by omega)
    have n2 : (k == s.size) = false := beq_eq_false_iff_ne.2 (by omega)
    have i1k : (k : Int) < (s.size : Int) := by omega
    obtain ⟨d, b0, e0⟩ := byteP hlt
    by_cases hd : d.toNat = 38
    ·have q1 : ((d.toNat : Int) == 38) = true := by simp; omega
     have q2 : (d.toNat == 38) = true := by simp; omega
     clear hk1 hk2 hk hle hlt hd
     by_cases hX0 : X = ⟨#[]⟩
     ·subst hX0
      have hs2 := HK.out.size
      have hpl2 := HPL.out
      have hks2 := HKS.out
      go_wp2_with (at_builtin; refine wpList_append_own _ rfl _ _ 70 rfl w.heap.size 78 i0 (.agg #[.int .i64 0, .string ⟨#[]⟩]) 2 24 Try.underlying70 hi hz0 hz1 hz2 rfl (by decide) _ _ _ rfl (HO.out.alloc _) ⟨(wr).heap.size, 0, none⟩ 1 1 [.int .i64 0, .string (⟨#[]⟩ : ByteArray)] rfl rfl (fun j u hj => by
       rw [add_zero']
       match j, hj with
       | 0, hj => simp at hj; subst hj; simp
       | 1, hj => simp at hj; subst hj; simp) ?c2 ?c3 ?c4 ?c5 ?_)
      case c2 => first | exact ⟨rfl, rfl⟩ | simp [Value.oneCell']
      case c3 => unfold maxLen; omega
      case c4 => omega
      case c5 => simp; omega
      intro v2 w2 hown hgrow _
      have HO2 : Hid (w2.ownsRow w.heap.size 78 2 v2 (ps ++ [(0, (⟨#[]⟩ : ByteArray))]).length (cellsP (ps ++ [(0, (⟨#[]⟩ : ByteArray))]))) := Lib.hid (by rw [cellsP_snoc, List.length_append]; exact hown)
      have HK2x : Hid (Keep Nb w w2) := Lib.hid (by
       refine Keep.trans (Keep.alloc HK.out _) (Keep.of_grown hgrow) (fun b hb e => ?_)
       have := (HO.out.lt b e.symm).1
       omega)
      have HPL2 : Hid ((ps ++ [(0, (⟨#[]⟩ : ByteArray))]).length ≤ 2 * k + 1) := Lib.hid (by rw [List.length_append]; simp; omega)
      have HSZ2 : Hid (∀ x ∈ ps ++ [(0, (⟨#[]⟩ : ByteArray))], x.2.size ≤ 1000) := Lib.hid (fun x hx => by
       rcases List.mem_append.1 hx with h | h
       ·exact HSZ.out x h
       ·obtain rfl := List.mem_singleton.1 h
        exact Nat.zero_le _)
      clear hown hgrow hs2 hpl2 hks2
      generalize ps ++ [(0, (⟨#[]⟩ : ByteArray))] = ps2 at HO2 HPL2 HSZ2
      go_wp2_with fail
      go_roundw
      case rel => exact ⟨k1, (⟨#[]⟩ : ByteArray), ps2, by have := HK1.out; have := HK2.out; have := HKS.out; omega, rfl, rfl, Lib.hid (Nat.zero_le _), Lib.hid (by have := HPL2.out; have := HK1.out; have := HK2.out; omega), HSZ2, HO2, HK2x⟩
      case measure => have h1 := HK1.out; have h2 := HK2.out; have h3 := HKS.out; simp [intOf]; omega
     ·have z4 : X.toList.isEmpty = false := by
       cases h : X.toList with
       | nil => exact absurd (ba_ext (by rw [h, ByteArray.toList_eq])) hX0
       | cons => rfl
      have z3 : (!X.toList.isEmpty) = true := by rw [z4]; rfl
      clear hX0
      have hs1 := HK.out.size
      have hpl1 := HPL.out
      have hks1 := HKS.out
      go_wp2_with (at_builtin; refine wpList_append_own _ rfl _ _ 70 rfl w.heap.size 78 i0 (.agg #[.int .i64 0, .string ⟨#[]⟩]) 2 24 Try.underlying70 hi hz0 hz1 hz2 rfl (by decide) _ _ _ rfl (HO.out.alloc _) ⟨(wr).heap.size, 0, none⟩ 1 1 [.int .i64 (-1), .string X] rfl rfl (fun j u hj => by
       rw [add_zero']
       match j, hj with
       | 0, hj => simp at hj; subst hj; simp
       | 1, hj => simp at hj; subst hj; simp) ?c2 ?c3 ?c4 ?c5 ?_)
      case c2 => first | exact ⟨rfl, rfl⟩ | simp [Value.oneCell']
      case c3 => unfold maxLen; omega
      case c4 => omega
      case c5 => simp; omega
      intro v1 w1 hown hgrow _
      have HO1 : Hid (w1.ownsRow w.heap.size 78 2 v1 (ps ++ [((-1), X)]).length (cellsP (ps ++ [((-1), X)]))) := Lib.hid (by rw [cellsP_snoc, List.length_append]; exact hown)
      have HK1x : Hid (Keep Nb w w1) := Lib.hid (by
       refine Keep.trans (Keep.alloc HK.out _) (Keep.of_grown hgrow) (fun b hb e => ?_)
       have := (HO.out.lt b e.symm).1
       omega)
      have HPL1 : Hid ((ps ++ [((-1), X)]).length ≤ 2 * k + 1) := Lib.hid (by rw [List.length_append]; simp; omega)
      have HSZ1 : Hid (∀ x ∈ ps ++ [((-1), X)], x.2.size ≤ 1000) := Lib.hid (fun x hx => by
       rcases List.mem_append.1 hx with h | h
       ·exact HSZ.out x h
       ·obtain rfl := List.mem_singleton.1 h
        have := HX.out; have := HS.out; simp only []; omega)
      clear hown hgrow hs1 hpl1 hks1
      generalize ps ++ [((-1), X)] = ps1 at HO1 HPL1 HSZ1
      have hs3 := HK1x.out.size
      have hpl3 := HPL1.out
      have hks3 := HKS.out
      go_wp2_with (at_builtin; refine wpList_append_own _ rfl _ _ 70 rfl w.heap.size 78 i0 (.agg #[.int .i64 0, .string ⟨#[]⟩]) 2 24 Try.underlying70 hi hz0 hz1 hz2 rfl (by decide) _ _ _ rfl (HO1.out.alloc _) ⟨(w1).heap.size, 0, none⟩ 1 1 [.int .i64 0, .string (⟨#[]⟩ : ByteArray)] rfl rfl (fun j u hj => by
       rw [add_zero']
       match j, hj with
       | 0, hj => simp at hj; subst hj; simp
       | 1, hj => simp at hj; subst hj; simp) ?c2 ?c3 ?c4 ?c5 ?_)
      case c2 => first | exact ⟨rfl, rfl⟩ | simp [Value.oneCell']
      case c3 => unfold maxLen; omega
      case c4 => omega
      case c5 => simp; omega
      intro v3 w3 hown hgrow _
      have HO3 : Hid (w3.ownsRow w.heap.size 78 2 v3 (ps1 ++ [(0, (⟨#[]⟩ : ByteArray))]).length (cellsP (ps1 ++ [(0, (⟨#[]⟩ : ByteArray))]))) := Lib.hid (by rw [cellsP_snoc, List.length_append]; exact hown)
      have HK3x : Hid (Keep Nb w w3) := Lib.hid (by
       refine Keep.trans (Keep.alloc HK1x.out _) (Keep.of_grown hgrow) (fun b hb e => ?_)
       have := (HO1.out.lt b e.symm).1
       omega)
      have HPL3 : Hid ((ps1 ++ [(0, (⟨#[]⟩ : ByteArray))]).length ≤ 2 * k + 2) := Lib.hid (by rw [List.length_append]; simp; omega)
      have HSZ3 : Hid (∀ x ∈ ps1 ++ [(0, (⟨#[]⟩ : ByteArray))], x.2.size ≤ 1000) := Lib.hid (fun x hx => by
       rcases List.mem_append.1 hx with h | h
       ·exact HSZ1.out x h
       ·obtain rfl := List.mem_singleton.1 h
        exact Nat.zero_le _)
      clear hown hgrow hs3 hpl3 hks3
      generalize ps1 ++ [(0, (⟨#[]⟩ : ByteArray))] = ps3 at HO3 HPL3 HSZ3
      go_wp2_with fail
      go_roundw
      case rel => exact ⟨k1, (⟨#[]⟩ : ByteArray), ps3, by have := HK1.out; have := HK2.out; have := HKS.out; omega, rfl, rfl, Lib.hid (Nat.zero_le _), Lib.hid (by have := HPL3.out; have := HK1.out; have := HK2.out; omega), HSZ3, HO3, HK3x⟩
      case measure => have h1 := HK1.out; have h2 := HK2.out; have h3 := HKS.out; simp [intOf]; omega
    ·have q1 : ((d.toNat : Int) == 38) = false := beq_eq_false_iff_ne.2 (by omega)
     have q2 : (d.toNat == 38) = false := beq_eq_false_iff_ne.2 hd
     by_cases hd2 : d.toNat = 92 ∧ k1 < s.size
     ·have r1 : ((d.toNat : Int) == 92) = true := by simp; omega
      have r2 : (d.toNat == 92) = true := by simp; omega
      have r3 : decide ((k1 : Int) < (s.size : Int)) = true := by simp; omega
      have r4 : decide (k1 < s.size) = true := by simp; omega
      have j0 : (0 : Int) ≤ (k1 : Int) := by omega
      have j1 : (k1 : Int) < (s.size : Int) := by omega
      have HLT1 := Lib.hid hd2.2
      obtain ⟨e, b1, e1⟩ := byteP hd2.2
      by_cases he : 49 ≤ e.toNat ∧ e.toNat ≤ 57
      ·have t1 : decide ((49 : Int) ≤ (e.toNat : Int)) = true := by simp; omega
       have t2 : decide ((e.toNat : Int) ≤ 57) = true := by simp; omega
       have t3 : decide (49 ≤ e.toNat) = true := by simp; omega
       have t4 : decide (e.toNat ≤ 57) = true := by simp; omega
       obtain ⟨g, hg⟩ : ∃ g : Nat, g = e.toNat - 48 := ⟨_, rfl⟩
       have t5 : IntKind.u8.wrap ((e.toNat : Int) - 48) = (g : Int) := by rw [IntKind.wrap_u8]; omega
       have t6 : IntKind.i64.wrap (g : Int) = (g : Int) := by rw [IntKind.wrap_i64]; omega
       have t7 : decide ((0 : Int) ≤ (g : Int)) = true := by simp
       clear hk1 hk2 hk hle hlt hd hd2 he hg
       by_cases hX0 : X = ⟨#[]⟩
       ·subst hX0
        have hs2 := HK.out.size
        have hpl2 := HPL.out
        have hks2 := HKS.out
        go_wp2_with (at_builtin; refine wpList_append_own _ rfl _ _ 70 rfl w.heap.size 78 i0 (.agg #[.int .i64 0, .string ⟨#[]⟩]) 2 24 Try.underlying70 hi hz0 hz1 hz2 rfl (by decide) _ _ _ rfl (HO.out.alloc _) ⟨(wr).heap.size, 0, none⟩ 1 1 [.int .i64 (g : Int), .string (⟨#[]⟩ : ByteArray)] rfl rfl (fun j u hj => by
         rw [add_zero']
         match j, hj with
         | 0, hj => simp at hj; subst hj; simp
         | 1, hj => simp at hj; subst hj; simp) ?c2 ?c3 ?c4 ?c5 ?_)
        case c2 => first | exact ⟨rfl, rfl⟩ | simp [Value.oneCell']
        case c3 => unfold maxLen; omega
        case c4 => omega
        case c5 => simp; omega
        intro v2 w2 hown hgrow _
        have HO2 : Hid (w2.ownsRow w.heap.size 78 2 v2 (ps ++ [((g : Int), (⟨#[]⟩ : ByteArray))]).length (cellsP (ps ++ [((g : Int), (⟨#[]⟩ : ByteArray))]))) := Lib.hid (by rw [cellsP_snoc, List.length_append]; exact hown)
        have HK2x : Hid (Keep Nb w w2) := Lib.hid (by
         refine Keep.trans (Keep.alloc HK.out _) (Keep.of_grown hgrow) (fun b hb e => ?_)
         have := (HO.out.lt b e.symm).1
         omega)
        have HPL2 : Hid ((ps ++ [((g : Int), (⟨#[]⟩ : ByteArray))]).length ≤ 2 * k + 1) := Lib.hid (by rw [List.length_append]; simp; omega)
        have HSZ2 : Hid (∀ x ∈ ps ++ [((g : Int), (⟨#[]⟩ : ByteArray))], x.2.size ≤ 1000) := Lib.hid (fun x hx => by
         rcases List.mem_append.1 hx with h | h
         ·exact HSZ.out x h
         ·obtain rfl := List.mem_singleton.1 h
          exact Nat.zero_le _)
        clear hown hgrow hs2 hpl2 hks2
        generalize ps ++ [((g : Int), (⟨#[]⟩ : ByteArray))] = ps2 at HO2 HPL2 HSZ2
        go_wp2_with fail
        go_roundw
        case rel => exact ⟨k2, (⟨#[]⟩ : ByteArray), ps2, by have := HK1.out; have := HK2.out; have := HKS.out; have := HLT1.out; omega, rfl, rfl, Lib.hid (Nat.zero_le _), Lib.hid (by have := HPL2.out; have := HK1.out; have := HK2.out; omega), HSZ2, HO2, HK2x⟩
        case measure => have h1 := HK1.out; have h2 := HK2.out; have h3 := HKS.out; simp [intOf]; omega
       ·have z4 : X.toList.isEmpty = false := by
         cases h : X.toList with
         | nil => exact absurd (ba_ext (by rw [h, ByteArray.toList_eq])) hX0
         | cons => rfl
        have z3 : (!X.toList.isEmpty) = true := by rw [z4]; rfl
        clear hX0
        have hs1 := HK.out.size
        have hpl1 := HPL.out
        have hks1 := HKS.out
        go_wp2_with (at_builtin; refine wpList_append_own _ rfl _ _ 70 rfl w.heap.size 78 i0 (.agg #[.int .i64 0, .string ⟨#[]⟩]) 2 24 Try.underlying70 hi hz0 hz1 hz2 rfl (by decide) _ _ _ rfl (HO.out.alloc _) ⟨(wr).heap.size, 0, none⟩ 1 1 [.int .i64 (-1), .string X] rfl rfl (fun j u hj => by
         rw [add_zero']
         match j, hj with
         | 0, hj => simp at hj; subst hj; simp
         | 1, hj => simp at hj; subst hj; simp) ?c2 ?c3 ?c4 ?c5 ?_)
        case c2 => first | exact ⟨rfl, rfl⟩ | simp [Value.oneCell']
        case c3 => unfold maxLen; omega
        case c4 => omega
        case c5 => simp; omega
        intro v1 w1 hown hgrow _
        have HO1 : Hid (w1.ownsRow w.heap.size 78 2 v1 (ps ++ [((-1), X)]).length (cellsP (ps ++ [((-1), X)]))) := Lib.hid (by rw [cellsP_snoc, List.length_append]; exact hown)
        have HK1x : Hid (Keep Nb w w1) := Lib.hid (by
         refine Keep.trans (Keep.alloc HK.out _) (Keep.of_grown hgrow) (fun b hb e => ?_)
         have := (HO.out.lt b e.symm).1
         omega)
        have HPL1 : Hid ((ps ++ [((-1), X)]).length ≤ 2 * k + 1) := Lib.hid (by rw [List.length_append]; simp; omega)
        have HSZ1 : Hid (∀ x ∈ ps ++ [((-1), X)], x.2.size ≤ 1000) := Lib.hid (fun x hx => by
         rcases List.mem_append.1 hx with h | h
         ·exact HSZ.out x h
         ·obtain rfl := List.mem_singleton.1 h
          have := HX.out; have := HS.out; simp only []; omega)
        clear hown hgrow hs1 hpl1 hks1
        generalize ps ++ [((-1), X)] = ps1 at HO1 HPL1 HSZ1
        have hs3 := HK1x.out.size
        have hpl3 := HPL1.out
        have hks3 := HKS.out
        go_wp2_with (at_builtin; refine wpList_append_own _ rfl _ _ 70 rfl w.heap.size 78 i0 (.agg #[.int .i64 0, .string ⟨#[]⟩]) 2 24 Try.underlying70 hi hz0 hz1 hz2 rfl (by decide) _ _ _ rfl (HO1.out.alloc _) ⟨(w1).heap.size, 0, none⟩ 1 1 [.int .i64 (g : Int), .string (⟨#[]⟩ : ByteArray)] rfl rfl (fun j u hj => by
         rw [add_zero']
         match j, hj with
         | 0, hj => simp at hj; subst hj; simp
         | 1, hj => simp at hj; subst hj; simp) ?c2 ?c3 ?c4 ?c5 ?_)
        case c2 => first | exact ⟨rfl, rfl⟩ | simp [Value.oneCell']
        case c3 => unfold maxLen; omega
        case c4 => omega
        case c5 => simp; omega
        intro v3 w3 hown hgrow _
        have HO3 : Hid (w3.ownsRow w.heap.size 78 2 v3 (ps1 ++ [((g : Int), (⟨#[]⟩ : ByteArray))]).length (cellsP (ps1 ++ [((g : Int), (⟨#[]⟩ : ByteArray))]))) := Lib.hid (by rw [cellsP_snoc, List.length_append]; exact hown)
        have HK3x : Hid (Keep Nb w w3) := Lib.hid (by
         refine Keep.trans (Keep.alloc HK1x.out _) (Keep.of_grown hgrow) (fun b hb e => ?_)
         have := (HO1.out.lt b e.symm).1
         omega)
        have HPL3 : Hid ((ps1 ++ [((g : Int), (⟨#[]⟩ : ByteArray))]).length ≤ 2 * k + 2) := Lib.hid (by rw [List.length_append]; simp; omega)
        have HSZ3 : Hid (∀ x ∈ ps1 ++ [((g : Int), (⟨#[]⟩ : ByteArray))], x.2.size ≤ 1000) := Lib.hid (fun x hx => by
         rcases List.mem_append.1 hx with h | h
         ·exact HSZ1.out x h
         ·obtain rfl := List.mem_singleton.1 h
          exact Nat.zero_le _)
        clear hown hgrow hs3 hpl3 hks3
        generalize ps1 ++ [((g : Int), (⟨#[]⟩ : ByteArray))] = ps3 at HO3 HPL3 HSZ3
        go_wp2_with fail
        go_roundw
        case rel => exact ⟨k2, (⟨#[]⟩ : ByteArray), ps3, by have := HK1.out; have := HK2.out; have := HKS.out; have := HLT1.out; omega, rfl, rfl, Lib.hid (Nat.zero_le _), Lib.hid (by have := HPL3.out; have := HK1.out; have := HK2.out; omega), HSZ3, HO3, HK3x⟩
        case measure => have h1 := HK1.out; have h2 := HK2.out; have h3 := HKS.out; simp [intOf]; omega
      ·by_cases h10 : e.toNat = 110
       ·have u1 : ((e.toNat : Int) == 110) = true := by simp; omega
        have u2 : (e.toNat == 110) = true := by simp; omega
        have t1 : decide ((49 : Int) ≤ (e.toNat : Int)) = true := by simp; omega
        have t2 : decide ((e.toNat : Int) ≤ 57) = false := by simp; omega
        have t3 : decide (49 ≤ e.toNat) = true := by simp; omega
        have t4 : decide (e.toNat ≤ 57) = false := by simp; omega
        clear hk1 hk2 hk hle hlt hd hd2 he h10
        have hz : ((⟨#[10]⟩ : ByteArray)).size ≤ 1 := by exact Nat.le_refl 1
        have hs1 : ¬ 9223372036854775807 < X.size + ((⟨#[10]⟩ : ByteArray)).size := by have := HX.out; have := HS.out; have := HKS.out; omega
        have HZ := Lib.hid hz
        clear hz
        go_wp2_with fail
        go_roundw
        case rel => exact ⟨k2, X ++ (⟨#[10]⟩ : ByteArray), ps, by have := HK1.out; have := HK2.out; have := HKS.out; have := HLT1.out; omega, rfl, rfl, Lib.hid (by have := HX.out; have := HK1.out; have := HK2.out; have := HZ.out; rw [ByteArray.size_append]; omega), Lib.hid (by have := HPL.out; have := HK1.out; have := HK2.out; omega), HSZ, HO, HK⟩
        case measure => have h1 := HK1.out; have h2 := HK2.out; have h3 := HKS.out; simp [intOf]; omega
       ·have u1 : ((e.toNat : Int) == 110) = false := beq_eq_false_iff_ne.2 (by omega)
        have u2 : (e.toNat == 110) = false := beq_eq_false_iff_ne.2 h10
        have j2 : (k1 : Int) ≤ (k2 : Int) := by omega
        have j3 : (k2 : Int) ≤ (s.size : Int) := by omega
        by_cases h49 : 49 ≤ e.toNat
        ·have t1 : decide ((49 : Int) ≤ (e.toNat : Int)) = true := by simp; omega
         have t2 : decide ((e.toNat : Int) ≤ 57) = false := by simp; omega
         have t3 : decide (49 ≤ e.toNat) = true := by simp; omega
         have t4 : decide (e.toNat ≤ 57) = false := by simp; omega
         clear hk1 hk2 hk hle hlt hd hd2 he h10 h49
         have hz : (s.extract k1 k2).size ≤ 1 := by have := HK2.out; simp; omega
         have hs1 : ¬ 9223372036854775807 < X.size + (s.extract k1 k2).size := by have := HX.out; have := HS.out; have := HKS.out; omega
         have HZ := Lib.hid hz
         clear hz
         go_wp2_with fail
         go_roundw
         case rel => exact ⟨k2, X ++ s.extract k1 k2, ps, by have := HK1.out; have := HK2.out; have := HKS.out; have := HLT1.out; omega, rfl, rfl, Lib.hid (by have := HX.out; have := HK1.out; have := HK2.out; have := HZ.out; rw [ByteArray.size_append]; omega), Lib.hid (by have := HPL.out; have := HK1.out; have := HK2.out; omega), HSZ, HO, HK⟩
         case measure => have h1 := HK1.out; have h2 := HK2.out; have h3 := HKS.out; simp [intOf]; omega
        ·have t1 : decide ((49 : Int) ≤ (e.toNat : Int)) = false := by simp; omega
         have t3 : decide (49 ≤ e.toNat) = false := by simp; omega
         clear hk1 hk2 hk hle hlt hd hd2 he h10 h49
         have hz : (s.extract k1 k2).size ≤ 1 := by have := HK2.out; simp; omega
         have hs1 : ¬ 9223372036854775807 < X.size + (s.extract k1 k2).size := by have := HX.out; have := HS.out; have := HKS.out; omega
         have HZ := Lib.hid hz
         clear hz
         go_wp2_with fail
         go_roundw
         case rel => exact ⟨k2, X ++ s.extract k1 k2, ps, by have := HK1.out; have := HK2.out; have := HKS.out; have := HLT1.out; omega, rfl, rfl, Lib.hid (by have := HX.out; have := HK1.out; have := HK2.out; have := HZ.out; rw [ByteArray.size_append]; omega), Lib.hid (by have := HPL.out; have := HK1.out; have := HK2.out; omega), HSZ, HO, HK⟩
         case measure => have h1 := HK1.out; have h2 := HK2.out; have h3 := HKS.out; simp [intOf]; omega
     ·have j2 : (k : Int) ≤ (k1 : Int) := by omega
      have j3 : (k1 : Int) ≤ (s.size : Int) := by omega
      by_cases hd3 : d.toNat = 92
      ·have r1 : ((d.toNat : Int) == 92) = true := by simp; omega
       have r2 : (d.toNat == 92) = true := by simp; omega
       have r3 : decide ((k1 : Int) < (s.size : Int)) = false := by simp; omega
       have r4 : decide (k1 < s.size) = false := by simp; omega
       clear hk1 hk2 hk hle hlt hd hd2 hd3
       have hz : (s.extract k k1).size ≤ 1 := by have := HK1.out; simp; omega
       have hs1 : ¬ 9223372036854775807 < X.size + (s.extract k k1).size := by have := HX.out; have := HS.out; have := HKS.out; omega
       have HZ := Lib.hid hz
       clear hz
       go_wp2_with fail
       go_roundw
       case rel => exact ⟨k1, X ++ s.extract k k1, ps, by have := HK1.out; have := HK2.out; have := HKS.out; omega, rfl, rfl, Lib.hid (by have := HX.out; have := HK1.out; have := HK2.out; have := HZ.out; rw [ByteArray.size_append]; omega), Lib.hid (by have := HPL.out; have := HK1.out; have := HK2.out; omega), HSZ, HO, HK⟩
       case measure => have h1 := HK1.out; have h2 := HK2.out; have h3 := HKS.out; simp [intOf]; omega
      ·have r1 : ((d.toNat : Int) == 92) = false := beq_eq_false_iff_ne.2 (by omega)
       have r2 : (d.toNat == 92) = false := beq_eq_false_iff_ne.2 hd3
       clear hk1 hk2 hk hle hlt hd hd2 hd3
       have hz : (s.extract k k1).size ≤ 1 := by have := HK1.out; simp; omega
       have hs1 : ¬ 9223372036854775807 < X.size + (s.extract k k1).size := by have := HX.out; have := HS.out; have := HKS.out; omega
       have HZ := Lib.hid hz
       clear hz
       go_wp2_with fail
       go_roundw
       case rel => exact ⟨k1, X ++ s.extract k k1, ps, by have := HK1.out; have := HK2.out; have := HKS.out; omega, rfl, rfl, Lib.hid (by have := HX.out; have := HK1.out; have := HK2.out; have := HZ.out; rw [ByteArray.size_append]; omega), Lib.hid (by have := HPL.out; have := HK1.out; have := HK2.out; omega), HSZ, HO, HK⟩
       case measure => have h1 := HK1.out; have h2 := HK2.out; have h3 := HKS.out; simp [intOf]; omega
end Go.Proofs.Ytkidjbfapldmbaa
