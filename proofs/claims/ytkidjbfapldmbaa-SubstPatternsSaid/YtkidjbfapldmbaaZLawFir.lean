import Derived.Test.YtkidjbfapldmbaaZPp
import Derived.Test.YtkidjbfapldmbaaZCount
set_option linter.unusedVariables false
set_option linter.unusedSimpArgs false
namespace Go.Proofs.Ytkidjbfapldmbaa
open Go.RowKit P8
theorem right_formed {N : Nd} {ps : List (Int × ByteArray)} {nth : Int} {T : ByteArray} (h : rightB N ps nth T = true) : formedT N = true ∧ T.size ≤ 600 ∧ 0 ≤ nth := by
 unfold rightB at h
 simp only [Bool.and_eq_true, decide_eq_true_eq] at h
 exact ⟨h.2.1.1, h.2.1.2, h.2.2⟩
noncomputable def runV (N : Nd) (ps : List (Int × ByteArray)) (nth : Int) (all : Bool) (T : ByteArray) (h : formedT N = true) : Option PS :=
 putS (found T.toList false N (formed_ok h)) T.toList (fillF T.toList ps) (max nth 1).toNat all (T.toList.length + 1) begP
noncomputable def putV (N : Nd) (ps : List (Int × ByteArray)) (nth : Int) (all : Bool) (T : ByteArray) : Value :=
 if h : rightB N ps nth T = true then putW T.toList (runV N ps nth all T (right_formed h).1) else .tuple #[.string ⟨#[]⟩, .int .i64 0, .int .i64 1]
set_option maxRecDepth 100000 in
set_option maxHeartbeats 4000000 in
theorem put_wrong (N : Nd) (hcn : count N ≤ 900000) (A : Option Addr) (cap : Nat) (ps : List (Int × ByteArray)) (pv : Value) (nth : Int) (all : Bool) (T : ByteArray) (hR : rightB N ps nth T = false)
  (w : World) (hl : Lies w N (.slice A N.l.length cap)) (hp : PartsAt w pv ps) :
  Calls Try.prog 51 #[.agg (Nd.row N (.slice A N.l.length cap)), pv, .int .i64 nth, .bool all, .string T] w fun e w' =>
   e = .returned (.tuple #[.string ⟨#[]⟩, .int .i64 0, .int .i64 1]) ∧ Keep Nb w w' := by
 have hright := fun wx hx hq => right_any N hcn A cap ps pv nth T wx hx hq
 rw [hR] at hright
 have HRI := Lib.hid hright
 have HL := Lib.hid hl
 have HP := Lib.hid hp
 obtain ⟨A2, cap2, rfl, _⟩ := hp
 clear hright hR hl hcn
 simp only [Nd.row]
 go_enter Try.func51, Try.ntmps51
 go_upto_region 1 with fail
 have hb0 : Blk (w.alloc (.cells (Nd.row N (.slice A N.l.length cap)) 33)) w.heap.size (Nd.row N (.slice A N.l.length cap)) 33 := Blk.new w _ _
 have hk0 : Keep Nb w (w.alloc (.cells (Nd.row N (.slice A N.l.length cap)) 33)) := Keep.alloc (Keep.refl _ _) _
 have hx : w.alloc (.cells #[.int .i64 N.h.k, .int .u8 N.h.c, .int .u64 N.h.s0, .int .u64 N.h.s1, .int .u64 N.h.s2, .int .u64 N.h.s3, .int .i64 N.h.n, .int .i64 N.h.mn, .int .i64 N.h.mx, .slice A N.l.length cap] 33) = w.alloc (.cells (Nd.row N (.slice A N.l.length cap)) 33) := rfl
 rw [hx]; clear hx
 generalize w.alloc (.cells (Nd.row N (.slice A N.l.length cap)) 33) = w1 at hb0 hk0 ⊢
 go_wp2_with (refine wpList_load_row rfl 33 (.tmp 5) rfl w.heap.size rfl 33 _ (0, 0) _ hb0 Try.underlying33 rfl (by kernel_rfl) ?_)
 refine (HRI.out w1 (Lies_keep hk0 HL.out) (HP.out.keep hk0 (fun _ _ h => h))).mono ?_
 rintro e w2 ⟨rfl, kd⟩
 have HK2 := Lib.hid (hk0.trans kd (fun _ _ h => h))
 clear hb0 hk0 kd
 go_wp2_with fail
 go_ret3
 exact ⟨rfl, HK2.out⟩
theorem put_any (N : Nd) (hcn : count N ≤ 900000) (A : Option Addr) (cap : Nat) (ps : List (Int × ByteArray)) (hz : sizeP ps ≤ 1000000) (pv : Value) (nth : Int) (all : Bool) (T : ByteArray)
  (w : World) (hl : Lies w N (.slice A N.l.length cap)) (hp : PartsAt w pv ps) :
  Calls Try.prog 51 #[.agg (Nd.row N (.slice A N.l.length cap)), pv, .int .i64 nth, .bool all, .string T] w fun e w' => e = .returned (putV N ps nth all T) ∧ Keep Nb w w' := by
 by_cases h : rightB N ps nth T = true
 ·rw [putV, dif_pos h]
  exact put_right N hcn (right_formed h).1 A cap ps hz pv nth (max nth 1).toNat (by omega) all T h w hl hp _ (Nat.le_refl _)
 ·rw [putV, dif_neg h]
  exact put_wrong N hcn A cap ps pv nth all T (by simpa using h) w hl hp
def cellsP (ps : List (Int × ByteArray)) : List Value := ps.flatMap fun x => [.int .i64 x.1, .string x.2]
theorem cellsP_take (ps : List (Int × ByteArray)) (k : Nat) (h : k < ps.length) : cellsP (ps.take (k + 1)) = cellsP (ps.take k) ++ [.int .i64 ps[k].1, .string ps[k].2] := by
 rw [List.take_succ_eq_append_getElem h, cellsP, List.flatMap_append]; simp [cellsP]
theorem cellsP_get (ps : List (Int × ByteArray)) : ∀ i (h : i < ps.length), (cellsP ps)[i * 2]? = some (.int .i64 ps[i].1) ∧ (cellsP ps)[i * 2 + 1]? = some (.string ps[i].2) := by
 induction ps with
 | nil => intro i h; simp at h
 | cons x r ih =>
  intro i h
  have e : cellsP (x :: r) = .int .i64 x.1 :: .string x.2 :: cellsP r := by simp [cellsP]
  rw [e]
  cases i with
  | zero => exact ⟨rfl, rfl⟩
  | succ i =>
   have := ih i (by simpa using h)
   rw [show (i + 1) * 2 = i * 2 + 1 + 1 by omega]
   exact ⟨by simpa using this.1, by simpa using this.2⟩
theorem infoPart : (Try.prog.info? 138).map (fun i => (i.zero, i.size, i.bytes)) = some (some (.agg #[.int .i64 0, .string ⟨#[]⟩]), 2, 24) := by kernel_rfl
theorem add_zero' (g k : Nat) : (⟨g, 0, none⟩ : Addr).add k = ⟨g, 0 + k, none⟩ := by
 unfold Addr.add
 split
 ·rename_i h; subst h; rfl
 ·rfl
theorem parts_own {base : Nat} {w : World} {v : Value} {ps : List (Int × ByteArray)} (h : w.ownsRow base 138 2 v ps.length (cellsP ps)) : PartsAt w v ps := by
 rcases h.2 with ⟨rfl, h0⟩ | ⟨g, cap, cur, rfl, hb, hg, hn, hc, hs, ht⟩
 ·refine ⟨none, 0, by rw [h0], by omega, by unfold maxLen; omega, fun i hi => by omega⟩
 ·refine ⟨_, cap, rfl, hn, hc, fun i hi => ⟨g, 0, rfl, ?_, ?_⟩⟩
  ·have := h.cells (g := g) rfl (i * 2) _ (cellsP_get ps i hi).1; rwa [add_zero'] at this
  ·have := h.cells (g := g) rfl (i * 2 + 1) _ (cellsP_get ps i hi).2; rwa [add_zero'] at this
set_option maxRecDepth 100000 in
set_option maxHeartbeats 4000000 in
theorem theirparts_any (ps : List (Int × ByteArray)) (hn : ps.length ≤ 100000) (pv : Value) (w : World) (hp : PartsAt w pv ps) :
  Calls Try.prog 52 #[pv] w fun e w' => ∃ A cap, e = .returned (.slice A ps.length cap) ∧ PartsAt w' (.slice A ps.length cap) ps ∧ Keep Nb w w' := by
 obtain ⟨i0, hi, hz0, hz1, hz2⟩ := info_parts infoPart
 have HP := Lib.hid hp
 obtain ⟨A2, cap2, rfl, hn1, hn2, hcell⟩ := hp
 have HCE := Lib.hid hcell
 clear hcell hn1 hn2
 go_enter Try.func52, Try.ntmps52
 go_wp2_with fail
 go_loopw [3, 7] (fun o i wr => ∃ k : Nat, k ≤ ps.length ∧ i = .int .i64 (k : Int) ∧ Hid (wr.ownsRow w.heap.size 138 2 o k (cellsP (ps.take k))) ∧ Hid (Keep Nb w wr)) (fun _ i _ => ps.length - (intOf i).toNat)
 case atStart => exact ⟨0, Nat.zero_le _, rfl, Lib.hid (World.ownsRow_nil _ _ _ _), Lib.hid (Keep.refl _ _)⟩
 case round =>
  obtain ⟨k, hk, rfl, HO, HK⟩ := hrel
  rcases Nat.lt_or_ge k ps.length with hlt | hge
  ·obtain ⟨b, off, rfl, c0, c1⟩ := HCE.out k hlt
   have d0 := HK.out.cell c0 (fun h => h)
   have d1 := HK.out.cell c1 (fun h => h)
   have lb := Nat.lt_of_lt_of_le (cell_lt c0) HK.out.size
   have hst := cellsP_take ps k hlt
   generalize ps[k] = x at d0 d1 hst
   obtain ⟨g, tx⟩ := x
   have HST := Lib.hid hst
   clear c0 c1 hst
   simp only [] at d0 d1
   have HS := Lib.hid HK.out.size
   go_wp2_with (at_builtin; refine wpList_append_own _ rfl _ _ 75 rfl w.heap.size 138 i0 (.agg #[.int .i64 0, .string ⟨#[]⟩]) 2 24 Try.underlying75 hi hz0 hz1 hz2 rfl (by decide) _ _ _ rfl (HO.out.alloc _) ⟨wr.heap.size, 0, none⟩ 1 1 [.int .i64 g, .string tx] rfl rfl (fun j u hj => by
    rw [add_zero']
    match j, hj with
    | 0, hj => simp at hj; subst hj; simp
    | 1, hj => simp at hj; subst hj; simp) ?c2 ?c3 ?c4 ?c5 ?_)
   case c2 => exact ⟨rfl, rfl⟩
   case c3 => unfold maxLen; omega
   case c4 => omega
   case c5 => have := HS.out; simp; omega
   intro v' w2 hown' hgrow _
   have HO2 : Hid (w2.ownsRow w.heap.size 138 2 v' (k + 1) (cellsP (ps.take (k + 1)))) := Lib.hid (by rw [HST.out]; exact hown')
   have HK2 : Hid (Keep Nb w w2) := Lib.hid (by
    refine Keep.trans (Keep.alloc HK.out _) (Keep.of_grown hgrow) (fun b hb e => ?_)
    have := (HO.out.lt b e.symm).1
    omega)
   clear hown' hgrow
   go_wp2_with fail
   go_roundw
   case rel => exact ⟨k + 1, by omega, by go_num, HO2, HK2⟩
   case measure => simp [intOf]; omega
  ·obtain rfl : k = ps.length := by omega
   have hO := HO.out
   rw [List.take_length] at hO
   have hPP := parts_own hO
   obtain ⟨A5, cap5, rfl, _⟩ := hPP
   have HPP := Lib.hid (parts_own hO)
   clear hO HO
   go_wp2_with fail
   go_ret
   exact ⟨A5, cap5, rfl, HPP.out, HK.out⟩
theorem found_eq {L : List UInt8} {b : Bool} {n : Nd} {hn : okT n} {a k : Nat} {x : St} (h : findS k L b n (L.length + 1 - a) a ⟨0, false, none⟩ = some x) : found L b n hn a = x := by
 obtain ⟨k', hk'⟩ := found_spec L b n hn a
 have h1 := findS_more (Nat.le_max_left k k') _ _ _ _ h
 have h2 := findS_more (Nat.le_max_right k k') _ _ _ _ hk'
 rw [h1] at h2
 exact (Option.some.inj h2).symm
def banL : List UInt8 := [98, 97, 110, 97, 110, 97]
theorem ban0 : found banL false litNd (formed_ok formed_lit) 0 = ⟨2, false, some (2, Go.Proofs.Ytkidjbfapldmbaa.put noC 0 1 2)⟩ := found_eq (k := 3) (by simp [banL, findS, thr, tryS, fitsF, comeF, litNd, Nd.h, Nd.l])
theorem ban2 : found banL false litNd (formed_ok formed_lit) 2 = ⟨2, false, some (4, Go.Proofs.Ytkidjbfapldmbaa.put noC 0 3 4)⟩ := found_eq (k := 3) (by simp [banL, findS, thr, tryS, fitsF, comeF, litNd, Nd.h, Nd.l])
theorem ban4 : found banL false litNd (formed_ok formed_lit) 4 = ⟨2, false, some (6, Go.Proofs.Ytkidjbfapldmbaa.put noC 0 5 6)⟩ := found_eq (k := 3) (by simp [banL, findS, thr, tryS, fitsF, comeF, litNd, Nd.h, Nd.l])
theorem ban6 : found banL false litNd (formed_ok formed_lit) 6 = ⟨1, false, none⟩ := found_eq (k := 3) (by simp [banL, findS, thr, tryS, fitsF, litNd, Nd.h, Nd.l])
theorem ban_run : putS (found banL false litNd (formed_ok formed_lit)) banL (fillF banL []) 1 true 7 begP = some ⟨[98, 110, 110], 6, 6, 6, 3, 3⟩ := by
 have s1 : stepP banL (fillF banL []) 1 begP ⟨2, false, some (2, Go.Proofs.Ytkidjbfapldmbaa.put noC 0 1 2)⟩ 1 2 = ⟨[98], 2, 2, 2, 1, 1⟩ := by simp [stepP, begP, seg, banL, fillF]
 have s2 : stepP banL (fillF banL []) 1 ⟨[98], 2, 2, 2, 1, 1⟩ ⟨2, false, some (4, Go.Proofs.Ytkidjbfapldmbaa.put noC 0 3 4)⟩ 3 4 = ⟨[98, 110], 4, 4, 4, 2, 2⟩ := by simp [stepP, seg, banL, fillF]
 have s3 : stepP banL (fillF banL []) 1 ⟨[98, 110], 4, 4, 4, 2, 2⟩ ⟨2, false, some (6, Go.Proofs.Ytkidjbfapldmbaa.put noC 0 5 6)⟩ 5 6 = ⟨[98, 110, 110], 6, 6, 6, 3, 3⟩ := by simp [stepP, seg, banL, fillF]
 rw [putS_some (a := 1) (b := 2) ⟨by simp [begP], .inl rfl⟩ (by rw [show begP.pos = 0 from rfl, ban0]; simp [begP]) (by rw [show begP.pos = 0 from rfl, ban0]; rfl), show begP.pos = 0 from rfl, ban0, s1]
 rw [putS_some (a := 3) (b := 4) ⟨by simp [banL], .inl rfl⟩ (by rw [ban2]; simp) (by rw [ban2]; rfl), ban2, s2]
 rw [putS_some (a := 5) (b := 6) ⟨by simp [banL], .inl rfl⟩ (by rw [ban4]; simp) (by rw [ban4]; rfl), ban4, s3]
 rw [putS_none ⟨by simp [banL], .inl rfl⟩ (by rw [ban6]; simp) (by rw [ban6]; rfl)]
theorem ban_put : putV litNd [] 0 true (ByteArray.mk #[98, 97, 110, 97, 110, 97]) = .tuple #[.string ⟨#[98, 110, 110]⟩, .int .i64 3, .int .i64 0] := by
 have hL : (ByteArray.mk #[98, 97, 110, 97, 110, 97]).toList = banL := by rw [ByteArray.toList_eq]; rfl
 have hr : rightB litNd [] 0 (ByteArray.mk #[98, 97, 110, 97, 110, 97]) = true := by
  unfold rightB; rw [formed_lit]; rfl
 rw [putV, dif_pos hr, runV, hL, show (max (0 : Int) 1).toNat = 1 from rfl, show banL.length + 1 = 7 from rfl, ban_run]
 rfl
theorem noParts (w : World) : PartsAt w (.slice none 0 0) [] := ⟨none, 0, rfl, by simp, by unfold maxLen; omega, fun i h => by simp at h⟩
set_option maxRecDepth 100000 in
set_option maxHeartbeats 1000000 in
theorem awake18 (w : World) : Calls Try.prog 48 #[] w fun e w' => e = .returned (.bool true) ∧ Keep Nb w w' := by
 have H1 := Lib.hid (fun wx => theirs_any 1 (by omega) litNd (by simp [litNd, count, countL]) (.slice none 0 0) wx (lies_nil wx _))
 have H2 := Lib.hid (fun A cap wx hl => put_any litNd (by simp [litNd, count, countL]) A cap [] (by simp [sizeP]) (.slice none 0 0) 0 true (ByteArray.mk #[98, 97, 110, 97, 110, 97]) wx hl (noParts wx))
 go_enter Try.func48, Try.ntmps48
 go_wp2_with fail
 refine (H1.out _).mono ?_
 rintro e w2 ⟨S1, rfl, hB1, hk2⟩
 obtain ⟨A1, n1, rfl, _⟩ := LiesP_def.1 hB1
 have hl1 := LiesP_all hB1
 clear hB1 H1
 go_wp2_with fail
 refine (H2.out _ _ _ hl1).mono ?_
 rintro e w3 ⟨rfl, hk3⟩
 rw [ban_put]
 have HK := Lib.hid (hk2.trans hk3 (fun _ _ h => h))
 clear hk2 hk3 hl1
 go_wp2_with fail
 go_ret
 exact ⟨rfl, HK.out⟩
end Go.Proofs.Ytkidjbfapldmbaa
namespace Go.Proofs.Ytkidjbfapldmbaa
open Go.RowKit P8 Go.ChangeShapes Go.WideShapes
section
variable {H : Type} {enc : TypeId × Value → H} {W : World} {base : Nat} {spare : Nat → Bool} {held : Bool}
end
def fewGo : List (Int × ByteArray) → Nat → Nat → Bool
 | [], _, _ => true
 | x :: r, i, n => if 60 ≤ i ∨ 5000 < n + min x.2.size 10000 then false else fewGo r (i + 1) (n + min x.2.size 10000)
def fewP (ps : List (Int × ByteArray)) : Bool := fewGo ps 0 0
theorem fewGo_size : ∀ (ps : List (Int × ByteArray)) (i n : Nat), fewGo ps i n = true → i ≤ 60 → n ≤ 5000 → ps.length + i ≤ 60 ∧ (ps.map fun x => x.2.size).sum + n ≤ 5000
 | [], i, n, _, h1, h2 => by simp; omega
 | x :: r, i, n, h, h1, h2 => by
  rw [fewGo] at h
  split at h
  ·cases h
  ·rename_i hh
   have := fewGo_size r (i + 1) _ h (by omega) (by omega)
   simp only [List.map_cons, List.sum_cons, List.length_cons]
   omega
theorem fewP_size {ps : List (Int × ByteArray)} (h : fewP ps = true) : ps.length ≤ 60 ∧ sizeP ps ≤ 100000 := by
 have := fewGo_size ps 0 0 h (by omega) (by omega)
 have e : ∀ l : List (Int × ByteArray), sizeP l = (l.map fun x => x.2.size).sum + 600 * l.length := fun l => by
  induction l with
  | nil => rfl
  | cons x r ih => simp only [sizeP, List.map_cons, List.sum_cons, List.length_cons] at ih ⊢; omega
 rw [e]
 omega
set_option maxRecDepth 100000 in
set_option maxHeartbeats 4000000 in
theorem few18_any (ps : List (Int × ByteArray)) (hsz : ∀ x ∈ ps, x.2.size ≤ 9223372036854775807) (pv : Value) (w : World) (hp : PartsAt w pv ps) :
  Calls Try.prog 53 #[pv] w fun e w' => e = .returned (.bool (fewP ps)) ∧ Keep Nb w w' := by
 have HP := Lib.hid hp
 obtain ⟨A2, cap2, rfl, hn1, hn2, hcell⟩ := hp
 have HCE := Lib.hid hcell
 have hn3 : ps.length ≤ 9223372036854775807 := by unfold maxLen at hn2; omega
 have HSZ := Lib.hid hsz
 clear hcell hn1 hn2 hsz
 go_enter Try.func53, Try.ntmps53
 go_wp2_with fail
 go_loopw [3, 7] (fun n i wr => ∃ k m : Nat, k ≤ ps.length ∧ m ≤ 5000 ∧ i = .int .i64 (k : Int) ∧ n = .int .i64 (m : Int) ∧ Hid (fewP ps = fewGo (ps.drop k) k m) ∧ wr = w) (fun _ i _ => ps.length - (intOf i).toNat)
 case atStart => exact ⟨0, 0, Nat.zero_le _, Nat.zero_le _, rfl, rfl, Lib.hid rfl, rfl⟩
 case round =>
  obtain ⟨k, m, hk, hm, rfl, rfl, HF, rfl⟩ := hrel
  rcases Nat.lt_or_ge k ps.length with hlt | hge
  ·obtain ⟨b, off, rfl, d0, d1⟩ := HCE.out k hlt
   have lb := cell_lt d1
   have hdr : ps.drop k = ps[k] :: ps.drop (k + 1) := List.drop_eq_getElem_cons hlt
   have hx := HSZ.out ps[k] (List.getElem_mem hlt)
   generalize ps[k] = x at d0 d1 hdr hx
   obtain ⟨g, tx⟩ := x
   have hF := HF.out
   rw [hdr, fewGo] at hF
   simp only [] at d0 d1 hF hx
   obtain ⟨c, hc⟩ : ∃ c, c = min tx.size 10000 := ⟨_, rfl⟩
   have hmin : min (tx.size : Int) 10000 = (c : Int) := by omega
   have hc2 : c ≤ 10000 := by omega
   rw [← hc] at hF
   have W1 : IntKind.i64.wrap ((m : Int) + (c : Int)) = ((m + c : Nat) : Int) := by rw [IntKind.wrap_i64]; omega
   have HF2 := Lib.hid hF
   clear d0 hdr hF hc
   by_cases h6 : 60 ≤ k
   ·have m1 : decide ((60 : Int) ≤ (k : Int)) = true := by simp; omega
    have HE : Hid (fewP ps = false) := Lib.hid (by rw [HF2.out, if_pos (.inl h6)])
    clear h6
    go_wp2_with fail
    go_ret
    exact ⟨by rw [HE.out]; rfl, Keep.refl _ _⟩
   ·have m1 : decide ((60 : Int) ≤ (k : Int)) = false := by simp; omega
    have m1' : decide (60 ≤ k) = false := by simpa using h6
    by_cases h7 : 5000 < m + c
    ·have m2 : decide ((5000 : Int) < (m : Int) + (c : Int)) = true := by simp; omega
     have m3 : decide (5000 < m + c) = true := by simpa using h7
     have HE : Hid (fewP ps = false) := Lib.hid (by rw [HF2.out, if_pos (.inr h7)])
     clear h6 h7
     go_wp2_with fail
     go_ret
     exact ⟨by rw [HE.out]; rfl, Keep.refl _ _⟩
    ·have m2 : decide ((5000 : Int) < (m : Int) + (c : Int)) = false := by simp; omega
     have m3 : decide (5000 < m + c) = false := by simpa using h7
     have HE : Hid (fewP ps = fewGo (ps.drop (k + 1)) (k + 1) (m + c)) := Lib.hid (by rw [HF2.out, if_neg (fun h => by omega)])
     have h8 : m + c ≤ 5000 := by omega
     clear h6 h7
     go_wp2_with fail
     go_roundw
     case rel => exact ⟨k + 1, m + c, by omega, h8, by go_num, by go_num, HE, by first | rfl | trivial⟩
     case measure => simp [intOf]; omega
  ·obtain rfl : k = ps.length := by omega
   have HE : Hid (fewP ps = true) := Lib.hid (by rw [HF.out, List.drop_length]; rfl)
   go_wp2_with fail
   go_ret
   exact ⟨by rw [HE.out]; rfl, Keep.refl _ _⟩
theorem ba_ext {a b : ByteArray} (h : a.toList = b.toList) : a = b := by
 rw [ByteArray.toList_eq, ByteArray.toList_eq] at h
 exact ByteArray.ext (Array.ext' h)
theorem ba_append (a b : ByteArray) : (a ++ b).toList = a.toList ++ b.toList := by
 rw [ByteArray.toList_eq, ByteArray.toList_eq, ByteArray.toList_eq, ByteArray.data_append, Array.toList_append]
theorem ba_seg (T : ByteArray) (i j : Nat) : (T.extract i j).toList = seg T.toList i j := by
 unfold seg
 rw [ByteArray.toList_eq, ByteArray.data_extract, Array.toList_extract, ByteArray.toList_eq]
end Go.Proofs.Ytkidjbfapldmbaa
