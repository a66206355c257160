/- awake of chapter 18. -/
import Derived.Test.YtkidjbfapldmbaaPv
namespace Go.Proofs.Ytkidjbfapldmbaa
set_option linter.unusedVariables false
set_option linter.unusedSimpArgs false
open Go.RowKit P8

theorem found_eq {L : List UInt8} {b : Bool} {n : Nd} {hn : okT n} {a k : Nat} {x : St} (h : findS k L b n (L.length + 1 - a) a ⟨0, false, none⟩ = some x) : found L b n hn a = x := by
  obtain ⟨k', hk'⟩ := found_spec L b n hn a
  have h1 := findS_more (Nat.le_max_left k k') _ _ _ _ h
  have h2 := findS_more (Nat.le_max_right k k') _ _ _ _ hk'
  rw [h1] at h2
  exact (Option.some.inj h2).symm

def banL : List UInt8 := [98, 97, 110, 97, 110, 97]
theorem ban0 : found banL false litNd (formed_ok formed_lit) 0 = ⟨2, false, some (2, Go.Proofs.Ytkidjbfapldmbaa.put noC 0 1 2)⟩ := found_eq (k := 3) (by simp [banL, findS, thr, tryS, fitsF, comeF, litNd, Nd.h, Nd.l])
theorem ban2 : found banL false litNd (formed_ok formed_lit) 2 = ⟨2, false, some (4, Go.Proofs.Ytkidjbfapldmbaa.put noC 0 3 4)⟩ := found_eq (k := 3) (by simp [banL, findS, thr, tryS, fitsF, comeF, litNd, Nd.h, Nd.l])
theorem ban4 : found banL false litNd (formed_ok formed_lit) 4 = ⟨2, false, some (6, Go.Proofs.Ytkidjbfapldmbaa.put noC 0 5 6)⟩ := found_eq (k := 3) (by simp [banL, findS, thr, tryS, fitsF, comeF, litNd, Nd.h, Nd.l])
theorem ban6 : found banL false litNd (formed_ok formed_lit) 6 = ⟨1, false, none⟩ := found_eq (k := 3) (by simp [banL, findS, thr, tryS, fitsF, litNd, Nd.h, Nd.l])

theorem ban_run : putS (found banL false litNd (formed_ok formed_lit)) banL (fillF banL []) 1 true 7 begP = some ⟨[98, 110, 110], 6, 6, 6, 3, 3⟩ := by
  have s1 : stepP banL (fillF banL []) 1 begP ⟨2, false, some (2, Go.Proofs.Ytkidjbfapldmbaa.put noC 0 1 2)⟩ 1 2 = ⟨[98], 2, 2, 2, 1, 1⟩ := by simp [stepP, begP, seg, banL, fillF]
  have s2 : stepP banL (fillF banL []) 1 ⟨[98], 2, 2, 2, 1, 1⟩ ⟨2, false, some (4, Go.Proofs.Ytkidjbfapldmbaa.put noC 0 3 4)⟩ 3 4 = ⟨[98, 110], 4, 4, 4, 2, 2⟩ := by simp [stepP, seg, banL, fillF]
  have s3 : stepP banL (fillF banL []) 1 ⟨[98, 110], 4, 4, 4, 2, 2⟩ ⟨2, false, some (6, Go.Proofs.Ytkidjbfapldmbaa.put noC 0 5 6)⟩ 5 6 = ⟨[98, 110, 110], 6, 6, 6, 3, 3⟩ := by simp [stepP, seg, banL, fillF]
  rw [putS_some (a := 1) (b := 2) ⟨by simp [begP], .inl rfl⟩ (by rw [show begP.pos = 0 from rfl, ban0]; simp [begP]) (by rw [show begP.pos = 0 from rfl, ban0]; rfl), show begP.pos = 0 from rfl, ban0, s1]
  rw [putS_some (a := 3) (b := 4) ⟨by simp [banL], .inl rfl⟩ (by rw [ban2]; simp) (by rw [ban2]; rfl), ban2, s2]
  rw [putS_some (a := 5) (b := 6) ⟨by simp [banL], .inl rfl⟩ (by rw [ban4]; simp) (by rw [ban4]; rfl), ban4, s3]
  rw [putS_none ⟨by simp [banL], .inl rfl⟩ (by rw [ban6]; simp) (by rw [ban6]; rfl)]

theorem ban_put : putV litNd [] 0 true (ByteArray.mk #[98, 97, 110, 97, 110, 97]) = .tuple #[.string ⟨#[98, 110, 110]⟩, .int .i64 3, .int .i64 0] := by
  have hL : (ByteArray.mk #[98, 97, 110, 97, 110, 97]).toList = banL := by rw [ByteArray.toList_eq]; rfl
  have hr : rightB litNd [] 0 (ByteArray.mk #[98, 97, 110, 97, 110, 97]) = true := by
    unfold rightB; rw [formed_lit]; rfl
  rw [putV, dif_pos hr, runV, hL, show (max (0 : Int) 1).toNat = 1 from rfl, show banL.length + 1 = 7 from rfl, ban_run]
  rfl

theorem noParts (w : World) : PartsAt w (.slice none 0 0) [] := ⟨none, 0, rfl, by simp, by unfold maxLen; omega, fun i h => by simp at h⟩

set_option maxRecDepth 100000 in
set_option maxHeartbeats 1000000 in
theorem awake18 (w : World) : Calls Try.prog 48 #[] w fun e w' => e = .returned (.bool true) ∧ Keep Nb w w' := by
  have H1 := Lib.hid (fun wx => theirs_any 1 (by omega) litNd (by simp [litNd, count, countL]) (.slice none 0 0) wx (lies_nil wx _))
  have H2 := Lib.hid (fun A cap wx hl => put_any litNd (by simp [litNd, count, countL]) A cap [] (by simp [sizeP]) (.slice none 0 0) 0 true (ByteArray.mk #[98, 97, 110, 97, 110, 97]) wx hl (noParts wx))
  go_enter Try.func48, Try.ntmps48
  go_wp2_with fail
  refine (H1.out _).mono ?_
  rintro e w2 ⟨S1, rfl, hB1, hk2⟩
  obtain ⟨A1, n1, rfl, _⟩ := LiesP_def.1 hB1
  have hl1 := LiesP_all hB1
  clear hB1 H1
  go_wp2_with fail
  refine (H2.out _ _ _ hl1).mono ?_
  rintro e w3 ⟨rfl, hk3⟩
  rw [ban_put]
  have HK := Lib.hid (hk2.trans hk3 (fun _ _ h => h))
  clear hk2 hk3 hl1
  go_wp2_with fail
  go_ret
  exact ⟨rfl, HK.out⟩

end Go.Proofs.Ytkidjbfapldmbaa
