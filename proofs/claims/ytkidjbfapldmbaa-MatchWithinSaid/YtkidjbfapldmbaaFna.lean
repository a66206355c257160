/- Find of the program, in one; awake of chapter 12. -/
import Derived.Test.YtkidjbfapldmbaaFnm
import Derived.Test.YtkidjbfapldmbaaTheirs
import Derived.Deep.DeepCutAuto
namespace Go.Proofs.Ytkidjbfapldmbaa
set_option linter.unusedVariables false
set_option linter.unusedSimpArgs false
open Go.RowKit P8

def noneV : Value := .tuple #[.agg zeroFnd, .bool false, .int .i64 1]
noncomputable def findV (N : Nd) (T : ByteArray) (a : Int) (bd : Bool) : Value := if h : formedT N = true ∧ T.size ≤ 600 ∧ 0 ≤ a ∧ a ≤ T.size then findW (found T.toList bd N (formed_ok h.1) a.toNat) else noneV
theorem find_any (N : Nd) (hcn : count N ≤ 900000) (A : Option Addr) (cap : Nat) (T : ByteArray) (a : Int) (bd : Bool) (w : World) (hl : Lies w N (.slice A N.l.length cap)) :
    Calls Try.prog 41 #[.agg (Nd.row N (.slice A N.l.length cap)), .string T, .int .i64 a, .bool bd] w fun x w' => x = .returned (findV N T a bd) ∧ Keep Nb w w' := by
  by_cases hf : formedT N = true
  · by_cases h1 : T.size ≤ 600
    · by_cases h2 : 0 ≤ a
      · by_cases h3 : a ≤ T.size
        · rw [findV, dif_pos ⟨hf, h1, h2, h3⟩]
          obtain ⟨b, rfl⟩ : ∃ b : Nat, a = b := ⟨a.toNat, by omega⟩
          obtain ⟨k, hk⟩ := found_spec T.toList bd N (formed_ok hf) b
          rw [toList_len T] at hk
          exact find_seek N hcn A cap T b bd w hl hf h1 (by omega) k _ hk
        · rw [findV, dif_neg (fun h => h3 h.2.2.2)]
          exact find_far N hcn A cap T a bd w hl hf h1 (by omega) (by omega)
      · rw [findV, dif_neg (fun h => h2 h.2.2.1)]
        exact find_neg N hcn A cap T a bd w hl hf h1 (by omega)
    · rw [findV, dif_neg (fun h => h1 h.2.1)]
      exact find_long N hcn A cap T a bd w hl hf (by omega)
  · rw [findV, dif_neg (fun h => hf h.1)]
    exact find_shape N hcn A cap T a bd w hl (by simpa using hf)


/-! awake -/
def litNd : Nd := .mk ⟨1, 97, 0, 0, 0, 0, 0, 0, 0⟩ []
def awS : St := ⟨2, false, some (2, put noC 0 1 2)⟩
theorem aw_find : findS 3 (ByteArray.mk #[98, 97]).toList false litNd 3 0 ⟨0, false, none⟩ = some awS := by
  rw [show (ByteArray.mk #[98, 97]).toList = [98, 97] from by rw [ByteArray.toList_eq]]
  simp [findS, thr, tryS, fitsF, comeF, litNd, awS, Nd.h, Nd.l]
theorem formed_lit : formedT litNd = true := by simp [formedT, litNd, count, countL, deep, deepL, allT, allL, own, headOk, neededH, kidsOf, Nd.h, Nd.l, ownS]

theorem fnd_all (s : St) : (fndL s).toArray.all (·.oneCell') = true := by
  rw [List.all_toArray, List.all_eq_true]
  exact fnd_one s

set_option maxRecDepth 100000 in
set_option maxHeartbeats 1000000 in
theorem awake12 (w : World) : Calls Try.prog 40 #[] w fun e w' => e = .returned (.bool true) ∧ Keep Nb w w' := by
  have H1 := Lib.hid (fun wx => theirs_any 1 (by omega) litNd (by simp [litNd, count, countL]) (.slice none 0 0) wx (lies_nil wx _))
  have H2 := Lib.hid (fun A cap wx hl => find_seek litNd (by simp [litNd, count, countL]) A cap (ByteArray.mk #[98, 97]) 0 false wx hl formed_lit (by decide) (by decide) 3 awS aw_find)
  have e2 : findW awS = .tuple #[.agg (fndL awS).toArray, .bool true, .int .i64 0] := rfl
  go_enter Try.func40, Try.ntmps40
  go_wp2_with fail
  refine (H1.out _).mono ?_
  rintro e w2 ⟨S1, rfl, hB1, hk2⟩
  obtain ⟨A1, n1, rfl, _⟩ := LiesP_def.1 hB1
  have hl1 := LiesP_all hB1
  clear hB1 H1
  go_wp2_with fail
  refine (H2.out _ _ _ hl1).mono ?_
  rintro e w3 ⟨rfl, hk3⟩
  rw [e2]
  have hk := hk2.trans hk3 (fun _ _ h => h)
  clear hk2 hk3 hl1
  have z0 : Blk (w3.alloc (.cells zeroFnd 49)) w3.heap.size zeroFnd 49 := Blk.new w3 _ _
  have k0 : Keep Nb w (w3.alloc (.cells zeroFnd 49)) := Keep.alloc hk _
  have z1 : Blk ((w3.alloc (.cells zeroFnd 49)).setRow w3.heap.size (fndL awS).toArray) w3.heap.size (fndL awS).toArray 49 := z0.setRow _
  have k1 : Keep Nb w ((w3.alloc (.cells zeroFnd 49)).setRow w3.heap.size (fndL awS).toArray) := Keep.setRow k0 (Or.inl hk.size) _
  have c0 := z1.cell 0 (u := .complex .f64 (F 1) (F 2)) rfl
  have l0 := z1.lt
  dsimp only [zeroFnd] at c0 l0
  have H4 := Lib.hid z0
  have K1 := Lib.hid k1
  clear z0 k0 k1
  have one : (fndL awS).toArray.all (·.oneCell') = true := fnd_all awS
  have ONE := Lib.hid one
  clear one
  go_wp2_with (refine wpList_store_row rfl 49 (.tmp 1) (.tmp 8) rfl w3.heap.size _ rfl rfl 49 _ H4.out sizeFo rfl ONE.out ?_)
  go_ret
  exact ⟨rfl, K1.out⟩

end Go.Proofs.Ytkidjbfapldmbaa
