/- LexerPlays: whatever is asked, both readers answer alike. -/
import Derived.Test.YtilnccjdbdcklaaDoorDoa
import Derived.Test.YtilnccjdbdcklaaDoorOpAs
import Derived.Deep.MidRow
namespace Go.Proofs.YtilnccjdbdcklaaDoor
set_option linter.unusedVariables false
set_option linter.unusedSimpArgs false
open Go.RowKit

theorem load_ask (w : World) (b o : Nat) (k : Int) (d : UInt8) (m : Int) (h0 : w.cell? ⟨b, o, none⟩ = some (.int .u8 k)) (h1 : w.cell? ⟨b, o + 1, none⟩ = some (.int .u8 d.toNat)) (h2 : w.cell? ⟨b, o + 2, none⟩ = some (.int .i64 m)) :
    (Instr.loadAt 36 (.pointer (some ⟨b, o, none⟩))).run Tryd.prog w = .ok (.agg #[.int .u8 k, .int .u8 d.toNat, .int .i64 m]) w :=
  run_loadAt_mid (P := Tryd.prog) w b o 36 [.int .u8 k, .int .u8 d.toNat, .int .i64 m] _ (fun j v hv => by
    match j, hv with
    | 0, hv => simp at hv; subst hv; exact h0
    | 1, hv => simp at hv; subst hv; exact h1
    | 2, hv => simp at hv; subst hv; exact h2
    | j + 3, hv => simp at hv) Tryd.underlying36 rfl (by kernel_rfl)

set_option maxHeartbeats 4000000 in
set_option maxRecDepth 100000 in
theorem plays_any (s : ByteArray) (xs : List (Int × UInt8 × Int)) (v : Value) (w : World) (hm : Laid0 w) (hv : AsksAt w v xs) :
    Calls Tryd.prog 4 #[.string s, v] w fun e w' => e = .returned (.bool true) ∧ Keep Nb w w' := by
  have HV := Lib.hid hv
  have HM := Lib.hid hm
  obtain ⟨A2, cap2, rfl, hn1, hn2, hce⟩ := hv
  have hn3 : xs.length ≤ 9223372036854775807 := by unfold maxLen at hn2; omega
  clear hn1 hn2 hm
  clear hce
  go_enter Tryd.func4, Tryd.ntmps4
  go_wp2_with fail
  refine (awake_any w).mono ?_
  rintro e w2 ⟨rfl, hk2⟩
  have HK2 := Lib.hid hk2
  clear hk2
  by_cases h2 : 2000 < s.size ∨ 60 < xs.length
  · have hd : (decide ((2000 : Int) < (s.size : Int)) || decide ((60 : Int) < (xs.length : Int))) = true := by simp; omega
    by_cases h3 : 2000 < s.size
    · have m1 : decide (2000 < s.size) = true := decide_eq_true h3
      have m2 : decide ((2000 : Int) < (s.size : Int)) = true := decide_eq_true (by omega)
      clear hd h2 h3
      go_wp2_with fail
      refine (awake_any w2).mono ?_
      rintro e w3 ⟨rfl, hk3⟩
      go_wp2_with fail
      go_ret
      exact ⟨rfl, HK2.out.trans hk3 (fun _ _ h => h)⟩
    · have m1 : decide (2000 < s.size) = false := decide_eq_false h3
      have m2 : decide ((2000 : Int) < (s.size : Int)) = false := decide_eq_false (by omega)
      have h4 : 60 < xs.length := by omega
      have m3 : decide (60 < xs.length) = true := decide_eq_true h4
      have m4 : decide ((60 : Int) < (xs.length : Int)) = true := decide_eq_true (by omega)
      clear hd h2 h3 h4
      go_wp2_with fail
      refine (awake_any w2).mono ?_
      rintro e w3 ⟨rfl, hk3⟩
      go_wp2_with fail
      go_ret
      exact ⟨rfl, HK2.out.trans hk3 (fun _ _ h => h)⟩
  have hz : s.size ≤ 1000000 := by omega
  have m1 : decide (2000 < s.size) = false := decide_eq_false (by omega)
  have m2 : decide ((2000 : Int) < (s.size : Int)) = false := decide_eq_false (by omega)
  have m3 : decide (60 < xs.length) = false := decide_eq_false (by omega)
  have m4 : decide ((60 : Int) < (xs.length : Int)) = false := decide_eq_false (by omega)
  clear h2
  go_wp2_with fail
  refine (new_any s w2).mono ?_
  rintro e w3 ⟨p, rfl, hp, hb3, hk3⟩
  have HK3 := Lib.hid (HK2.out.trans hk3 (fun _ _ h => h))
  have HP : Hid (w.heap.size ≤ p) := Lib.hid (by have := HK2.out.size; omega)
  have HB3 := Lib.hid hb3
  clear hb3 hk3 hp m1 m2 m3 m4
  have HQ : Hid (RAt (w3.alloc (.cells #[.string s, .int .i64 0] 33)) w3.heap.size s 0) := Lib.hid (Blk.new w3 _ _)
  have HKQ : Hid (Keep Nb w3 (w3.alloc (.cells #[.string s, .int .i64 0] 33))) := Lib.hid (Keep.alloc (Keep.refl _ _) _)
  have HT0 : Hid (Two p w3.heap.size s 0 0 (w3.alloc (.cells #[.string s, .int .i64 0] 33)) ∧ Keep Nb w (w3.alloc (.cells #[.string s, .int .i64 0] 33))) := Lib.hid
    ⟨⟨HB3.out.alloc _, HQ.out, HM.out.keep (HK3.out.trans HKQ.out (fun _ _ h => h)) id, by have := HB3.out.lt; omega, by have := HP.out; have := HM.out.pos; omega, by have := HK3.out.size; have := HM.out.pos; omega⟩, HK3.out.trans HKQ.out (fun _ _ h => h)⟩
  have HG : Hid (w.heap.size ≤ w3.heap.size) := Lib.hid HK3.out.size
  go_wp2_with fail
  generalize w3.heap.size = q at HT0 HG ⊢
  clear HK2 HK3 HB3 HQ HKQ
  go_loopw [28] (fun x28 wr => ∃ (i a : Nat), i ≤ xs.length ∧ a ≤ s.size ∧ x28 = .int .i64 (i : Int) ∧ Hid (Two p q s a a wr ∧ Keep Nb w wr)) (fun x28 _ => xs.length - (intOf x28).toNat)
  case atStart => exact ⟨0, 0, Nat.zero_le _, Nat.zero_le _, rfl, HT0⟩
  case round =>
    clear HT0
    obtain ⟨i, a, hi, ha, rfl, HR⟩ := hrel
    rcases Nat.lt_or_ge i xs.length with hlt | hge
    · obtain ⟨_, _, e1, _, _, hce⟩ := HV.out.keep HR.out.2 (fun _ _ h => h)
      obtain ⟨b, off, e2, h0, h1, h2⟩ := hce i hlt
      clear hce
      have HAS : Hid (∃ b off, A2 = some ⟨b, off, none⟩ ∧ wr.cell? ⟨b, off + i * 3, none⟩ = some (.int .u8 xs[i].1) ∧ wr.cell? ⟨b, off + i * 3 + 1, none⟩ = some (.int .u8 xs[i].2.1.toNat) ∧ wr.cell? ⟨b, off + i * 3 + 2, none⟩ = some (.int .i64 xs[i].2.2)) := Lib.hid ⟨b, off, by injection e1 with e3; rw [e3, e2], h0, h1, h2⟩
      clear e1 e2 h0 h1 h2
      obtain ⟨b, off, rfl, h0, h1, h2⟩ := HAS.out
      generalize xs[i] = x at h0 h1 h2
      obtain ⟨k, d, m⟩ := x
      have hld := load_ask wr b (off + i * 3) k d m h0 h1 h2
      have HDO := Lib.hid (do_any p q s a hz ha k m d wr HR.out.1)
      simp only [askRow] at HDO
      clear HAS hld
      have z0 : off + i * 3 + 0 = off + i * 3 := rfl
      go_wp2_with fail
      refine HDO.out.mono ?_
      rintro e w5 ⟨rfl, ⟨a', ha', ht⟩, hk5⟩
      have HT5 : Hid (Two p q s a' a' w5 ∧ Keep Nb w w5) := Lib.hid ⟨ht, HR.out.2.trans hk5 (fun b hb h => by rcases h with h | h <;> (have := HP.out; have := HG.out; omega))⟩
      clear ht hk5 HDO
      go_wp2_with fail
      go_roundw
      case rel => exact ⟨i + 1, a', by omega, ha', by go_num, HT5⟩
      case measure => simp [intOf]; omega
    · obtain rfl : i = xs.length := by omega
      have c1 := HR.out.1.rq.cell 1 (u := .int .i64 (a : Int)) rfl
      have lq := HR.out.1.rq.lt
      go_wp2_with fail
      refine wp_region_x (by kernel_rfl) (by kernel_rfl) ?_; (repeat (go_big_quiet_step (((go_at_call 10; exact Calls.ext _ (at_any p s a _ (HR.out.1.keep (Ext.property _)).lp)))))); refine wpQuiet_nil ?_; rintro w9 ⟨⟨_, hk9⟩, rfl⟩
      go_wp2_with fail
      go_ret
      exact ⟨by simp, HR.out.2.trans hk9 (fun _ _ h => h)⟩

end Go.Proofs.YtilnccjdbdcklaaDoor
