import Derived.Test.YtkidjbfapldmbaaZRpq
set_option linter.unusedVariables false
set_option linter.unusedSimpArgs false
namespace Go.Proofs.Ytkidjbfapldmbaa
open Go.RowKit P8
set_option maxRecDepth 100000 in
set_option maxHeartbeats 4000000 in
theorem puts_false (N : Nd) (v : Value) (ps : List (Int × ByteArray)) (hsz : ∀ x ∈ ps, x.2.size ≤ 9223372036854775807) (A2 : Option Addr) (c2 : Nat) (nth : Int) (all : Bool) (T : ByteArray) (w : World) (hl : Lies w N v) (hp : PartsAt w (.slice A2 ps.length c2) ps) (hf : few N = false) :
  Calls Try.prog 49 #[.agg (Nd.row N v), .slice A2 ps.length c2, .int .i64 nth, .bool all, .string T] w fun e w' => e = .returned (.bool true) ∧ Keep Nb w w' := by
 have h1 := fun wx => few_any N v wx
 rw [hf] at h1
 have H1 := Lib.hid h1; clear h1 hf
 obtain ⟨A, cap, rfl, _⟩ := Lies_def.1 hl
 simp only [Nd.row]
 go_enter Try.func49, Try.ntmps49
 go_wp2_with fail
 refine (awake18 _).mono ?_
 rintro e w2 ⟨rfl, hk2⟩
 have hb1 : Blk w2 w.heap.size (Nd.row N (.slice A N.l.length cap)) 27 := (Blk.new w _ _).keep hk2 id
 have hk2' : Keep Nb w w2 := Keep.trans kp hk2 (fun _ _ h => h)
 (have o0 := Blk.cell hb1 0 (u := .int .i64 N.h.k) rfl; have o1 := Blk.cell hb1 1 (u := .int .u8 N.h.c) rfl; have o2 := Blk.cell hb1 2 (u := .int .u64 N.h.s0) rfl; have o3 := Blk.cell hb1 3 (u := .int .u64 N.h.s1) rfl; have o4 := Blk.cell hb1 4 (u := .int .u64 N.h.s2) rfl; have o5 := Blk.cell hb1 5 (u := .int .u64 N.h.s3) rfl; have o6 := Blk.cell hb1 6 (u := .int .i64 N.h.n) rfl; have o7 := Blk.cell hb1 7 (u := .int .i64 N.h.mn) rfl; have o8 := Blk.cell hb1 8 (u := .int .i64 N.h.mx) rfl; have o9 := Blk.cell hb1 9 (u := (.slice A N.l.length cap)) rfl)
 have lo := hb1.lt
 go_wp2_with fail
 refine (H1.out _ (Lies_keep hk2' hl)).mono ?_
 rintro e w3 ⟨rfl, hk3⟩
 have hb3 := hb1.keep hk3 (fun h => h)
 have hk3' := hk2'.trans hk3 (fun _ _ h => h)
 clear o0 o1 o2 o3 o4 o5 o6 o7 o8 o9 lo hb1 hk2 hk2' hk3
 go_wp2_with fail
 refine (awake18 _).mono ?_
 rintro e w4 ⟨rfl, hk4⟩
 go_wp2_with fail
 go_ret
 exact ⟨rfl, hk3'.trans hk4 (fun _ _ h => h)⟩
set_option maxRecDepth 100000 in
set_option maxHeartbeats 4000000 in
theorem puts_parts (N : Nd) (v : Value) (ps : List (Int × ByteArray)) (hsz : ∀ x ∈ ps, x.2.size ≤ 9223372036854775807) (A2 : Option Addr) (c2 : Nat) (nth : Int) (all : Bool) (T : ByteArray) (w : World) (hl : Lies w N v) (hp : PartsAt w (.slice A2 ps.length c2) ps) (hf : few N = true) (hfp : fewP ps = false) :
  Calls Try.prog 49 #[.agg (Nd.row N v), .slice A2 ps.length c2, .int .i64 nth, .bool all, .string T] w fun e w' => e = .returned (.bool true) ∧ Keep Nb w w' := by
 have h1 := fun wx => few_any N v wx
 rw [hf] at h1
 have H1 := Lib.hid h1; clear h1 hf
 obtain ⟨A, cap, rfl, _⟩ := Lies_def.1 hl
 have HPA := Lib.hid hp
 have HFW := Lib.hid (fun wx hx => few18_any ps hsz (.slice A2 ps.length c2) wx hx)
 have hFP := HFW.out
 rw [hfp] at hFP
 have HFP := Lib.hid hFP
 clear hFP HFW hp hfp
 simp only [Nd.row]
 go_enter Try.func49, Try.ntmps49
 go_wp2_with fail
 refine (awake18 _).mono ?_
 rintro e w2 ⟨rfl, hk2⟩
 have hb1 : Blk w2 w.heap.size (Nd.row N (.slice A N.l.length cap)) 27 := (Blk.new w _ _).keep hk2 id
 have hk2' : Keep Nb w w2 := Keep.trans kp hk2 (fun _ _ h => h)
 (have o0 := Blk.cell hb1 0 (u := .int .i64 N.h.k) rfl; have o1 := Blk.cell hb1 1 (u := .int .u8 N.h.c) rfl; have o2 := Blk.cell hb1 2 (u := .int .u64 N.h.s0) rfl; have o3 := Blk.cell hb1 3 (u := .int .u64 N.h.s1) rfl; have o4 := Blk.cell hb1 4 (u := .int .u64 N.h.s2) rfl; have o5 := Blk.cell hb1 5 (u := .int .u64 N.h.s3) rfl; have o6 := Blk.cell hb1 6 (u := .int .i64 N.h.n) rfl; have o7 := Blk.cell hb1 7 (u := .int .i64 N.h.mn) rfl; have o8 := Blk.cell hb1 8 (u := .int .i64 N.h.mx) rfl; have o9 := Blk.cell hb1 9 (u := (.slice A N.l.length cap)) rfl)
 have lo := hb1.lt
 go_wp2_with fail
 refine (H1.out _ (Lies_keep hk2' hl)).mono ?_
 rintro e w3 ⟨rfl, hk3⟩
 have hb3 := hb1.keep hk3 (fun h => h)
 have hk3' := hk2'.trans hk3 (fun _ _ h => h)
 clear o0 o1 o2 o3 o4 o5 o6 o7 o8 o9 lo hb1 hk2 hk2' hk3
 (have o0 := Blk.cell hb3 0 (u := .int .i64 N.h.k) rfl; have o1 := Blk.cell hb3 1 (u := .int .u8 N.h.c) rfl; have o2 := Blk.cell hb3 2 (u := .int .u64 N.h.s0) rfl; have o3 := Blk.cell hb3 3 (u := .int .u64 N.h.s1) rfl; have o4 := Blk.cell hb3 4 (u := .int .u64 N.h.s2) rfl; have o5 := Blk.cell hb3 5 (u := .int .u64 N.h.s3) rfl; have o6 := Blk.cell hb3 6 (u := .int .i64 N.h.n) rfl; have o7 := Blk.cell hb3 7 (u := .int .i64 N.h.mn) rfl; have o8 := Blk.cell hb3 8 (u := .int .i64 N.h.mx) rfl; have o9 := Blk.cell hb3 9 (u := (.slice A N.l.length cap)) rfl)
 have lo := hb3.lt
 clear o0 o1 o2 o3 o4 o5 o6 o7 o8 o9
 go_wp2_with fail
 refine (HFP.out _ (HPA.out.keep hk3' (fun _ _ h => h))).mono ?_
 rintro e w4 ⟨rfl, hk4⟩
 go_wp2_with fail
 refine (awake18 _).mono ?_
 rintro e w5 ⟨rfl, hk5⟩
 go_wp2_with fail
 go_ret
 exact ⟨rfl, (hk3'.trans hk4 (fun _ _ h => h)).trans hk5 (fun _ _ h => h)⟩
set_option maxRecDepth 100000 in
set_option maxHeartbeats 8000000 in
theorem puts_true (N : Nd) (v : Value) (ps : List (Int × ByteArray)) (hsz : ∀ x ∈ ps, x.2.size ≤ 9223372036854775807) (A2 : Option Addr) (c2 : Nat) (nth : Int) (all : Bool) (T : ByteArray) (w : World) (hl : Lies w N v) (hp : PartsAt w (.slice A2 ps.length c2) ps) (hf : few N = true) (hfp : fewP ps = true) :
  Calls Try.prog 49 #[.agg (Nd.row N v), .slice A2 ps.length c2, .int .i64 nth, .bool all, .string T] w fun e w' => e = .returned (.bool true) ∧ Keep Nb w w' := by
 obtain ⟨hps1, hps2⟩ := fewP_size hfp
 have h1 := fun wx => few_any N v wx
 have hcT := (few_count hf).1
 rw [hf] at h1
 have H1 := Lib.hid h1; clear h1 hf
 obtain ⟨A, cap, rfl, _⟩ := Lies_def.1 hl
 have HPA := Lib.hid hp
 have HFW := Lib.hid (fun wx hx => few18_any ps hsz (.slice A2 ps.length c2) wx hx)
 have hFP := HFW.out
 rw [hfp] at hFP
 have HFP := Lib.hid hFP
 obtain ⟨o, k, er, hput⟩ := putV_form N ps nth all T
 have HTH := Lib.hid (fun wx hx => theirs_any 400 (by omega) N (by omega) (.slice A N.l.length cap) wx hx)
 have hP := fun A1 n1 pv wx hx hp => put_any N (by omega) A1 n1 ps (by omega) pv nth all T wx hx hp
 have hR := fun A1 n1 pv wx hx hp => rput_any N (by omega) A1 n1 ps (by omega) pv nth all T wx hx hp
 rw [hput] at hP hR
 have HP := Lib.hid hP
 have HR := Lib.hid hR
 have HTP := Lib.hid (fun pv wx hp => theirparts_any ps (by omega) pv wx hp)
 have HL := Lib.hid hl
 clear hP hR hput hcT hFP HFW hp hfp hps1 hps2
 simp only [Nd.row]
 go_enter Try.func49, Try.ntmps49
 go_wp2_with fail
 refine (awake18 _).mono ?_
 rintro e w2 ⟨rfl, hk2⟩
 have hb1 : Blk w2 w.heap.size (Nd.row N (.slice A N.l.length cap)) 27 := (Blk.new w _ _).keep hk2 id
 have hk2' : Keep Nb w w2 := Keep.trans kp hk2 (fun _ _ h => h)
 (have o0 := Blk.cell hb1 0 (u := .int .i64 N.h.k) rfl; have o1 := Blk.cell hb1 1 (u := .int .u8 N.h.c) rfl; have o2 := Blk.cell hb1 2 (u := .int .u64 N.h.s0) rfl; have o3 := Blk.cell hb1 3 (u := .int .u64 N.h.s1) rfl; have o4 := Blk.cell hb1 4 (u := .int .u64 N.h.s2) rfl; have o5 := Blk.cell hb1 5 (u := .int .u64 N.h.s3) rfl; have o6 := Blk.cell hb1 6 (u := .int .i64 N.h.n) rfl; have o7 := Blk.cell hb1 7 (u := .int .i64 N.h.mn) rfl; have o8 := Blk.cell hb1 8 (u := .int .i64 N.h.mx) rfl; have o9 := Blk.cell hb1 9 (u := (.slice A N.l.length cap)) rfl)
 have lo := hb1.lt
 go_wp2_with fail
 refine (H1.out _ (Lies_keep hk2' hl)).mono ?_
 rintro e w3 ⟨rfl, hk3⟩
 have hb3 := hb1.keep hk3 (fun h => h)
 have hk3' := hk2'.trans hk3 (fun _ _ h => h)
 clear o0 o1 o2 o3 o4 o5 o6 o7 o8 o9 lo hb1 hk2 hk2' hk3
 (have o0 := Blk.cell hb3 0 (u := .int .i64 N.h.k) rfl; have o1 := Blk.cell hb3 1 (u := .int .u8 N.h.c) rfl; have o2 := Blk.cell hb3 2 (u := .int .u64 N.h.s0) rfl; have o3 := Blk.cell hb3 3 (u := .int .u64 N.h.s1) rfl; have o4 := Blk.cell hb3 4 (u := .int .u64 N.h.s2) rfl; have o5 := Blk.cell hb3 5 (u := .int .u64 N.h.s3) rfl; have o6 := Blk.cell hb3 6 (u := .int .i64 N.h.n) rfl; have o7 := Blk.cell hb3 7 (u := .int .i64 N.h.mn) rfl; have o8 := Blk.cell hb3 8 (u := .int .i64 N.h.mx) rfl; have o9 := Blk.cell hb3 9 (u := (.slice A N.l.length cap)) rfl)
 have lo := hb3.lt
 clear o0 o1 o2 o3 o4 o5 o6 o7 o8 o9
 go_wp2_with fail
 refine (HFP.out _ (HPA.out.keep hk3' (fun _ _ h => h))).mono ?_
 rintro e w3' ⟨rfl, hkp⟩
 replace hk3' := hk3'.trans hkp (fun _ _ h => h)
 replace hb3 := hb3.keep hkp (fun h => h)
 clear hkp lo
 (have o0 := Blk.cell hb3 0 (u := .int .i64 N.h.k) rfl; have o1 := Blk.cell hb3 1 (u := .int .u8 N.h.c) rfl; have o2 := Blk.cell hb3 2 (u := .int .u64 N.h.s0) rfl; have o3 := Blk.cell hb3 3 (u := .int .u64 N.h.s1) rfl; have o4 := Blk.cell hb3 4 (u := .int .u64 N.h.s2) rfl; have o5 := Blk.cell hb3 5 (u := .int .u64 N.h.s3) rfl; have o6 := Blk.cell hb3 6 (u := .int .i64 N.h.n) rfl; have o7 := Blk.cell hb3 7 (u := .int .i64 N.h.mn) rfl; have o8 := Blk.cell hb3 8 (u := .int .i64 N.h.mx) rfl; have o9 := Blk.cell hb3 9 (u := (.slice A N.l.length cap)) rfl)
 have lo := hb3.lt
 go_wp2_with fail
 refine (HTH.out _ (Lies_keep hk3' hl)).mono ?_
 rintro e w4 ⟨S1, rfl, hB1, hk4⟩
 obtain ⟨A1, n1, rfl, _⟩ := LiesP_def.1 hB1
 have HL4 := Lib.hid (LiesP_all hB1)
 have HK4 := Lib.hid (hk3'.trans hk4 (fun _ _ h => h))
 have HB4 := Lib.hid (hb3.keep hk4 (fun h => h))
 clear o0 o1 o2 o3 o4 o5 o6 o7 o8 o9 lo hb3 hk4 hk3' H1 hB1
 simp only [Nd.row]
 go_wp2_with fail
 refine (HTP.out _ w4 (HPA.out.keep HK4.out (fun _ _ h => h))).mono ?_
 rintro e w5 ⟨A6, c6, rfl, hp2, kd⟩
 have HP2 := Lib.hid hp2
 have HL5 := Lib.hid (Lies_keep kd HL4.out)
 have HB5 := Lib.hid (HB4.out.keep kd (fun h => h))
 have HK5 := Lib.hid (HK4.out.trans kd (fun _ _ h => h))
 clear hp2 kd HL4 HB4 HK4
 go_wp2_with fail
 refine (HP.out A1 n1 _ w5 HL5.out HP2.out).mono ?_
 rintro e w6 ⟨rfl, kd⟩
 have hb6 := HB5.out.keep kd (fun h => h)
 have HK6 := Lib.hid (HK5.out.trans kd (fun _ _ h => h))
 clear kd HB5 HK5 HL5 HP2
 (have o0 := Blk.cell hb6 0 (u := .int .i64 N.h.k) rfl; have o1 := Blk.cell hb6 1 (u := .int .u8 N.h.c) rfl; have o2 := Blk.cell hb6 2 (u := .int .u64 N.h.s0) rfl; have o3 := Blk.cell hb6 3 (u := .int .u64 N.h.s1) rfl; have o4 := Blk.cell hb6 4 (u := .int .u64 N.h.s2) rfl; have o5 := Blk.cell hb6 5 (u := .int .u64 N.h.s3) rfl; have o6 := Blk.cell hb6 6 (u := .int .i64 N.h.n) rfl; have o7 := Blk.cell hb6 7 (u := .int .i64 N.h.mn) rfl; have o8 := Blk.cell hb6 8 (u := .int .i64 N.h.mx) rfl; have o9 := Blk.cell hb6 9 (u := (.slice A N.l.length cap)) rfl)
 have lo := hb6.lt
 go_wp2_with fail
 refine (HR.out A cap _ w6 (Lies_keep HK6.out HL.out) (HPA.out.keep HK6.out (fun _ _ h => h))).mono ?_
 rintro e w7 ⟨rfl, kd⟩
 have HK7 := Lib.hid (HK6.out.trans kd (fun _ _ h => h))
 clear o0 o1 o2 o3 o4 o5 o6 o7 o8 o9 lo hb6 kd HK6
 go_wp2_with fail
 go_ret
 exact ⟨by simp, HK7.out⟩
theorem puts_any (N : Nd) (v : Value) (ps : List (Int × ByteArray)) (hsz : ∀ x ∈ ps, x.2.size ≤ 9223372036854775807) (A2 : Option Addr) (c2 : Nat) (nth : Int) (all : Bool) (T : ByteArray) (w : World) (hl : Lies w N v) (hp : PartsAt w (.slice A2 ps.length c2) ps) :
  Calls Try.prog 49 #[.agg (Nd.row N v), .slice A2 ps.length c2, .int .i64 nth, .bool all, .string T] w fun e w' => e = .returned (.bool true) ∧ Keep Nb w w' := by
 cases hf : few N with
 | false => exact puts_false N v ps hsz A2 c2 nth all T w hl hp hf
 | true =>
  cases hfp : fewP ps with
  | false => exact puts_parts N v ps hsz A2 c2 nth all T w hl hp hf hfp
  | true => exact puts_true N v ps hsz A2 c2 nth all T w hl hp hf hfp
end Go.Proofs.Ytkidjbfapldmbaa
