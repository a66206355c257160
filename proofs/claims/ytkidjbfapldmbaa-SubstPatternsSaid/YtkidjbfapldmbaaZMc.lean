import Derived.Test.YtkidjbfapldmbaaZMf
import Derived.Test.YtkidjbfapldmbaaZBase
import Derived.Deep.MidRow
set_option linter.unusedVariables false
set_option linter.unusedSimpArgs false
namespace Go.Proofs.Ytkidjbfapldmbaa
open Go.RowKit P8
def grpV : Option (Nat × Nat) → Value
 | none => .complex .f64 0 0
 | some (a, b) => .complex .f64 (F a) (F b)
theorem grpV_one (o : Option (Nat × Nat)) : (grpV o).oneCell' = true := by cases o <;> rfl
@[go_sem] theorem run_store_complex (P : Program) (w : World) (a : Addr) (k : FloatKind) (x y : Nat) (m : Mode) : (store a (.complex k x y) m).run P w = stored P w a (.complex k x y) m := run_store P w a _ m rfl
@[go_sem] theorem run_store_grp (P : Program) (w : World) (a : Addr) (o : Option (Nat × Nat)) (m : Mode) : (store a (grpV o) m).run P w = stored P w a (grpV o) m := run_store P w a _ m (grpV_one o)
def hasV (o : Option (Nat × Nat)) : Value := .bool o.isSome
def bestC (s : St) : Caps := match s.best with
 | none => fun _ => none
 | some (_, c) => c
def fRow (T : ByteArray) (e : Env) (s : St) (c : Caps) : Array Value :=
 #[.string T, .bool e.bound, .int .i64 (s.tries : Int), .bool s.over, .int .i64 (e.start : Int), .bool s.best.isSome, grpV (bestC s 0), grpV (bestC s 0), grpV (bestC s 1), grpV (bestC s 2), grpV (bestC s 3), grpV (bestC s 4), grpV (bestC s 5), grpV (bestC s 6), grpV (bestC s 7), grpV (bestC s 8), grpV (bestC s 9), hasV (bestC s 0), hasV (bestC s 1), hasV (bestC s 2), hasV (bestC s 3), hasV (bestC s 4), hasV (bestC s 5), hasV (bestC s 6), hasV (bestC s 7), hasV (bestC s 8), hasV (bestC s 9), .int .i64 0, .complex .f64 0 0, grpV (c 0), grpV (c 1), grpV (c 2), grpV (c 3), grpV (c 4), grpV (c 5), grpV (c 6), grpV (c 7), grpV (c 8), grpV (c 9), hasV (c 0), hasV (c 1), hasV (c 2), hasV (c 3), hasV (c 4), hasV (c 5), hasV (c 6), hasV (c 7), hasV (c 8), hasV (c 9), .int .i64 0]
theorem Blk.range {w : World} {b : Nat} {cs : Array Value} {t : TypeId} (h : Blk w b cs t) (o n : Nat) : w.rangeAt b o ((cs.toList.drop o).take n) := fun j v hv => h.cell (o + j) (by
 rw [List.getElem?_take] at hv
 split at hv
 ·rw [List.getElem?_drop] at hv
  simpa using hv
 ·cases hv)
theorem Blk.there {w : World} {b : Nat} {cs : Array Value} {t : TypeId} (h : Blk w b cs t) (o n : Nat) (hn : o + n ≤ cs.size) : w.there b o n := fun j hj => by
 have h1 := h.cell (o + j) (u := cs[o + j]) (Array.getElem?_eq_getElem (by omega))
 exact ⟨by rw [h1]; rfl, h.frozen _⟩
def setA : Array Value → Nat → List Value → Array Value
 | cs, _, [] => cs
 | cs, o, v :: r => setA (cs.setIfInBounds o v) (o + 1) r
theorem Blk.setCells {b : Nat} {t : TypeId} : ∀ (vs : List Value) (o : Nat) (w : World) (cs : Array Value), Blk w b cs t → Blk (w.setCells b o vs) b (setA cs o vs) t
 | [], _, _, _, h => h
 | v :: r, o, w, cs, h => by
  rw [World.setCells, setA]
  exact Blk.setCells r (o + 1) _ _ (h.set o v)
theorem Keep.setCells {X : Nat → Prop} {a : World} {g : Nat} (hp : a.heap.size ≤ g ∨ X g) : ∀ (vs : List Value) (o : Nat) (w : World), Keep X a w → Keep X a (w.setCells g o vs)
 | [], _, _, h => h
 | v :: r, o, w, h => by
  rw [World.setCells]
  exact Keep.setCells hp r (o + 1) _ (Keep.setCell h (p := ⟨g, o, none⟩) hp v)
structure StOk (e : Env) (s : St) : Prop where
 tries : s.tries ≤ 3000
 best : ∀ q c, s.best = some (q, c) → q ≤ e.L.length ∧ c 0 = some (e.start, q)
abbrev FAt (w : World) (p : Nat) (T : ByteArray) (e : Env) (s : St) (c : Caps) : Prop := Blk w p (fRow T e s c) 103
set_option maxRecDepth 100000 in
theorem try_any (p : Nat) (T : ByteArray) (e : Env) (s : St) (c : Caps) (w : World) (ho : s.over = false) (ht : s.tries ≤ 3000) (hb : FAt w p T e s c) :
  Calls Try.prog 101 #[.pointer (some ⟨p, 0, none⟩)] w fun x w' => x = .returned (.bool (tryS s).2) ∧ FAt w' p T e (tryS s).1 c ∧ Keep (Ob p) w w' := by
 have c2 := hb.cell 2 (u := .int .i64 (s.tries : Int)) rfl
 have c3 := hb.cell 3 (u := .bool s.over) rfl
 have f2 := hb.frozen 2
 have f3 := hb.frozen 3
 have hl := hb.lt
 rw [ho] at c3
 rcases tryS_cases s with ⟨h1, h2⟩ | ⟨h1, h2⟩
 ·rw [h2]
  have b1 := Lib.hid (hb.set 3 (.bool true))
  have k1 := Lib.hid (Keep.setOb w p 3 (.bool true))
  rw [h1] at c2
  clear h1 h2 hb
  go_enter Try.func101, Try.ntmps101
  go_wp2_with fail
  go_ret
  exact ⟨rfl, b1.out, k1.out⟩
 ·rw [h2]
  have hx : wrap64 ((s.tries : Int) + 1) = (s.tries : Int) + 1 := by unfold wrap64; omega
  have m1 : ((s.tries : Int) == 3000) = false := beq_eq_false_iff_ne.2 (by omega)
  have m2 : ¬ ((s.tries : Int) = 3000) := by omega
  have b1 := Lib.hid (show FAt (w.setCell ⟨p, 2, none⟩ (.int .i64 ((s.tries : Int) + 1))) p T e { s with tries := s.tries + 1 } c from hb.set 2 (.int .i64 ((s.tries : Int) + 1)))
  have k1 := Lib.hid (Keep.setOb w p 2 (.int .i64 ((s.tries : Int) + 1)))
  clear h1 h2 hb
  go_enter Try.func101, Try.ntmps101
  go_wp2_with fail
  go_ret
  exact ⟨rfl, b1.out, k1.out⟩
def nowL (c : Caps) : List Value := [.complex .f64 0 0, grpV (c 0), grpV (c 1), grpV (c 2), grpV (c 3), grpV (c 4), grpV (c 5), grpV (c 6), grpV (c 7), grpV (c 8), grpV (c 9), hasV (c 0), hasV (c 1), hasV (c 2), hasV (c 3), hasV (c 4), hasV (c 5), hasV (c 6), hasV (c 7), hasV (c 8), hasV (c 9), .int .i64 0]
def mid (T : ByteArray) (e : Env) (s : St) (c : Caps) : Array Value :=
 #[.string T, .bool e.bound, .int .i64 (s.tries : Int), .bool s.over, .int .i64 (e.start : Int), .bool true, .complex .f64 0 0, grpV (c 0), grpV (c 1), grpV (c 2), grpV (c 3), grpV (c 4), grpV (c 5), grpV (c 6), grpV (c 7), grpV (c 8), grpV (c 9), hasV (c 0), hasV (c 1), hasV (c 2), hasV (c 3), hasV (c 4), hasV (c 5), hasV (c 6), hasV (c 7), hasV (c 8), hasV (c 9), .int .i64 0, .complex .f64 0 0, grpV (c 0), grpV (c 1), grpV (c 2), grpV (c 3), grpV (c 4), grpV (c 5), grpV (c 6), grpV (c 7), grpV (c 8), grpV (c 9), hasV (c 0), hasV (c 1), hasV (c 2), hasV (c 3), hasV (c 4), hasV (c 5), hasV (c 6), hasV (c 7), hasV (c 8), hasV (c 9), .int .i64 0]
theorem mid_eq (T : ByteArray) (e : Env) (s : St) (c : Caps) : setA ((fRow T e s c).setIfInBounds 5 (.bool true)) 6 (nowL c) = mid T e s c := by
 simp only [setA, fRow, nowL, mid, List.setIfInBounds_toArray, List.set_cons_zero, List.set_cons_succ]
theorem end_eq (T : ByteArray) (e : Env) (tr : Nat) (ov : Bool) (be : Option (Nat × Caps)) (c : Caps) (q : Nat) : (((mid T e ⟨tr, ov, be⟩ c).setIfInBounds 6 (.complex .f64 (F e.start) (F q))).setIfInBounds 7 (.complex .f64 (F e.start) (F q))).setIfInBounds 17 (.bool true) = fRow T e ⟨tr, ov, some (q, put c 0 e.start q)⟩ c := by
 simp only [mid, fRow, bestC, put, grpV, hasV, List.setIfInBounds_toArray, List.set_cons_zero, List.set_cons_succ]
 simp [grpV]
theorem now_one (c : Caps) : ∀ v ∈ nowL c, v.oneCell' = true := by
 simp only [nowL, List.forall_mem_cons]
 exact ⟨rfl, grpV_one _, grpV_one _, grpV_one _, grpV_one _, grpV_one _, grpV_one _, grpV_one _, grpV_one _, grpV_one _, grpV_one _, rfl, rfl, rfl, rfl, rfl, rfl, rfl, rfl, rfl, rfl, rfl, fun _ h => by cases h⟩
set_option maxRecDepth 100000 in
set_option maxHeartbeats 1000000 in
theorem come_any (p : Nat) (T : ByteArray) (e : Env) (s : St) (c : Caps) (q : Nat) (w : World) (hT : T.toList = e.L) (h6 : e.L.length ≤ 600) (hq : q ≤ e.L.length) (h7 : e.start ≤ 600) (hs : StOk e s) (hb : FAt w p T e s c) :
  Calls Try.prog 84 #[.pointer (some ⟨p, 0, none⟩), .int .i64 (q : Int)] w fun x w' => x = .returned (.tuple #[]) ∧ FAt w' p T e (comeF e q c s) c ∧ Keep (Ob p) w w' := by
 have c5 := hb.cell 5 (u := .bool s.best.isSome) rfl
 have c6 := hb.cell 6 (u := grpV (bestC s 0)) rfl
 have f5 := hb.frozen 5
 have hl := hb.lt
 have hbest := hs.best
 obtain ⟨tr, ov, be⟩ := s
 have key : ¬ (∃ r B, be = some (r, B) ∧ q ≤ r) → Calls Try.prog 84 #[.pointer (some ⟨p, 0, none⟩), .int .i64 (q : Int)] w fun x w' => x = .returned (.tuple #[]) ∧ FAt w' p T e ⟨tr, ov, some (q, put c 0 e.start q)⟩ c ∧ Keep (Ob p) w w' := by
  intro hno
  obtain ⟨be0, hbe0⟩ : ∃ b, b = be := ⟨_, rfl⟩
  obtain ⟨hst, hL⟩ : e.start < 701 ∧ q < 701 := ⟨by have := h7; omega, by omega⟩
  have HSP := Lib.hid (fun wx => span_any e.start q wx)
  have c28 := Lib.hid (show w.rangeAt p 28 (nowL c) from hb.range 28 22)
  have b1 : Blk (w.setCell ⟨p, 5, none⟩ (.bool true)) p ((fRow T e ⟨tr, ov, be⟩ c).setIfInBounds 5 (.bool true)) 103 := hb.set 5 (.bool true)
  have k1 : Keep (Ob p) w (w.setCell ⟨p, 5, none⟩ (.bool true)) := Keep.setOb w p 5 _
  have t1 : (w.setCell ⟨p, 5, none⟩ (.bool true)).there p 6 (nowL c).toArray.size := by
   have := b1.there 6 22 (by simp [fRow])
   exact this
  have b2 : Blk ((w.setCell ⟨p, 5, none⟩ (.bool true)).setCells p 6 (nowL c)) p (mid T e ⟨tr, ov, be⟩ c) 103 := mid_eq T e ⟨tr, ov, be⟩ c ▸ Blk.setCells (nowL c) 6 _ _ b1
  have k2 : Keep (Ob p) w ((w.setCell ⟨p, 5, none⟩ (.bool true)).setCells p 6 (nowL c)) := Keep.setCells (X := Ob p) (a := w) (g := p) (Or.inr rfl) (nowL c) 6 _ k1
  have T1 := Lib.hid t1
  have B2 := Lib.hid b2
  have K2 := Lib.hid k2
  clear b1 k1 t1 b2 k2 hb
  cases be with
  | none =>
   have c5' : w.cell? ⟨p, 5, none⟩ = some (.bool false) := c5
   clear c5 c6 hno hs hbest
   go_enter Try.func84, Try.ntmps84
   go_wp2_with (first
    | (refine wpList_load_mid rfl 49 (.tmp 23) rfl p 28 rfl (nowL c) _ c28.out Try.underlying49 rfl (by kernel_rfl) ?_)
    | (refine wpList_store_mid rfl 49 (.tmp 28) (.tmp 24) rfl p 6 (nowL c).toArray rfl rfl T1.out (by kernel_rfl) (all_oneCell_toArray (now_one c)) ?_; rw [List.toList_toArray]; generalize (w.setCell ⟨p, 5, none⟩ (.bool true)).setCells p 6 (nowL c) = w2 at B2 K2 ⊢; have b2 := B2.out; have d4 := b2.cell 4 (u := .int .i64 (e.start : Int)) rfl; have d6 := b2.cell 6 (u := .complex .f64 0 0) rfl; have d7 := b2.frozen 6; have l2 := b2.lt; clear b2))
   refine (HSP.out _).mono ?_
   rintro x w3 ⟨rfl, rfl⟩
   have B3 := Lib.hid (B2.out.set 6 (.complex .f64 (F e.start) (F q)))
   have K3 := Lib.hid (Keep.setCell (p := ⟨p, 6, none⟩) K2.out (Or.inr rfl) (.complex .f64 (F e.start) (F q)))
   clear B2 K2
   go_wp2_with fail
   generalize w2.setCell ⟨p, 6, none⟩ (.complex .f64 (F e.start) (F q)) = w3 at B3 K3 ⊢
   clear d4 d6 d7 l2 T1 c28 f5 c5'
   have b3 := B3.out
   have l3 := b3.lt
   (refine wp_region_f [] (InX (Ob p) _) (by kernel_rfl) (InX.mk (Keep.drew (Keep.refl _ _))) (fun hI => ?_))
   have xx : True := trivial
   have hK0 : Keep (Ob p) w3 w3.drew := (Keep.refl _ _).drew
   have bX := b3.drew
   generalize w3.drew = x0 at hK0 hI bX ⊢
   have d6 := bX.cell 6 (u := .complex .f64 (F e.start) (F q)) rfl
   have d7 := bX.cell 7 (u := grpV (c 0)) rfl
   have e7 := bX.frozen 7
   have d17 := bX.cell 17 (u := hasV (c 0)) rfl
   have e17 := bX.frozen 17
   have lX := bX.lt
   (refine wpI_from 0 ?_; (iterate 6 ((first | (refine wpI_take (v := ?_) rfl (by kernel_rfl) (fun _ _ _ h => h) hI rfl ?_ ?_; rotate_left; (focus (rintro _ ⟨E, rfl⟩; go_simp; (try with_reducible rfl)))) | refine wpI_skip rfl (by kernel_rfl) (fun _ _ _ h => h) hI rfl ?_); simp only [Act.put, tk, Nat.reduceAdd])); refine wpI_till ?_)
   (refine wpI_from 7 ?_; (iterate 3 ((first | (refine wpI_take (v := ?_) rfl (by kernel_rfl) (fun _ _ _ h => h) hI rfl ?_ ?_; rotate_left; (focus (rintro _ ⟨E, rfl⟩; go_simp; (try with_reducible rfl)))) | refine wpI_skip rfl (by kernel_rfl) (fun _ _ _ h => h) hI rfl ?_); simp only [Act.put, tk, Nat.reduceAdd])); refine wpI_till ?_)
   (refine wpI_from 12 ?_; (iterate 3 ((first | (refine wpI_take (v := ?_) rfl (by kernel_rfl) (fun _ _ _ h => h) hI rfl ?_ ?_; rotate_left; (focus (rintro _ ⟨E, rfl⟩; go_simp; (try with_reducible rfl)))) | refine wpI_skip rfl (by kernel_rfl) (fun _ _ _ h => h) hI rfl ?_); simp only [Act.put, tk, Nat.reduceAdd])); refine wpI_till ?_)
   (refine wpF_one 6 rfl (by kernel_rfl) rfl (fun K hK => ?_))
   go_simp
   (refine hK _ _ (fun _ => InX.mk hK0) (fun hI => ?_); have hI := hI (by simp); clear hK K; try simp only [Act.put, tk])
   (refine wpF_take2 (v := ?_) 10 rfl (by kernel_rfl) (fun _ _ _ h => h) hI rfl ?_ ?_; rotate_left; (focus (rintro _ ⟨E, rfl⟩; go_simp; (try with_reducible rfl))); simp only [Act.put, tk])
   (refine wpF_one 11 rfl (by kernel_rfl) rfl (fun K hK => ?_))
   have bX1 := Lib.hid (bX.set 7 (.complex .f64 (F e.start) (F q)))
   have KX1 := Lib.hid (Keep.setCell (p := ⟨p, 7, none⟩) hK0 (Or.inr rfl) (.complex .f64 (F e.start) (F q)))
   clear bX
   go_simp
   generalize x0.setCell ⟨p, 7, none⟩ (.complex .f64 (F e.start) (F q)) = x1 at bX1 KX1 ⊢
   clear d6 d7 e7 d17 e17 lX hK0
   have bX := bX1.out
   have hK0 := KX1.out
   have d17 := bX.cell 17 (u := hasV (c 0)) rfl
   have e17 := bX.frozen 17
   have lX := bX.lt
   (refine hK _ _ (fun _ => InX.mk hK0) (fun hI => ?_); have hI := hI (by simp); clear hK K; try simp only [Act.put, tk])
   (refine wpF_take2 (v := ?_) 15 rfl (by kernel_rfl) (fun _ _ _ h => h) hI rfl ?_ ?_; rotate_left; (focus (rintro _ ⟨E, rfl⟩; go_simp; (try with_reducible rfl))); simp only [Act.put, tk])
   (refine wpF_one 16 rfl (by kernel_rfl) rfl (fun K hK => ?_))
   have BX2 := Lib.hid (bX.set 17 (.bool true))
   have KX2 := Lib.hid (Keep.setCell (p := ⟨p, 17, none⟩) hK0 (Or.inr rfl) (.bool true))
   go_simp
   generalize x1.setCell ⟨p, 17, none⟩ (.bool true) = x2 at BX2 KX2 ⊢
   (refine hK _ _ (fun _ => InX.mk KX2.out) (fun hI => ?_); have hI := hI (by simp); clear hK K; try simp only [Act.put, tk])
   (refine wpF_done (by kernel_rfl) ?_ _)
   go_wp2_with fail
   go_end0
   have bx2 := BX2.out
   rw [end_eq] at bx2
   exact ⟨rfl, bx2, K3.out.trans KX2.out (fun _ _ h => h)⟩
  | some rB =>
   obtain ⟨r, B⟩ := rB
   have hB := hbest r B rfl
   have hlt : r < q := by
    rcases Nat.lt_or_ge r q with h | h
    ·exact h
    ·exact absurd ⟨r, B, rfl, h⟩ hno
   rw [show bestC (⟨tr, ov, some (r, B)⟩ : St) 0 = some (e.start, r) from hB.2] at c6
   have c6' : w.cell? ⟨p, 6, none⟩ = some (.complex .f64 (F e.start) (F r)) := c6
   have hv := fun wx => F_back (a := r) (by omega) wx
   have m1 : decide ((q : Int) ≤ (r : Int)) = false := by simp; omega
   have m2 : decide (q ≤ r) = false := by simp; omega
   have c5' : w.cell? ⟨p, 5, none⟩ = some (.bool true) := c5
   clear c5 c6 hno hs hbest hlt
   go_enter Try.func84, Try.ntmps84
   go_wp2_with (first
    | (refine wpList_load_mid rfl 49 (.tmp 23) rfl p 28 rfl (nowL c) _ c28.out Try.underlying49 rfl (by kernel_rfl) ?_)
    | (refine wpList_store_mid rfl 49 (.tmp 28) (.tmp 24) rfl p 6 (nowL c).toArray rfl rfl T1.out (by kernel_rfl) (all_oneCell_toArray (now_one c)) ?_; rw [List.toList_toArray]; generalize (w.setCell ⟨p, 5, none⟩ (.bool true)).setCells p 6 (nowL c) = w2 at B2 K2 ⊢; have b2 := B2.out; have d4 := b2.cell 4 (u := .int .i64 (e.start : Int)) rfl; have d6 := b2.cell 6 (u := .complex .f64 0 0) rfl; have d7 := b2.frozen 6; have l2 := b2.lt; clear b2))
   refine (HSP.out _).mono ?_
   rintro x w3 ⟨rfl, rfl⟩
   have B3 := Lib.hid (B2.out.set 6 (.complex .f64 (F e.start) (F q)))
   have K3 := Lib.hid (Keep.setCell (p := ⟨p, 6, none⟩) K2.out (Or.inr rfl) (.complex .f64 (F e.start) (F q)))
   clear B2 K2
   go_wp2_with fail
   generalize w2.setCell ⟨p, 6, none⟩ (.complex .f64 (F e.start) (F q)) = w3 at B3 K3 ⊢
   clear d4 d6 d7 l2 T1 c28 f5 c5'
   have b3 := B3.out
   have l3 := b3.lt
   (refine wp_region_f [] (InX (Ob p) _) (by kernel_rfl) (InX.mk (Keep.drew (Keep.refl _ _))) (fun hI => ?_))
   have xx : True := trivial
   have hK0 : Keep (Ob p) w3 w3.drew := (Keep.refl _ _).drew
   have bX := b3.drew
   generalize w3.drew = x0 at hK0 hI bX ⊢
   have d6 := bX.cell 6 (u := .complex .f64 (F e.start) (F q)) rfl
   have d7 := bX.cell 7 (u := grpV (c 0)) rfl
   have e7 := bX.frozen 7
   have d17 := bX.cell 17 (u := hasV (c 0)) rfl
   have e17 := bX.frozen 17
   have lX := bX.lt
   (refine wpI_from 0 ?_; (iterate 6 ((first | (refine wpI_take (v := ?_) rfl (by kernel_rfl) (fun _ _ _ h => h) hI rfl ?_ ?_; rotate_left; (focus (rintro _ ⟨E, rfl⟩; go_simp; (try with_reducible rfl)))) | refine wpI_skip rfl (by kernel_rfl) (fun _ _ _ h => h) hI rfl ?_); simp only [Act.put, tk, Nat.reduceAdd])); refine wpI_till ?_)
   (refine wpI_from 7 ?_; (iterate 3 ((first | (refine wpI_take (v := ?_) rfl (by kernel_rfl) (fun _ _ _ h => h) hI rfl ?_ ?_; rotate_left; (focus (rintro _ ⟨E, rfl⟩; go_simp; (try with_reducible rfl)))) | refine wpI_skip rfl (by kernel_rfl) (fun _ _ _ h => h) hI rfl ?_); simp only [Act.put, tk, Nat.reduceAdd])); refine wpI_till ?_)
   (refine wpI_from 12 ?_; (iterate 3 ((first | (refine wpI_take (v := ?_) rfl (by kernel_rfl) (fun _ _ _ h => h) hI rfl ?_ ?_; rotate_left; (focus (rintro _ ⟨E, rfl⟩; go_simp; (try with_reducible rfl)))) | refine wpI_skip rfl (by kernel_rfl) (fun _ _ _ h => h) hI rfl ?_); simp only [Act.put, tk, Nat.reduceAdd])); refine wpI_till ?_)
   (refine wpF_one 6 rfl (by kernel_rfl) rfl (fun K hK => ?_))
   go_simp
   (refine hK _ _ (fun _ => InX.mk hK0) (fun hI => ?_); have hI := hI (by simp); clear hK K; try simp only [Act.put, tk])
   (refine wpF_take2 (v := ?_) 10 rfl (by kernel_rfl) (fun _ _ _ h => h) hI rfl ?_ ?_; rotate_left; (focus (rintro _ ⟨E, rfl⟩; go_simp; (try with_reducible rfl))); simp only [Act.put, tk])
   (refine wpF_one 11 rfl (by kernel_rfl) rfl (fun K hK => ?_))
   have bX1 := Lib.hid (bX.set 7 (.complex .f64 (F e.start) (F q)))
   have KX1 := Lib.hid (Keep.setCell (p := ⟨p, 7, none⟩) hK0 (Or.inr rfl) (.complex .f64 (F e.start) (F q)))
   clear bX
   go_simp
   generalize x0.setCell ⟨p, 7, none⟩ (.complex .f64 (F e.start) (F q)) = x1 at bX1 KX1 ⊢
   clear d6 d7 e7 d17 e17 lX hK0
   have bX := bX1.out
   have hK0 := KX1.out
   have d17 := bX.cell 17 (u := hasV (c 0)) rfl
   have e17 := bX.frozen 17
   have lX := bX.lt
   (refine hK _ _ (fun _ => InX.mk hK0) (fun hI => ?_); have hI := hI (by simp); clear hK K; try simp only [Act.put, tk])
   (refine wpF_take2 (v := ?_) 15 rfl (by kernel_rfl) (fun _ _ _ h => h) hI rfl ?_ ?_; rotate_left; (focus (rintro _ ⟨E, rfl⟩; go_simp; (try with_reducible rfl))); simp only [Act.put, tk])
   (refine wpF_one 16 rfl (by kernel_rfl) rfl (fun K hK => ?_))
   have BX2 := Lib.hid (bX.set 17 (.bool true))
   have KX2 := Lib.hid (Keep.setCell (p := ⟨p, 17, none⟩) hK0 (Or.inr rfl) (.bool true))
   go_simp
   generalize x1.setCell ⟨p, 17, none⟩ (.bool true) = x2 at BX2 KX2 ⊢
   (refine hK _ _ (fun _ => InX.mk KX2.out) (fun hI => ?_); have hI := hI (by simp); clear hK K; try simp only [Act.put, tk])
   (refine wpF_done (by kernel_rfl) ?_ _)
   go_wp2_with fail
   go_end0
   have bx2 := BX2.out
   rw [end_eq] at bx2
   exact ⟨rfl, bx2, K3.out.trans KX2.out (fun _ _ h => h)⟩
 cases be with
 | none => exact key (fun ⟨_, _, h, _⟩ => by cases h)
 | some rB =>
  obtain ⟨r, B⟩ := rB
  by_cases hle : q ≤ r
  ·have hB := hbest r B rfl
   have hcm : comeF e q c ⟨tr, ov, some (r, B)⟩ = ⟨tr, ov, some (r, B)⟩ := by simp only [comeF, if_pos hle]
   rw [hcm]
   rw [show bestC (⟨tr, ov, some (r, B)⟩ : St) 0 = some (e.start, r) from hB.2] at c6
   have c6' : w.cell? ⟨p, 6, none⟩ = some (.complex .f64 (F e.start) (F r)) := c6
   have hv := fun wx => F_back (a := r) (by omega) wx
   have m1 : decide ((q : Int) ≤ (r : Int)) = true := by simp; omega
   have m2 : decide (q ≤ r) = true := by simp; omega
   have HB := Lib.hid hb
   have c5' : w.cell? ⟨p, 5, none⟩ = some (.bool true) := c5
   clear c5 c6 key hbest hcm hB hs hb hle
   go_enter Try.func84, Try.ntmps84
   go_wp2_with fail
   exact bodyPost_ret (results_none Try.results84 _ _ _) rfl ⟨rfl, HB.out, Keep.refl _ _⟩
  ·have hcm : comeF e q c ⟨tr, ov, some (r, B)⟩ = ⟨tr, ov, some (q, put c 0 e.start q)⟩ := by simp only [comeF, if_neg hle]
   rw [hcm]
   exact key (fun ⟨r', B', h, h2⟩ => by cases h; exact hle h2)
end Go.Proofs.Ytkidjbfapldmbaa
