/- The draws of rates. -/
import Derived.Test.YtkganlojknhajaaDoorCur
import Derived.Test.YtkganlojknhajaaDoorRateF
namespace Go.Proofs.YtkganlojknhajaaDoor
open Go.RowKit
set_option linter.unusedVariables false
set_option linter.unusedSimpArgs false
attribute [local go_sem] ExtOf.cell

def smallI (a : Int) : Prop := -100000 ≤ a ∧ a ≤ 100000
theorem smI (a : Int) (h1 : -100000 ≤ a) (h2 : a ≤ 100000) : smallI a := ⟨h1, h2⟩
theorem wf_i64 {a : Int} (h : smallI a) : (Lit.int .i64 a).wf = true := by
  have e1 : IntKind.i64.min = -9223372036854775808 := rfl
  have e2 : IntKind.i64.max = 9223372036854775807 := rfl
  unfold smallI at h
  simp [Lit.wf, e1, e2]; omega
def RateSm (r : Rate) : Prop := smallI r.Zone ∧ smallI r.Grams ∧ smallI r.From ∧ smallI r.Until ∧ smallI r.Cents
theorem RateSm.wf {r : Rate} (h : RateSm r) : r.Wf := ⟨wf_i64 h.1, wf_i64 h.2.1, wf_i64 h.2.2.1, wf_i64 h.2.2.2.1, wf_i64 h.2.2.2.2⟩
def RateIn (f gr : Int) (v : Value) (w : World) : Prop := ∃ r : Rate, v = .agg #[.int .i64 r.Zone, .int .i64 r.Grams, .int .i64 r.From, .int .i64 r.Until, .int .i64 r.Cents] ∧ RateSm r ∧ f - 1 ≤ r.Until ∧ r.Grams = gr
set_option maxRecDepth 100000 in
set_option maxHeartbeats 2000000 in
theorem rate_any (g b : Nat) (z gr f : Int) (w : World) (h : Cur w g b) (hb : b ≤ 1000000) (hz : -100 ≤ z ∧ z ≤ 100) (hgr : -20000 ≤ gr ∧ gr ≤ 20000) (hf : -20000 ≤ f ∧ f ≤ 4000) :
    Calls Tryd.prog 47 #[.pointer (some ⟨g, 0, none⟩), .int .i64 z, .int .i64 gr, .int .i64 f] w (CurPost g (b + 8) w (RateIn f gr)) := by
  have hgw := h.lt
  have oz := own_block w 26 [.int .i64 0, .int .i64 0, .int .i64 0, .int .i64 0, .int .i64 0]
  have OZ := Lib.hid oz
  clear oz
  go_enter Tryd.func47, Tryd.ntmps47
  go_wp2_with fail
  refine (among_at g b _ [5, 9, 9, 19] 5 19 _ _ (h.ext ((Ext.refl _).alloc _)) (by simp) (by decide) (by omega) (by decide) (by decide)).mono ?_
  rintro e w1 ⟨v, rfl, ⟨u, rfl, u1, u2⟩, C1, G1⟩
  go_wp2_with fail
  refine (among_at g (b + 2) _ [3, 5, 5, 10, 12, 25, 9999] 3 9999 _ _ C1 rfl (by decide) (by omega) (by decide) (by decide)).mono ?_
  rintro e w2 ⟨v, rfl, ⟨c, rfl, c1, c2⟩, C2, G2⟩
  go_wp2_with fail
  have E0 := (Ext.refl w2).alloc (.cells #[.int .i64 z, .int .i64 gr, .int .i64 f, .int .i64 (f + u), .int .i64 c] 26)
  refine (pick_any g (b + 4) 64 _ (C2.ext E0) (by omega) (by omega)).mono ?_
  rintro e w3 ⟨v, rfl, ⟨r, rfl, r0, r1⟩, C3, G3⟩
  have hr1 : r < 64 := by omega
  have hne1 : w.heap.size ≠ g := by omega
  have hw2 : w.heap.size < w2.heap.size := by have := G1.size; have := G2.size; simp at *; omega
  have G12 := grown_trans (grown_of_ext (g := some g) ((Ext.refl w).alloc (.cells #[.int .i64 0, .int .i64 0, .int .i64 0, .int .i64 0, .int .i64 0] 26))) (grown_trans G1 G2)
  have GZ := Lib.hid (grown_trans G12 (grown_trans (grown_of_ext (g := some g) E0) G3))
  have nz : Value.ownBlock (.slice (some ⟨w.heap.size, 0, none⟩) 1 1) = none ∨ Value.ownBlock (.slice (some ⟨w.heap.size, 0, none⟩) 1 1) ≠ some g := Or.inr (by simp [Value.ownBlock]; omega)
  have nb : Value.ownBlock (.slice (some ⟨w2.heap.size, 0, none⟩) 1 1) = none ∨ Value.ownBlock (.slice (some ⟨w2.heap.size, 0, none⟩) 1 1) ≠ some g := Or.inr (by simp [Value.ownBlock]; omega)
  have OZ3 := Lib.hid ((E0.own ((OZ.out.kept G1 nz).kept G2 nz)).kept G3 nz)
  have BX := Lib.hid ((own_block w2 26 [.int .i64 z, .int .i64 gr, .int .i64 f, .int .i64 (f + u), .int .i64 c]).kept G3 nb)
  have x0 := own_at BX.out (j := 0) rfl
  have x1 := own_at BX.out (j := 1) rfl
  have x2 := own_at BX.out (j := 2) rfl
  have x3 := own_at BX.out (j := 3) rfl
  have x4 := own_at BX.out (j := 4) rfl
  have z3 : w2.heap.size < w3.heap.size := World.block_lt_of_cell? w3 _ x0
  clear OZ E0 G12 G1 G2
  by_cases e0 : r = 0
  · subst e0
    go_wp2_with fail
    refine (among_at g (b + 6) _ [f - 1, 4000, 4001] (f - 1) 20000 _ _ C3 rfl (by intro x hx; simp at hx; omega) (by omega) (by simp) (by simp)).mono ?_
    rintro e w4 ⟨v, rfl, ⟨t, rfl, t1, t2⟩, C4, G4⟩
    have OZ4 := Lib.hid (OZ3.out.kept G4 nz)
    have BX4 := Lib.hid (BX.out.kept G4 nb)
    clear x0 x1 x2 x3 x4
    have x0 := own_at BX4.out (j := 0) rfl
    have x1 := own_at BX4.out (j := 1) rfl
    have x2 := own_at BX4.out (j := 2) rfl
    have x3 := own_at BX4.out (j := 3) rfl
    have x4 := own_at BX4.out (j := 4) rfl
    have f3 := BX4.out.frozenAt 3
    have z4 : w2.heap.size < w4.heap.size := World.block_lt_of_cell? w4 _ x0
    have s4 := BX4.out.stored 3 (.int .i64 t)
    have OZ5 := Lib.hid (OZ4.out.kept s4.2 (Or.inr (by simp [Value.ownBlock]; omega)))
    have C5 := Lib.hid (C4.kept s4.2 (fun q hq => by injection hq with hq; omega))
    have G5 := Lib.hid (grown_new (grown_trans GZ.out G4) s4.2 (fun q hq => by injection hq with hq; omega))
    clear s4 G4
    go_wp2_with (refine wpList_store_own rfl 26 (.tmp 8) (.tmp 39) rfl w.heap.size 0 [.int .i64 z, .int .i64 gr, .int .i64 f, .int .i64 t, .int .i64 c] rfl rfl w.heap.size 26 5 1 1 _ OZ5.out (by simp) sizeRate rfl ?_; intro w9 ho9 hg9)
    have r0 := own_at ho9 (j := 0) rfl
    have r1 := own_at ho9 (j := 1) rfl
    have r2 := own_at ho9 (j := 2) rfl
    have r3 := own_at ho9 (j := 3) rfl
    have r4 := own_at ho9 (j := 4) rfl
    exact bodyPost_ret (v := .agg #[.int .i64 z, .int .i64 gr, .int .i64 f, .int .i64 t, .int .i64 c]) (by simp [results, Tryd.results47, go_sem, r0, r1, r2, r3, r4]) rfl ⟨_, rfl, ⟨⟨z, gr, f, t, c⟩, rfl, ⟨smI z (by omega) (by omega), smI gr (by omega) (by omega), smI f (by omega) (by omega), smI t (by omega) (by omega), smI c (by omega) (by omega)⟩, by show f - 1 ≤ t; omega, rfl⟩, (C5.out.kept hg9 (fun q hq => by injection hq with hq; omega)).mono (by omega), grown_new G5.out hg9 (fun q hq => by injection hq with hq; omega)⟩
  · have d0 : (r == 0) = false := by simpa using e0
    have d0' : decide (r = 0) = false := by simpa using e0
    by_cases e1 : r = 1
    · subst e1
      go_wp2_with fail
      refine (among_at g (b + 6) _ [0, 10000] 0 10000 _ _ C3 rfl (by intro x hx; simp at hx; omega) (by omega) (by simp) (by simp)).mono ?_
      rintro e w4 ⟨v, rfl, ⟨t, rfl, t1, t2⟩, C4, G4⟩
      have OZ4 := Lib.hid (OZ3.out.kept G4 nz)
      have BX4 := Lib.hid (BX.out.kept G4 nb)
      clear x0 x1 x2 x3 x4
      have x0 := own_at BX4.out (j := 0) rfl
      have x1 := own_at BX4.out (j := 1) rfl
      have x2 := own_at BX4.out (j := 2) rfl
      have x3 := own_at BX4.out (j := 3) rfl
      have x4 := own_at BX4.out (j := 4) rfl
      have f3 := BX4.out.frozenAt 4
      have z4 : w2.heap.size < w4.heap.size := World.block_lt_of_cell? w4 _ x0
      have s4 := BX4.out.stored 4 (.int .i64 t)
      have OZ5 := Lib.hid (OZ4.out.kept s4.2 (Or.inr (by simp [Value.ownBlock]; omega)))
      have C5 := Lib.hid (C4.kept s4.2 (fun q hq => by injection hq with hq; omega))
      have G5 := Lib.hid (grown_new (grown_trans GZ.out G4) s4.2 (fun q hq => by injection hq with hq; omega))
      clear s4 G4
      go_wp2_with (refine wpList_store_own rfl 26 (.tmp 8) (.tmp 39) rfl w.heap.size 0 [.int .i64 z, .int .i64 gr, .int .i64 f, .int .i64 (f + u), .int .i64 t] rfl rfl w.heap.size 26 5 1 1 _ OZ5.out (by simp) sizeRate rfl ?_; intro w9 ho9 hg9)
      have r0 := own_at ho9 (j := 0) rfl
      have r1 := own_at ho9 (j := 1) rfl
      have r2 := own_at ho9 (j := 2) rfl
      have r3 := own_at ho9 (j := 3) rfl
      have r4 := own_at ho9 (j := 4) rfl
      exact bodyPost_ret (v := .agg #[.int .i64 z, .int .i64 gr, .int .i64 f, .int .i64 (f + u), .int .i64 t]) (by simp [results, Tryd.results47, go_sem, r0, r1, r2, r3, r4]) rfl ⟨_, rfl, ⟨⟨z, gr, f, (f + u), t⟩, rfl, ⟨smI z (by omega) (by omega), smI gr (by omega) (by omega), smI f (by omega) (by omega), smI (f + u) (by omega) (by omega), smI t (by omega) (by omega)⟩, by show f - 1 ≤ (f + u); omega, rfl⟩, (C5.out.kept hg9 (fun q hq => by injection hq with hq; omega)).mono (by omega), grown_new G5.out hg9 (fun q hq => by injection hq with hq; omega)⟩
    · have d1 : (r == 1) = false := by simpa using e1
      have d1' : decide (r = 1) = false := by simpa using e1
      have C5 := Lib.hid C3
      go_wp2_with (refine wpList_store_own rfl 26 (.tmp 8) (.tmp 39) rfl w.heap.size 0 [.int .i64 z, .int .i64 gr, .int .i64 f, .int .i64 (f + u), .int .i64 c] rfl rfl w.heap.size 26 5 1 1 _ OZ3.out (by simp) sizeRate rfl ?_; intro w9 ho9 hg9)
      have r0 := own_at ho9 (j := 0) rfl
      have r1 := own_at ho9 (j := 1) rfl
      have r2 := own_at ho9 (j := 2) rfl
      have r3 := own_at ho9 (j := 3) rfl
      have r4 := own_at ho9 (j := 4) rfl
      exact bodyPost_ret (v := .agg #[.int .i64 z, .int .i64 gr, .int .i64 f, .int .i64 (f + u), .int .i64 c]) (by simp [results, Tryd.results47, go_sem, r0, r1, r2, r3, r4]) rfl ⟨_, rfl, ⟨⟨z, gr, f, (f + u), c⟩, rfl, ⟨smI z (by omega) (by omega), smI gr (by omega) (by omega), smI f (by omega) (by omega), smI (f + u) (by omega) (by omega), smI c (by omega) (by omega)⟩, by show f - 1 ≤ (f + u); omega, rfl⟩, (C5.out.kept hg9 (fun q hq => by injection hq with hq; omega)).mono (by omega), grown_new GZ.out hg9 (fun q hq => by injection hq with hq; omega)⟩
end Go.Proofs.YtkganlojknhajaaDoor
