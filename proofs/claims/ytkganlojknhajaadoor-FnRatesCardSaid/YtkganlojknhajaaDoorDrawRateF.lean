/- The draw of one rate; equal lists of threes. -/
import Derived.Test.YtkganlojknhajaaDoorDrawRateE
import Derived.Test.YtkganlojknhajaaDoorArr3
import Derived.BigRegion
namespace Go.Proofs.YtkganlojknhajaaDoor
open Go.RowKit
set_option linter.unusedVariables false
set_option linter.unusedSimpArgs false
attribute [local go_sem] ExtOf.cell

set_option maxRecDepth 100000 in
set_option maxHeartbeats 2000000 in
theorem DrawIsRate_any (A : Option Addr) (n c : Nat) (l : List Int) (w : World) (h : CodeOk w A n l) :
    Calls Tryd.prog 42 #[.slice A n c] w fun e w' => ∃ r : Rate, e = .returned (.agg #[.int .i64 r.Zone, .int .i64 r.Grams, .int .i64 r.From, .int .i64 r.Until, .int .i64 r.Cents]) ∧ RateSm r ∧ Ext w w' := by
  have OZ := Lib.hid (own_block w 26 [.int .i64 0, .int .i64 0, .int .i64 0, .int .i64 0, .int .i64 0])
  have E0 := (Ext.refl w).alloc (.cells #[.int .i64 0, .int .i64 0, .int .i64 0, .int .i64 0, .int .i64 0] 26)
  have K := Lib.hid ((h.ext E0).cur c)
  simp only [World.size_alloc] at K
  have nz : Value.ownBlock (.slice (some ⟨w.heap.size, 0, none⟩) 1 1) = none ∨ Value.ownBlock (.slice (some ⟨w.heap.size, 0, none⟩) 1 1) ≠ some (w.heap.size + 1) := Or.inr (by simp [Value.ownBlock])
  go_enter Tryd.func42, Tryd.ntmps42
  go_wp2_with fail
  refine (among_at (w.heap.size + 1) _ _ [0, 9, -1, 10] (-1) 10 _ _ K.out (by simp) (by decide) (by omega) (by decide) (by decide)).mono ?_
  rintro e w2 ⟨v, rfl, ⟨u, rfl, u1, u2⟩, C2, G2⟩
  go_wp2_with fail
  refine (among_at _ _ _ [1, 20, 2000, 0, 2001] 0 2001 _ _ C2 rfl (by decide) (by omega) (by decide) (by decide)).mono ?_
  rintro e w3 ⟨v, rfl, ⟨x, rfl, x1, x2⟩, C3, G3⟩
  go_wp2_with fail
  refine (among_at _ _ _ [0, 7, 3995, -1] (-1) 3995 _ _ C3 rfl (by decide) (by omega) (by decide) (by decide)).mono ?_
  rintro e w4 ⟨v, rfl, ⟨y, rfl, y1, y2⟩, C4, G4⟩
  go_wp2_with fail
  refine (rate_any _ _ u x y _ C4 (by omega) (by omega) (by omega) (by omega)).mono ?_
  rintro e w5 ⟨v, rfl, ⟨r, rfl, hr, hq⟩, C5, G5⟩
  clear hq
  have OZ5 := Lib.hid (((((((Ext.refl _).alloc _).own OZ.out).kept G2 nz).kept G3 nz).kept G4 nz).kept G5 nz)
  have G := Lib.hid (grown_trans G2 (grown_trans G3 (grown_trans G4 G5)))
  clear G2 G3 G4 G5 C2 C3 C4
  go_wp2_with (refine wpList_store_own rfl 26 (.tmp 2) (.tmp 17) rfl w.heap.size 0 [.int .i64 r.Zone, .int .i64 r.Grams, .int .i64 r.From, .int .i64 r.Until, .int .i64 r.Cents] rfl rfl w.heap.size 26 5 1 1 _ OZ5.out (by simp) sizeRate rfl ?_; intro w9 ho9 hg9)
  have r0 := own_at ho9 (j := 0) rfl
  have r1 := own_at ho9 (j := 1) rfl
  have r2 := own_at ho9 (j := 2) rfl
  have r3 := own_at ho9 (j := 3) rfl
  have r4 := own_at ho9 (j := 4) rfl
  have EF := Lib.hid ((E0.trans (ext_of_cur (w := w.alloc (.cells #[.int .i64 0, .int .i64 0, .int .i64 0, .int .i64 0, .int .i64 0] 26)) (by rw [World.size_alloc]; exact G.out))).row hg9 (Nat.le_refl _))
  exact bodyPost_ret (v := .agg #[.int .i64 r.Zone, .int .i64 r.Grams, .int .i64 r.From, .int .i64 r.Until, .int .i64 r.Cents]) (by simp [results, Tryd.results42, go_sem, r0, r1, r2, r3, r4]) rfl ⟨r, rfl, hr, EF.out⟩
set_option maxHeartbeats 1000000 in
theorem DrawRateText_any (A : Option Addr) (n c : Nat) (l : List Int) (w : World) (h : CodeOk w A n l) :
    Calls Tryd.prog 22 #[.slice A n c] w fun e w' => ∃ r : Rate, e = .returned (.agg #[.int .i64 r.Zone, .int .i64 r.Grams, .int .i64 r.From, .int .i64 r.Until, .int .i64 r.Cents]) ∧ RateSm r ∧ Ext w w' := by
  have oz := own_block w 26 [.int .i64 0, .int .i64 0, .int .i64 0, .int .i64 0, .int .i64 0]
  have E0 := (Ext.refl w).alloc (.cells #[.int .i64 0, .int .i64 0, .int .i64 0, .int .i64 0, .int .i64 0] 26)
  have OZ := Lib.hid oz
  have K := Lib.hid (h.ext E0)
  clear oz
  go_enter Tryd.func22, Tryd.ntmps22
  go_wp2_with fail
  refine (DrawIsRate_any A n c l _ K.out).mono ?_
  rintro e w1 ⟨r, rfl, hr, e1⟩
  have OZ5 := Lib.hid (e1.own OZ.out)
  go_wp2_with (refine wpList_store_own rfl 26 (.tmp 2) (.tmp 4) rfl w.heap.size 0 [.int .i64 r.Zone, .int .i64 r.Grams, .int .i64 r.From, .int .i64 r.Until, .int .i64 r.Cents] rfl rfl w.heap.size 26 5 1 1 _ OZ5.out (by simp) sizeRate rfl ?_; intro w9 ho9 hg9)
  have r0 := own_at ho9 (j := 0) rfl
  have r1 := own_at ho9 (j := 1) rfl
  have r2 := own_at ho9 (j := 2) rfl
  have r3 := own_at ho9 (j := 3) rfl
  have r4 := own_at ho9 (j := 4) rfl
  have EF := Lib.hid ((E0.trans e1).row hg9 (Nat.le_refl _))
  exact bodyPost_ret (v := .agg #[.int .i64 r.Zone, .int .i64 r.Grams, .int .i64 r.From, .int .i64 r.Until, .int .i64 r.Cents]) (by simp [results, Tryd.results22, go_sem, r0, r1, r2, r3, r4]) rfl ⟨r, rfl, hr, EF.out⟩
end Go.Proofs.YtkganlojknhajaaDoor
