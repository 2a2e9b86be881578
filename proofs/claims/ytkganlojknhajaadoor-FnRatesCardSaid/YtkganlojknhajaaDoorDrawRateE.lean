/- More draws of the statements on rates. -/
import Derived.Test.YtkganlojknhajaaDoorDrawRateD
namespace Go.Proofs.YtkganlojknhajaaDoor
open Go.RowKit
set_option linter.unusedVariables false
set_option linter.unusedSimpArgs false
attribute [local go_sem] ExtOf.cell

set_option maxHeartbeats 1000000 in
theorem DrawRateSpans_any (A : Option Addr) (n c : Nat) (l : List Int) (w : World) (h : CodeOk w A n l) :
    Calls Tryd.prog 9 #[.slice A n c] w fun e w' => ∃ B m mc a1 a2, e = .returned (.tuple #[.slice B m mc, .int .i64 a1, .int .i64 a2]) ∧ DrawnL B m mc w' ∧ Ext w w' := by
  have K := Lib.hid (h.cur c)
  go_enter Tryd.func9, Tryd.ntmps9
  go_wp2_with fail
  refine (rates_any w.heap.size 0 _ K.out (by omega)).mono ?_; rintro e w1 ⟨v, rfl, ⟨L, m, mc, rfl, hm40, hst⟩, C1, G1⟩; obtain ⟨xs, hst2, hxs⟩ := hst.st; have N1 := Lib.hid hst2; have HX := Lib.hid hxs; have EG := Lib.hid G1; clear hst hst2 hxs C1 G1
  go_wp2_with fail
  refine (among_at _ _ _ [0, 0, 1, 2, 9, 10] 0 10 _ _ N1.out.cur rfl (by decide) (by omega) (by decide) (by decide)).mono ?_
  rintro e w2 ⟨v, rfl, ⟨u, rfl, u1, u2⟩, C2, G2⟩
  have N2 := Lib.hid (N1.out.draw C2 G2)
  go_wp2_with fail
  refine (among_at _ _ _ [1, 20, 21, 50, 51, 100, 101, 0] 0 101 _ _ N2.out.cur rfl (by decide) (by omega) (by decide) (by decide)).mono ?_
  rintro e w3 ⟨v, rfl, ⟨x, rfl, x1, x2⟩, C3, G3⟩
  have N3 := Lib.hid (N2.out.draw C3 G3)
  have EF := Lib.hid (ext_of_cur (grown_trans EG.out (grown_trans G2 G3)))
  go_wp2
  go_ret3
  exact ⟨L, m, mc, u, x, rfl, DrawnL.of N3.out HX.out hm40, EF.out⟩
set_option maxHeartbeats 1000000 in
theorem DrawRateFor_any (A : Option Addr) (n c : Nat) (l : List Int) (w : World) (h : CodeOk w A n l) :
    Calls Tryd.prog 16 #[.slice A n c] w fun e w' => ∃ B m mc a1 a2 a3, e = .returned (.tuple #[.slice B m mc, .int .i64 a1, .int .i64 a2, .int .i64 a3]) ∧ DrawnL B m mc w' ∧ Ext w w' := by
  have K := Lib.hid (h.cur c)
  go_enter Tryd.func16, Tryd.ntmps16
  go_wp2_with fail
  refine (rates_any w.heap.size 0 _ K.out (by omega)).mono ?_; rintro e w1 ⟨v, rfl, ⟨L, m, mc, rfl, hm40, hst⟩, C1, G1⟩; obtain ⟨xs, hst2, hxs⟩ := hst.st; have N1 := Lib.hid hst2; have HX := Lib.hid hxs; have EG := Lib.hid G1; clear hst hst2 hxs C1 G1
  go_wp2_with fail
  refine (rateDay_any _ _ _ N1.out.cur (by omega)).mono ?_
  rintro e w2 ⟨v, rfl, ⟨u, rfl, u1, u2⟩, C2, G2⟩
  have N2 := Lib.hid (N1.out.draw C2 G2)
  go_wp2_with fail
  refine (among_at _ _ _ [0, 0, 1, 2, 9, 10] 0 10 _ _ N2.out.cur rfl (by decide) (by omega) (by decide) (by decide)).mono ?_
  rintro e w3 ⟨v, rfl, ⟨x, rfl, x1, x2⟩, C3, G3⟩
  have N3 := Lib.hid (N2.out.draw C3 G3)
  go_wp2_with fail
  refine (among_at _ _ _ [1, 20, 21, 50, 51, 100, 101, 0, 2001] 0 2001 _ _ N3.out.cur rfl (by decide) (by omega) (by decide) (by decide)).mono ?_
  rintro e w4 ⟨v, rfl, ⟨y, rfl, y1, y2⟩, C4, G4⟩
  have N4 := Lib.hid (N3.out.draw C4 G4)
  have EF := Lib.hid (ext_of_cur (grown_trans EG.out (grown_trans G2 (grown_trans G3 G4))))
  go_wp2
  exact bodyPost_ret (v := .tuple #[.slice L m mc, .int .i64 u, .int .i64 x, .int .i64 y]) (by simp [results, Tryd.results16, go_sem]) rfl ⟨L, m, mc, u, x, y, rfl, DrawnL.of N4.out HX.out hm40, EF.out⟩
set_option maxHeartbeats 1000000 in
theorem DrawFirstWithout_any (A : Option Addr) (n c : Nat) (l : List Int) (w : World) (h : CodeOk w A n l) :
    Calls Tryd.prog 19 #[.slice A n c] w fun e w' => ∃ B m mc a1 a2 a3, e = .returned (.tuple #[.slice B m mc, .int .i64 a1, .int .i64 a2, .int .i64 a3]) ∧ DrawnL B m mc w' ∧ Ext w w' := by
  have K := Lib.hid (h.cur c)
  go_enter Tryd.func19, Tryd.ntmps19
  go_wp2_with fail
  refine (rates_any w.heap.size 0 _ K.out (by omega)).mono ?_; rintro e w1 ⟨v, rfl, ⟨L, m, mc, rfl, hm40, hst⟩, C1, G1⟩; obtain ⟨xs, hst2, hxs⟩ := hst.st; have N1 := Lib.hid hst2; have HX := Lib.hid hxs; have EG := Lib.hid G1; clear hst hst2 hxs C1 G1
  go_wp2_with fail
  refine (among_at _ _ _ [0, 0, 1, 2, 10] 0 10 _ _ N1.out.cur rfl (by decide) (by omega) (by decide) (by decide)).mono ?_
  rintro e w2 ⟨v, rfl, ⟨u, rfl, u1, u2⟩, C2, G2⟩
  have N2 := Lib.hid (N1.out.draw C2 G2)
  go_wp2_with fail
  refine (among_at _ _ _ [1, 20, 21, 51, 101, 0] 0 101 _ _ N2.out.cur rfl (by decide) (by omega) (by decide) (by decide)).mono ?_
  rintro e w3 ⟨v, rfl, ⟨x, rfl, x1, x2⟩, C3, G3⟩
  have N3 := Lib.hid (N2.out.draw C3 G3)
  go_wp2_with fail
  refine (rateDay_any _ _ _ N3.out.cur (by omega)).mono ?_
  rintro e w4 ⟨v, rfl, ⟨y, rfl, y1, y2⟩, C4, G4⟩
  have N4 := Lib.hid (N3.out.draw C4 G4)
  have EF := Lib.hid (ext_of_cur (grown_trans EG.out (grown_trans G2 (grown_trans G3 G4))))
  go_wp2
  exact bodyPost_ret (v := .tuple #[.slice L m mc, .int .i64 u, .int .i64 x, .int .i64 y]) (by simp [results, Tryd.results19, go_sem]) rfl ⟨L, m, mc, u, x, y, rfl, DrawnL.of N4.out HX.out hm40, EF.out⟩
end Go.Proofs.YtkganlojknhajaaDoor
