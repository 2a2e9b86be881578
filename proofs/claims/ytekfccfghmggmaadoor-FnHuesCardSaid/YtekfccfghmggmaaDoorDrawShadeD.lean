/- The draws of the statements on shades (made by wip/drawshaded.py). -/
import Derived.Test.YtekfccfghmggmaaDoorDrawShades
namespace Go.Proofs.YtekfccfghmggmaaDoor
open Go.RowKit
set_option linter.unusedVariables false
set_option linter.unusedSimpArgs false
attribute [local go_sem] ExtOf.cell

/-- What is drawn of shades: a list. -/
def DrawnL (B : Option Addr) (m mc : Nat) (w' : World) : Prop := ∃ xs : List Shade, m ≤ mc ∧ ShL w' B m xs
theorem DrawnL.of {w0 w : World} {g b : Nat} {A : Option Addr} {n c : Nat} {xs : List Shade} (h : DSt w0 g b 33 5 A n c (xs.flatMap Shade.cs) w) (hx : ∀ x ∈ xs, ShadeSm x) (hn : n ≤ 40) : DrawnL A n c w :=
  ⟨xs, own_le h.row, by have := h.row.1; rw [flat_length Shade.cs 5 Shade.len] at this; omega, by omega, fun x hm => (hx x hm).wf, Rd.own h.row⟩
set_option maxHeartbeats 1000000 in
theorem DrawFreeColors_any (A : Option Addr) (n c : Nat) (l : List Int) (w : World) (h : CodeOk w A n l) :
    Calls Tryd.prog 13 #[.slice A n c] w fun e w' => ∃ B m mc a1, e = .returned (.tuple #[.slice B m mc, .int .i64 a1]) ∧ DrawnL B m mc w' ∧ Ext w w' := by
  have K := Lib.hid (h.cur c)
  go_enter Tryd.func13, Tryd.ntmps13
  go_wp2_with fail
  refine (shades7_any w.heap.size 0 _ K.out (by omega)).mono ?_; rintro e w1 ⟨v, rfl, ⟨L, m, mc, rfl, hm40, hst⟩, C1, G1⟩; obtain ⟨xs, hst2, hxs⟩ := SSt.st hst; have N1 := Lib.hid hst2; have HX := Lib.hid hxs; have EG := Lib.hid G1; clear hst hst2 hxs C1 G1
  go_wp2_with fail
  refine (light7_any _ _ _ N1.out.cur (by omega)).mono ?_
  rintro e w3 ⟨v, rfl, ⟨x, rfl, x1, x2⟩, C3, G3⟩
  have N3 := Lib.hid (N1.out.draw C3 G3)
  have EF := Lib.hid (ext_of_cur (grown_trans EG.out G3))
  go_wp2
  exact bodyPost_ret (v := .tuple #[.slice L m mc, .int .i64 x]) (by simp [results, Tryd.results13, go_sem]) rfl ⟨L, m, mc, x, rfl, DrawnL.of N3.out HX.out hm40, EF.out⟩
set_option maxHeartbeats 1000000 in
theorem DrawHueDistance_any (A : Option Addr) (n c : Nat) (l : List Int) (w : World) (h : CodeOk w A n l) :
    Calls Tryd.prog 5 #[.slice A n c] w fun e w' => ∃ a1 a2, e = .returned (.tuple #[.int .i64 a1, .int .i64 a2]) ∧ Ext w w' := by
  have K := Lib.hid (h.cur c)
  go_enter Tryd.func5, Tryd.ntmps5
  go_wp2_with fail
  refine (hue7_any _ _ _ K.out (by omega)).mono ?_
  rintro e w2 ⟨v, rfl, ⟨u, rfl, u1, u2⟩, C2, G2⟩
  go_wp2_with fail
  refine (hue7_any _ _ _ C2 (by omega)).mono ?_
  rintro e w3 ⟨v, rfl, ⟨x, rfl, x1, x2⟩, C3, G3⟩
  have EF := Lib.hid (ext_of_cur (grown_trans G2 G3))
  go_wp2
  exact bodyPost_ret (v := .tuple #[.int .i64 u, .int .i64 x]) (by simp [results, Tryd.results5, go_sem]) rfl ⟨u, x, rfl, EF.out⟩
set_option maxRecDepth 100000 in
set_option maxHeartbeats 4000000 in
theorem DrawIsShade_any (A : Option Addr) (n c : Nat) (l : List Int) (w : World) (h : CodeOk w A n l) :
    Calls Tryd.prog 42 #[.slice A n c] w fun e w' => ∃ r : Shade, e = .returned (.agg #[.string r.Name, .int .i64 r.Hue, .int .i64 r.Width, .int .i64 r.Dark, .int .i64 r.Light]) ∧ ShadeSm r ∧ Ext w w' := by
  have OZ := Lib.hid (own_block w 33 [.string ByteArray.empty, .int .i64 0, .int .i64 0, .int .i64 0, .int .i64 0])
  have E0 := (Ext.refl w).alloc (.cells #[.string ByteArray.empty, .int .i64 0, .int .i64 0, .int .i64 0, .int .i64 0] 33)
  have K := Lib.hid ((h.ext E0).cur c)
  simp only [World.size_alloc] at K
  have nz : Value.ownBlock (.slice (some ⟨w.heap.size, 0, none⟩) 1 1) = none ∨ Value.ownBlock (.slice (some ⟨w.heap.size, 0, none⟩) 1 1) ≠ some (w.heap.size + 1) := Or.inr (by simp [Value.ownBlock])
  go_enter Tryd.func42, Tryd.ntmps42
  go_wp2_with fail
  refine (shade7_any _ _ _ _ K.out (by omega) (by decide)).mono ?_
  rintro e w2 ⟨v, rfl, ⟨r, rfl, hr⟩, C2, G2⟩
  have OZ5 := Lib.hid (((Ext.refl _).alloc _).own OZ.out |>.kept G2 nz)
  have G := Lib.hid G2
  clear G2 C2
  go_wp2_with (refine wpList_store_own rfl 33 (.tmp 2) (.tmp 8) rfl w.heap.size 0 [.string r.Name, .int .i64 r.Hue, .int .i64 r.Width, .int .i64 r.Dark, .int .i64 r.Light] rfl rfl w.heap.size 33 5 1 1 _ OZ5.out (by simp) shade_size rfl ?_; intro w9 ho9 hg9)
  have r0 := own_at ho9 (j := 0) rfl
  have r1 := own_at ho9 (j := 1) rfl
  have r2 := own_at ho9 (j := 2) rfl
  have r3 := own_at ho9 (j := 3) rfl
  have r4 := own_at ho9 (j := 4) rfl
  have EF := Lib.hid ((E0.trans (ext_of_cur (w := w.alloc (.cells #[.string ByteArray.empty, .int .i64 0, .int .i64 0, .int .i64 0, .int .i64 0] 33)) (by rw [World.size_alloc]; exact G.out))).row hg9 (Nat.le_refl _))
  exact bodyPost_ret (v := .agg #[.string r.Name, .int .i64 r.Hue, .int .i64 r.Width, .int .i64 r.Dark, .int .i64 r.Light]) (by simp [results, Tryd.results42, go_sem, r0, r1, r2, r3, r4]) rfl ⟨r, rfl, hr, EF.out⟩
set_option maxRecDepth 100000 in
set_option maxHeartbeats 4000000 in
theorem DrawColorsIn_any (A : Option Addr) (n c : Nat) (l : List Int) (w : World) (h : CodeOk w A n l) :
    Calls Tryd.prog 16 #[.slice A n c] w fun e w' => ∃ r : Shade, e = .returned (.agg #[.string r.Name, .int .i64 r.Hue, .int .i64 r.Width, .int .i64 r.Dark, .int .i64 r.Light]) ∧ ShadeSm r ∧ Ext w w' := by
  have OZ := Lib.hid (own_block w 33 [.string ByteArray.empty, .int .i64 0, .int .i64 0, .int .i64 0, .int .i64 0])
  have E0 := (Ext.refl w).alloc (.cells #[.string ByteArray.empty, .int .i64 0, .int .i64 0, .int .i64 0, .int .i64 0] 33)
  have K := Lib.hid (h.ext E0)
  go_enter Tryd.func16, Tryd.ntmps16
  go_wp2_with fail
  refine (DrawIsShade_any A n c l _ K.out).mono ?_
  rintro e w1 ⟨r, rfl, hr, e1⟩
  have OZ5 := Lib.hid (e1.own OZ.out)
  go_wp2_with (refine wpList_store_own rfl 33 (.tmp 2) (.tmp 4) rfl w.heap.size 0 [.string r.Name, .int .i64 r.Hue, .int .i64 r.Width, .int .i64 r.Dark, .int .i64 r.Light] rfl rfl w.heap.size 33 5 1 1 _ OZ5.out (by simp) shade_size rfl ?_; intro w9 ho9 hg9)
  have r0 := own_at ho9 (j := 0) rfl
  have r1 := own_at ho9 (j := 1) rfl
  have r2 := own_at ho9 (j := 2) rfl
  have r3 := own_at ho9 (j := 3) rfl
  have r4 := own_at ho9 (j := 4) rfl
  have EF := Lib.hid ((E0.trans e1).row hg9 (Nat.le_refl _))
  exact bodyPost_ret (v := .agg #[.string r.Name, .int .i64 r.Hue, .int .i64 r.Width, .int .i64 r.Dark, .int .i64 r.Light]) (by simp [results, Tryd.results16, go_sem, r0, r1, r2, r3, r4]) rfl ⟨r, rfl, hr, EF.out⟩
set_option maxRecDepth 100000 in
set_option maxHeartbeats 4000000 in
theorem DrawCertainHues_any (A : Option Addr) (n c : Nat) (l : List Int) (w : World) (h : CodeOk w A n l) :
    Calls Tryd.prog 10 #[.slice A n c] w fun e w' => ∃ B m mc s a1, e = .returned (.tuple #[.slice B m mc, .string s, .int .i64 a1]) ∧ DrawnL B m mc w' ∧ Ext w w' := by
  have K := Lib.hid (h.cur c)
  go_enter Tryd.func10, Tryd.ntmps10
  go_wp2_with fail
  refine (shades7_any w.heap.size 0 _ K.out (by omega)).mono ?_; rintro e w1 ⟨v, rfl, ⟨L, m, mc, rfl, hm40, hst⟩, C1, G1⟩; obtain ⟨xs, hst2, hxs⟩ := SSt.st hst; have N1 := Lib.hid hst2; have HX := Lib.hid hxs; have EG := Lib.hid G1; clear hst hst2 hxs C1 G1
  go_wp2_with fail
  refine (of_at _ _ _ [⟨#[114, 101, 100]⟩, ⟨#[122, 105, 110, 99]⟩, ⟨#[]⟩] _ _ N1.out.cur rfl (by decide) (by omega) (by simp) (by simp)).mono ?_
  rintro e w2 ⟨v, rfl, ⟨s, rfl, s1⟩, C2, G2⟩
  have N2 := Lib.hid (N1.out.draw C2 G2)
  have EG2 := Lib.hid (grown_trans EG.out G2)
  clear C2 G2 N1 EG
  by_cases hm0 : m = 0
  · have hd0 : decide ((0 : Int) < (m : Int)) = false := by simp; omega
    have hd1 : decide (0 < m) = false := by simp; omega
    have hd2 : ¬ 0 < m := by omega
    clear hm0
    go_wp2_with fail
    refine (light7_any _ _ _ N2.out.cur (by omega)).mono ?_
    rintro e w3 ⟨v, rfl, ⟨x, rfl, x1, x2⟩, C3, G3⟩
    have N3 := Lib.hid (N2.out.draw C3 G3)
    have EF := Lib.hid (ext_of_cur (grown_trans EG2.out G3))
    go_wp2
    exact bodyPost_ret (v := .tuple #[.slice L m mc, .string s, .int .i64 x]) (by simp [results, Tryd.results10, go_sem]) rfl ⟨L, m, mc, s, x, rfl, DrawnL.of N3.out HX.out hm40, EF.out⟩
  · have hd0 : decide ((0 : Int) < (m : Int)) = true := by simp; omega
    go_wp2_with fail
    refine (one_any _ _ 10 _ N2.out.cur (by omega) (by omega)).mono ?_
    rintro e w3 ⟨v, rfl, ⟨ok, rfl⟩, C3, G3⟩
    have N3 := Lib.hid (N2.out.draw C3 G3)
    have EG3 := Lib.hid (grown_trans EG2.out G3)
    clear C3 G3 N2 EG2
    cases ok
    · go_wp2_with fail
      refine (pick_any _ _ m _ N3.out.cur (by omega) (by omega)).mono ?_
      rintro e w4 ⟨v, rfl, ⟨k, rfl, k0, k1⟩, C4, G4⟩
      have N4 := Lib.hid (N3.out.draw C4 G4)
      have EG4 := Lib.hid (grown_trans EG3.out G4)
      clear C4 G4 N3 EG3
      obtain ⟨k, rfl⟩ : ∃ q : Nat, k = q := ⟨k.toNat, by omega⟩
      have hkm : k < m := by omega
      have hkm2 : (k : Int) < (m : Int) := by omega
      have hlen : xs.length = m := by have := N4.out.row.1; rw [flat_length Shade.cs 5 Shade.len] at this; omega
      obtain ⟨b, off, r, rfl, hb, hx, g0, _⟩ := Shade.at_ (Rd.own N4.out.row) hlen hkm
      go_wp2_with fail
      refine (light7_any _ _ _ N4.out.cur (by omega)).mono ?_
      rintro e w5 ⟨v, rfl, ⟨x, rfl, x1, x2⟩, C5, G5⟩
      have N5 := Lib.hid (N4.out.draw C5 G5)
      have EF := Lib.hid (ext_of_cur (grown_trans EG4.out G5))
      go_wp2
      exact bodyPost_ret (v := .tuple #[.slice (some ⟨b, off, none⟩) m mc, .string r.Name, .int .i64 x]) (by simp [results, Tryd.results10, go_sem]) rfl ⟨_, m, mc, _, x, rfl, DrawnL.of N5.out HX.out hm40, EF.out⟩
    · go_wp2_with fail
      refine (light7_any _ _ _ N3.out.cur (by omega)).mono ?_
      rintro e w5 ⟨v, rfl, ⟨x, rfl, x1, x2⟩, C5, G5⟩
      have N5 := Lib.hid (N3.out.draw C5 G5)
      have EF := Lib.hid (ext_of_cur (grown_trans EG3.out G5))
      go_wp2
      exact bodyPost_ret (v := .tuple #[.slice L m mc, .string s, .int .i64 x]) (by simp [results, Tryd.results10, go_sem]) rfl ⟨L, m, mc, s, x, rfl, DrawnL.of N5.out HX.out hm40, EF.out⟩
end Go.Proofs.YtekfccfghmggmaaDoor
