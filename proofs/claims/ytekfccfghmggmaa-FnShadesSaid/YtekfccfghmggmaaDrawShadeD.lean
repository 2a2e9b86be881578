/- The draws of the statements on shades (made by wip/drawshaded.py). -/
import Derived.Test.YtekfccfghmggmaaDrawShades
namespace Go.Proofs.Ytekfccfghmggmaa
open Go.RowKit
set_option linter.unusedVariables false
set_option linter.unusedSimpArgs false
attribute [local go_sem] ExtOf.cell

/-- What is drawn of shades: a list. -/
def DrawnL (B : Option Addr) (m mc : Nat) (w' : World) : Prop := ∃ xs : List Shade, m ≤ mc ∧ ShL w' B m xs
theorem DrawnL.of {w0 w : World} {g b : Nat} {A : Option Addr} {n c : Nat} {xs : List Shade} (h : DSt w0 g b 46 5 A n c (xs.flatMap Shade.cs) w) (hx : ∀ x ∈ xs, ShadeSm x) (hn : n ≤ 40) : DrawnL A n c w :=
  ⟨xs, own_le h.row, by have := h.row.1; rw [flat_length Shade.cs 5 Shade.len] at this; omega, by omega, fun x hm => (hx x hm).wf, Rd.own h.row⟩
set_option maxHeartbeats 1000000 in
theorem DrawShadesOf_any (A : Option Addr) (n c : Nat) (l : List Int) (w : World) (h : CodeOk w A n l) :
    Calls Try.prog 42 #[.slice A n c] w fun e w' => ∃ B m mc a1 a2, e = .returned (.tuple #[.slice B m mc, .int .i64 a1, .int .i64 a2]) ∧ DrawnL B m mc w' ∧ Ext w w' := by
  have K := Lib.hid (h.cur c)
  go_enter Try.func42, Try.ntmps42
  go_wp2_with fail
  refine (shades7_any w.heap.size 0 _ K.out (by omega)).mono ?_; rintro e w1 ⟨v, rfl, ⟨L, m, mc, rfl, hm40, hst⟩, C1, G1⟩; obtain ⟨xs, hst2, hxs⟩ := SSt.st hst; have N1 := Lib.hid hst2; have HX := Lib.hid hxs; have EG := Lib.hid G1; clear hst hst2 hxs C1 G1
  go_wp2_with fail
  refine (hue7_any _ _ _ N1.out.cur (by omega)).mono ?_
  rintro e w2 ⟨v, rfl, ⟨u, rfl, u1, u2⟩, C2, G2⟩
  have N2 := Lib.hid (N1.out.draw C2 G2)
  go_wp2_with fail
  refine (light7_any _ _ _ N2.out.cur (by omega)).mono ?_
  rintro e w3 ⟨v, rfl, ⟨x, rfl, x1, x2⟩, C3, G3⟩
  have N3 := Lib.hid (N2.out.draw C3 G3)
  have EF := Lib.hid (ext_of_cur (grown_trans EG.out (grown_trans G2 G3)))
  go_wp2
  exact bodyPost_ret (v := .tuple #[.slice L m mc, .int .i64 u, .int .i64 x]) (by simp [results, Try.results42, go_sem]) rfl ⟨L, m, mc, u, x, rfl, DrawnL.of N3.out HX.out hm40, EF.out⟩
set_option maxHeartbeats 1000000 in
theorem DrawBestShade_any (A : Option Addr) (n c : Nat) (l : List Int) (w : World) (h : CodeOk w A n l) :
    Calls Try.prog 15 #[.slice A n c] w fun e w' => ∃ B m mc a1 a2, e = .returned (.tuple #[.slice B m mc, .int .i64 a1, .int .i64 a2]) ∧ DrawnL B m mc w' ∧ Ext w w' := by
  go_enter Try.func15, Try.ntmps15
  go_wp2_with fail
  refine (DrawShadesOf_any A n c l _ h).mono ?_
  rintro e w1 ⟨B, m, mc, a1, a2, rfl, hd, he⟩
  go_wp2
  exact bodyPost_ret (v := .tuple #[.slice B m mc, .int .i64 a1, .int .i64 a2]) (by simp [results, Try.results15, go_sem]) rfl ⟨B, m, mc, a1, a2, rfl, hd, he⟩
set_option maxRecDepth 100000 in
set_option maxHeartbeats 4000000 in
theorem DrawDoOverlap_any (A : Option Addr) (n c : Nat) (l : List Int) (w : World) (h : CodeOk w A n l) :
    Calls Try.prog 23 #[.slice A n c] w fun e w' => ∃ x y : Shade, e = .returned (.tuple #[.agg #[.string x.Name, .int .i64 x.Hue, .int .i64 x.Width, .int .i64 x.Dark, .int .i64 x.Light], .agg #[.string y.Name, .int .i64 y.Hue, .int .i64 y.Width, .int .i64 y.Dark, .int .i64 y.Light]]) ∧ ShadeSm x ∧ ShadeSm y ∧ Ext w w' := by
  have oz := own_block w 46 [.string ByteArray.empty, .int .i64 0, .int .i64 0, .int .i64 0, .int .i64 0]
  have oy := own_block (w.alloc (.cells #[.string ByteArray.empty, .int .i64 0, .int .i64 0, .int .i64 0, .int .i64 0] 46)) 46 [.string ByteArray.empty, .int .i64 0, .int .i64 0, .int .i64 0, .int .i64 0]
  simp only [World.size_alloc] at oy
  have E0 := ((Ext.refl w).alloc (.cells #[.string ByteArray.empty, .int .i64 0, .int .i64 0, .int .i64 0, .int .i64 0] 46)).alloc (.cells #[.string ByteArray.empty, .int .i64 0, .int .i64 0, .int .i64 0, .int .i64 0] 46)
  have OZ := Lib.hid (((Ext.refl _).alloc (.cells #[.string ByteArray.empty, .int .i64 0, .int .i64 0, .int .i64 0, .int .i64 0] 46)).own oz)
  have OY := Lib.hid (own_low' oy (show w.heap.size ≤ w.heap.size + 1 by omega))
  have K := Lib.hid ((h.ext E0).cur c)
  simp only [World.size_alloc] at K
  have nz : Value.ownBlock (.slice (some ⟨w.heap.size, 0, none⟩) 1 1) = none ∨ Value.ownBlock (.slice (some ⟨w.heap.size, 0, none⟩) 1 1) ≠ some (w.heap.size + 1 + 1) := Or.inr (by simp [Value.ownBlock]; omega)
  have ny : Value.ownBlock (.slice (some ⟨w.heap.size + 1, 0, none⟩) 1 1) = none ∨ Value.ownBlock (.slice (some ⟨w.heap.size + 1, 0, none⟩) 1 1) ≠ some (w.heap.size + 1 + 1) := Or.inr (by simp [Value.ownBlock])
  clear oz oy h
  go_enter Try.func23, Try.ntmps23
  go_wp2_with fail
  refine (shade7_any _ _ _ _ K.out (by omega) (by decide)).mono ?_
  rintro e w2 ⟨v, rfl, ⟨x, rfl, hx⟩, C2, G2⟩
  go_wp2_with fail
  refine (shade7_any _ _ _ _ C2 (by omega) (by decide)).mono ?_
  rintro e w3 ⟨v, rfl, ⟨y, rfl, hy⟩, C3, G3⟩
  have OZ3 := Lib.hid ((((Ext.refl _).alloc _).own OZ.out |>.kept G2 nz).kept G3 nz)
  have OY3 := Lib.hid ((((Ext.refl _).alloc _).own OY.out |>.kept G2 ny).kept G3 ny)
  have G := Lib.hid (grown_trans G2 G3)
  clear G2 G3 C2 C3
  go_wp2_with (first
    | (refine wpList_store_own rfl 46 (.tmp 2) (.tmp 9) rfl w.heap.size 0 [.string x.Name, .int .i64 x.Hue, .int .i64 x.Width, .int .i64 x.Dark, .int .i64 x.Light] rfl rfl w.heap.size 46 5 1 1 _ OZ3.out (by simp) shade_size rfl ?_; intro w8 ho8 hg8; have OY4 := Lib.hid (OY3.out.kept hg8 (Or.inr (by simp [Value.ownBlock]))))
    | (refine wpList_store_own rfl 46 (.tmp 3) (.tmp 11) rfl (w.heap.size + 1) 0 [.string y.Name, .int .i64 y.Hue, .int .i64 y.Width, .int .i64 y.Dark, .int .i64 y.Light] rfl rfl w.heap.size 46 5 1 1 _ OY4.out (by simp) shade_size rfl ?_; intro w9 ho9 hg9))
  have ho8b := ho8.kept hg9 (Or.inr (by simp [Value.ownBlock]))
  have r0 := own_at ho8b (j := 0) rfl
  have r1 := own_at ho8b (j := 1) rfl
  have r2 := own_at ho8b (j := 2) rfl
  have r3 := own_at ho8b (j := 3) rfl
  have r4 := own_at ho8b (j := 4) rfl
  have s0 := own_at ho9 (j := 0) rfl
  have s1 := own_at ho9 (j := 1) rfl
  have s2 := own_at ho9 (j := 2) rfl
  have s3 := own_at ho9 (j := 3) rfl
  have s4 := own_at ho9 (j := 4) rfl
  have EF := Lib.hid (((E0.trans (ext_of_cur (w := (w.alloc (.cells #[.string ByteArray.empty, .int .i64 0, .int .i64 0, .int .i64 0, .int .i64 0] 46)).alloc (.cells #[.string ByteArray.empty, .int .i64 0, .int .i64 0, .int .i64 0, .int .i64 0] 46)) (by simp only [World.size_alloc]; exact G.out))).row hg8 (Nat.le_refl _)).row hg9 (Nat.le_succ _))
  exact bodyPost_ret (v := .tuple #[.agg #[.string x.Name, .int .i64 x.Hue, .int .i64 x.Width, .int .i64 x.Dark, .int .i64 x.Light], .agg #[.string y.Name, .int .i64 y.Hue, .int .i64 y.Width, .int .i64 y.Dark, .int .i64 y.Light]]) (by simp [results, Try.results23, go_sem, r0, r1, r2, r3, r4, s0, s1, s2, s3, s4]) rfl ⟨x, y, rfl, hx, hy, EF.out⟩
end Go.Proofs.Ytekfccfghmggmaa
