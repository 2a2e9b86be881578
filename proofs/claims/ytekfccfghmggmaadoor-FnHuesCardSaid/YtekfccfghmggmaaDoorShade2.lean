/- Colors that a shade takes in; shades that overlap. -/
import Derived.Test.YtekfccfghmggmaaDoorShade
import Derived.Deep.QuietTactic
import Derived.BigQuiet
import Derived.Deep.RegionHeld3
import Derived.Deep.DrawnRows
namespace Go.Proofs.YtekfccfghmggmaaDoor
open Go.RowKit
set_option linter.unusedVariables false
set_option linter.unusedSimpArgs false

theorem shOk_all {nm : ByteArray} {hue wd dk lt : Int} (h : shOk nm hue wd dk lt = true) : wordOk nm = true ∧ (0 ≤ hue ∧ hue ≤ 359) ∧ (0 ≤ wd ∧ wd ≤ 179) ∧ (0 ≤ dk ∧ dk ≤ lt) ∧ lt ≤ 100 := by
  simpa [shOk, inB, Bool.and_eq_true, and_assoc] using h

/-- How many colors a shade takes in. -/
def colors (nm : ByteArray) (hue wd dk lt : Int) : Int := if shOk nm hue wd dk lt then (2 * wd + 1) * (lt - dk + 1) else 0

set_option maxHeartbeats 400000 in
theorem ColorsInI_any (nm : ByteArray) (hue wd dk lt : Int) (hn : nm.size ≤ maxLen) (w : World) :
    Calls Tryd.prog 17 #[.agg #[.string nm, .int .i64 hue, .int .i64 wd, .int .i64 dk, .int .i64 lt]] w fun e w' =>
      e = .returned (.tuple #[.int .i64 (colors nm hue wd dk lt), .bool (shOk nm hue wd dk lt)]) ∧ Ext w w' := by
  cases hs : shOk nm hue wd dk lt
  · go_enter Tryd.func17, Tryd.ntmps17
    go_wp2_with (go_at_call 43; refine (isShade_any _ _ _ _ _ (by assumption) _).mono ?_; rintro e w1 ⟨rfl, he1⟩)
    go_ret2
    exact ⟨ret_int_bool (by simp [colors, hs]) rfl, ((Ext.refl _).alloc _).trans he1⟩
  · obtain ⟨h1, ⟨h2, h3⟩, ⟨h4, h5⟩, ⟨h6, h7⟩, h8⟩ := shOk_all hs
    have hb : 0 ≤ (2 * wd + 1) * (lt - dk + 1) := Int.mul_nonneg (by omega) (by omega)
    have hb2 : (2 * wd + 1) * (lt - dk + 1) ≤ 359 * 101 := Int.mul_le_mul (by omega) (by omega) (by omega) (by omega)
    go_enter Tryd.func17, Tryd.ntmps17
    go_wp2_with (go_at_call 43; refine (isShade_any _ _ _ _ _ (by assumption) _).mono ?_; rintro e w1 ⟨rfl, he1⟩; have hc1 := he1.cells; have hz1 : w.heap.size < w1.heap.size := (by have h := he1.size; (try simp only [World.size_alloc] at h); omega))
    go_ret2
    exact ⟨ret_int_bool (by simp [colors, hs]) rfl, ((Ext.refl _).alloc _).trans he1⟩

set_option maxHeartbeats 400000 in
theorem ColorsInS_any (nm : ByteArray) (hue wd dk lt : Int) (hn : nm.size ≤ maxLen) (w : World) :
    Calls Tryd.prog 18 #[.agg #[.string nm, .int .i64 hue, .int .i64 wd, .int .i64 dk, .int .i64 lt]] w fun e w' =>
      e = .returned (.tuple #[.int .i64 (colors nm hue wd dk lt), .bool (shOk nm hue wd dk lt)]) ∧ Ext w w' := by
  cases hs : shOk nm hue wd dk lt
  · go_enter Tryd.func18, Tryd.ntmps18
    go_wp2_with (go_at_call 44; refine (l7One_any _ _ _ _ _ (by assumption) _).mono ?_; rintro e w1 ⟨rfl, he1⟩)
    go_ret2
    exact ⟨ret_int_bool (by simp [colors, hs]) rfl, ((Ext.refl _).alloc _).trans he1⟩
  · obtain ⟨h1, ⟨h2, h3⟩, ⟨h4, h5⟩, ⟨h6, h7⟩, h8⟩ := shOk_all hs
    have hb : 0 ≤ (2 * wd + 1) * (lt - dk + 1) := Int.mul_nonneg (by omega) (by omega)
    have hb2 : (2 * wd + 1) * (lt - dk + 1) ≤ 359 * 101 := Int.mul_le_mul (by omega) (by omega) (by omega) (by omega)
    go_enter Tryd.func18, Tryd.ntmps18
    go_wp2_with (go_at_call 44; refine (l7One_any _ _ _ _ _ (by assumption) _).mono ?_; rintro e w1 ⟨rfl, he1⟩; have hc1 := he1.cells; have hz1 : w.heap.size < w1.heap.size := (by have h := he1.size; (try simp only [World.size_alloc] at h); omega))
    go_ret2
    exact ⟨ret_int_bool (by simp [colors, hs]) rfl, ((Ext.refl _).alloc _).trans he1⟩


/-- Two shades take in a color together. -/
def meet (h1 w1 d1 l1 h2 w2 d2 l2 : Int) : Bool := decide (hueDist h1 h2 ≤ w1 + w2) && (decide (d1 ≤ l2) && decide (d2 ≤ l1))

end Go.Proofs.YtekfccfghmggmaaDoor
