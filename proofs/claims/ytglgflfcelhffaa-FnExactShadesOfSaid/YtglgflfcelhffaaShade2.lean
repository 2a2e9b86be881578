/- Colors that a shade takes in; shades that overlap. -/
import Derived.Test.YtglgflfcelhffaaShade
import Derived.Deep.QuietTactic
import Derived.BigQuiet
import Derived.Deep.RegionHeld3
import Derived.Deep.DrawnRows
namespace Go.Proofs.Ytglgflfcelhffaa
open Go.RowKit
set_option linter.unusedVariables false
set_option linter.unusedSimpArgs false

theorem shOk_all {nm : ByteArray} {hue wd dk lt : Int} (h : shOk nm hue wd dk lt = true) : wordOk nm = true ∧ (0 ≤ hue ∧ hue ≤ 359) ∧ (0 ≤ wd ∧ wd ≤ 179) ∧ (0 ≤ dk ∧ dk ≤ lt) ∧ lt ≤ 100 := by
  simpa [shOk, inB, Bool.and_eq_true, and_assoc] using h

/-- How many colors a shade takes in. -/
def colors (nm : ByteArray) (hue wd dk lt : Int) : Int := if shOk nm hue wd dk lt then (2 * wd + 1) * (lt - dk + 1) else 0

set_option maxHeartbeats 400000 in
theorem ColorsInI_any (nm : ByteArray) (hue wd dk lt : Int) (hn : nm.size ≤ maxLen) (w : World) :
    Calls Try.prog 24 #[.agg #[.string nm, .int .i64 hue, .int .i64 wd, .int .i64 dk, .int .i64 lt]] w fun e w' =>
      e = .returned (.tuple #[.int .i64 (colors nm hue wd dk lt), .bool (shOk nm hue wd dk lt)]) ∧ Ext w w' := by
  cases hs : shOk nm hue wd dk lt
  · go_enter Try.func24, Try.ntmps24
    go_wp2_with (go_at_call 61; refine (isShade_any _ _ _ _ _ (by assumption) _).mono ?_; rintro e w1 ⟨rfl, he1⟩)
    go_ret2
    exact ⟨ret_int_bool (by simp [colors, hs]) rfl, ((Ext.refl _).alloc _).trans he1⟩
  · obtain ⟨h1, ⟨h2, h3⟩, ⟨h4, h5⟩, ⟨h6, h7⟩, h8⟩ := shOk_all hs
    have hb : 0 ≤ (2 * wd + 1) * (lt - dk + 1) := Int.mul_nonneg (by omega) (by omega)
    have hb2 : (2 * wd + 1) * (lt - dk + 1) ≤ 359 * 101 := Int.mul_le_mul (by omega) (by omega) (by omega) (by omega)
    go_enter Try.func24, Try.ntmps24
    go_wp2_with (go_at_call 61; refine (isShade_any _ _ _ _ _ (by assumption) _).mono ?_; rintro e w1 ⟨rfl, he1⟩; have hc1 := he1.cells; have hz1 : w.heap.size < w1.heap.size := (by have h := he1.size; (try simp only [World.size_alloc] at h); omega))
    go_ret2
    exact ⟨ret_int_bool (by simp [colors, hs]) rfl, ((Ext.refl _).alloc _).trans he1⟩

set_option maxHeartbeats 400000 in
theorem ColorsInS_any (nm : ByteArray) (hue wd dk lt : Int) (hn : nm.size ≤ maxLen) (w : World) :
    Calls Try.prog 23 #[.agg #[.string nm, .int .i64 hue, .int .i64 wd, .int .i64 dk, .int .i64 lt]] w fun e w' =>
      e = .returned (.tuple #[.int .i64 (colors nm hue wd dk lt), .bool (shOk nm hue wd dk lt)]) ∧ Ext w w' := by
  cases hs : shOk nm hue wd dk lt
  · go_enter Try.func23, Try.ntmps23
    go_wp2_with (go_at_call 60; refine (l7One_any _ _ _ _ _ (by assumption) _).mono ?_; rintro e w1 ⟨rfl, he1⟩)
    go_ret2
    exact ⟨ret_int_bool (by simp [colors, hs]) rfl, ((Ext.refl _).alloc _).trans he1⟩
  · obtain ⟨h1, ⟨h2, h3⟩, ⟨h4, h5⟩, ⟨h6, h7⟩, h8⟩ := shOk_all hs
    have hb : 0 ≤ (2 * wd + 1) * (lt - dk + 1) := Int.mul_nonneg (by omega) (by omega)
    have hb2 : (2 * wd + 1) * (lt - dk + 1) ≤ 359 * 101 := Int.mul_le_mul (by omega) (by omega) (by omega) (by omega)
    go_enter Try.func23, Try.ntmps23
    go_wp2_with (go_at_call 60; refine (l7One_any _ _ _ _ _ (by assumption) _).mono ?_; rintro e w1 ⟨rfl, he1⟩; have hc1 := he1.cells; have hz1 : w.heap.size < w1.heap.size := (by have h := he1.size; (try simp only [World.size_alloc] at h); omega))
    go_ret2
    exact ⟨ret_int_bool (by simp [colors, hs]) rfl, ((Ext.refl _).alloc _).trans he1⟩

set_option maxHeartbeats 400000 in
theorem FnExactColorsIn_any (nm : ByteArray) (hue wd dk lt : Int) (hn : nm.size ≤ maxLen) (w : World) :
    Calls Try.prog 6 #[.agg #[.string nm, .int .i64 hue, .int .i64 wd, .int .i64 dk, .int .i64 lt]] w fun e w' =>
      e = .returned (.bool true) ∧ Ext w w' := by
  by_cases hle : (1048576 : Int) - nm.size < 0
  all_goals
    go_enter Try.func6, Try.ntmps6
    go_wp2_with (first
      | (go_at_call 19; refine (szShade_any _ _ _ _ _ _ (by assumption) (by omega) (by omega) _).mono ?_; rintro e w1 ⟨rfl, he1⟩; have hc1 := he1.cells; have hz1 : w.heap.size < w1.heap.size := (by have h := he1.size; (try simp only [World.size_alloc] at h); omega))
      | (go_at_call 21; refine (toShade_any _ _ _ _ _ _).mono ?_; rintro e w2 ⟨rfl, he2⟩; have hc2 := he2.cells; have hz2 : w.heap.size < w2.heap.size := by (have h := he2.size; (try simp only [World.size_alloc] at h); omega))
      | (go_at_call 24; refine (ColorsInI_any _ _ _ _ _ (by assumption) _).mono ?_; rintro e w3 ⟨rfl, he3⟩; have hc3 := he3.cells; have hz3 : w.heap.size < w3.heap.size := by (have h := he3.size; (try simp only [World.size_alloc] at h); omega))
      | (go_at_call 23; refine (ColorsInS_any _ _ _ _ _ (by assumption) _).mono ?_; rintro e w4 ⟨rfl, he4⟩; have hc4 := he4.cells; have hz4 : w.heap.size < w4.heap.size := by (have h := he4.size; (try simp only [World.size_alloc] at h); omega)))
    go_ret
    exact ⟨rfl, by repeat (first | exact Ext.refl _ | refine Ext.trans ?_ (by assumption) | refine Ext.alloc ?_ _)⟩

/-- Two shades take in a color together. -/
def meet (h1 w1 d1 l1 h2 w2 d2 l2 : Int) : Bool := decide (hueDist h1 h2 ≤ w1 + w2) && (decide (d1 ≤ l2) && decide (d2 ≤ l1))

set_option maxHeartbeats 400000 in
theorem overlap_any (nm1 nm2 : ByteArray) (h1 w1 d1 l1 h2 w2 d2 l2 : Int) (hs1 : shOk nm1 h1 w1 d1 l1 = true) (hs2 : shOk nm2 h2 w2 d2 l2 = true) (w : World) :
    Calls Try.prog 63 #[.agg #[.string nm1, .int .i64 h1, .int .i64 w1, .int .i64 d1, .int .i64 l1], .agg #[.string nm2, .int .i64 h2, .int .i64 w2, .int .i64 d2, .int .i64 l2]] w fun e w' =>
      e = .returned (.bool (meet h1 w1 d1 l1 h2 w2 d2 l2)) ∧ Ext w w' := by
  obtain ⟨_, ⟨a2, a3⟩, ⟨a4, a5⟩, ⟨a6, a7⟩, a8⟩ := shOk_all hs1
  obtain ⟨_, ⟨b2, b3⟩, ⟨b4, b5⟩, ⟨b6, b7⟩, b8⟩ := shOk_all hs2
  clear hs1 hs2
  by_cases hd : hueDist h1 h2 ≤ w1 + w2
  · have hd' : decide (hueDist h1 h2 ≤ w1 + w2) = true := by simpa using hd
    go_enter Try.func63, Try.ntmps63
    go_wp2
    go_quiet ((go_at_call 59; exact quiet_left (hueDistance_any _ _ (by omega) (by omega) (by omega) (by omega) _)))
    go_wp2
    all_goals
      go_ret
      exact ⟨ret_bool (by rw [Bool.eq_iff_iff]; simp only [meet, hd', Bool.true_and, Bool.and_eq_true, decide_eq_true_eq, eq_self, true_iff]; omega), by repeat (first | exact Ext.refl _ | refine Ext.drewN ?_ _ | refine Ext.alloc ?_ _)⟩
  · have hd' : decide (hueDist h1 h2 ≤ w1 + w2) = false := by simpa using hd
    go_enter Try.func63, Try.ntmps63
    go_wp2
    go_quiet ((go_at_call 59; exact quiet_left (hueDistance_any _ _ (by omega) (by omega) (by omega) (by omega) _)))
    go_wp2
    go_ret
    exact ⟨ret_bool (by simp [meet, hd']), by repeat (first | exact Ext.refl _ | refine Ext.drewN ?_ _ | refine Ext.alloc ?_ _)⟩

set_option maxHeartbeats 400000 in
theorem l7Meet_any (nm1 nm2 : ByteArray) (h1 w1 d1 l1 h2 w2 d2 l2 : Int) (hs1 : shOk nm1 h1 w1 d1 l1 = true) (hs2 : shOk nm2 h2 w2 d2 l2 = true) (w : World) :
    Calls Try.prog 62 #[.agg #[.string nm1, .int .i64 h1, .int .i64 w1, .int .i64 d1, .int .i64 l1], .agg #[.string nm2, .int .i64 h2, .int .i64 w2, .int .i64 d2, .int .i64 l2]] w fun e w' =>
      e = .returned (.bool (meet h1 w1 d1 l1 h2 w2 d2 l2)) ∧ Ext w w' := by
  obtain ⟨_, ⟨a2, a3⟩, ⟨a4, a5⟩, ⟨a6, a7⟩, a8⟩ := shOk_all hs1
  obtain ⟨_, ⟨b2, b3⟩, ⟨b4, b5⟩, ⟨b6, b7⟩, b8⟩ := shOk_all hs2
  clear hs1 hs2
  rcases chain2 (decide (hueDist h1 h2 ≤ w1 + w2)) (decide (d1 ≤ l2)) with hd | ⟨hd, hd2⟩ | ⟨hd, hd2⟩
  all_goals
    go_enter Try.func62, Try.ntmps62
    go_wp2
    go_quiet ((go_at_call 58; exact quiet_left (l7Far_any _ _ (by omega) (by omega) (by omega) (by omega) _)))
    go_wp2
    go_ret
    exact ⟨ret_bool (by simp [meet, *]), by repeat (first | exact Ext.refl _ | refine Ext.drewN ?_ _ | refine Ext.alloc ?_ _)⟩

def overlapOk (nm1 nm2 : ByteArray) (h1 w1 d1 l1 h2 w2 d2 l2 : Int) : Bool := shOk nm1 h1 w1 d1 l1 && shOk nm2 h2 w2 d2 l2
def overlapR (nm1 nm2 : ByteArray) (h1 w1 d1 l1 h2 w2 d2 l2 : Int) : Bool := overlapOk nm1 nm2 h1 w1 d1 l1 h2 w2 d2 l2 && meet h1 w1 d1 l1 h2 w2 d2 l2

set_option maxHeartbeats 400000 in
theorem DoOverlapI_any (nm1 nm2 : ByteArray) (h1 w1 d1 l1 h2 w2 d2 l2 : Int) (hn1 : nm1.size ≤ maxLen) (hn2 : nm2.size ≤ maxLen) (w : World) :
    Calls Try.prog 26 #[.agg #[.string nm1, .int .i64 h1, .int .i64 w1, .int .i64 d1, .int .i64 l1], .agg #[.string nm2, .int .i64 h2, .int .i64 w2, .int .i64 d2, .int .i64 l2]] w fun e w' =>
      e = .returned (.tuple #[.bool (overlapR nm1 nm2 h1 w1 d1 l1 h2 w2 d2 l2), .bool (overlapOk nm1 nm2 h1 w1 d1 l1 h2 w2 d2 l2)]) ∧ Ext w w' := by
  rcases chain2 (shOk nm1 h1 w1 d1 l1) (shOk nm2 h2 w2 d2 l2) with hs1 | ⟨hs1, hs2⟩ | ⟨hs1, hs2⟩
  all_goals
    go_enter Try.func26, Try.ntmps26
    go_wp2_with (first
      | (go_at_call 61; refine (isShade_any _ _ _ _ _ (by assumption) _).mono ?_; rintro e wa ⟨rfl, he1⟩; have hc1 := he1.cells; have hz0 : w.heap.size < wa.heap.size := (by have h := he1.size; (try simp only [World.size_alloc, World.size_drew, szDrewN] at h); omega); have hz1 : w.heap.size + 1 < wa.heap.size := (by have h := he1.size; (try simp only [World.size_alloc, World.size_drew, szDrewN] at h); omega))
      | (go_at_call 63; refine (overlap_any _ _ _ _ _ _ _ _ _ _ (by assumption) (by assumption) _).mono ?_; rintro e wb ⟨rfl, he2⟩))
    go_ret2
    exact ⟨ret_bool_bool (by simp [overlapR, overlapOk, *]) (by simp [overlapOk, *]), by repeat (first | exact Ext.refl _ | refine Ext.trans ?_ (by assumption) | refine Ext.drewN ?_ _ | refine Ext.alloc ?_ _)⟩

set_option maxHeartbeats 400000 in
theorem DoOverlapS_any (nm1 nm2 : ByteArray) (h1 w1 d1 l1 h2 w2 d2 l2 : Int) (hn1 : nm1.size ≤ maxLen) (hn2 : nm2.size ≤ maxLen) (w : World) :
    Calls Try.prog 25 #[.agg #[.string nm1, .int .i64 h1, .int .i64 w1, .int .i64 d1, .int .i64 l1], .agg #[.string nm2, .int .i64 h2, .int .i64 w2, .int .i64 d2, .int .i64 l2]] w fun e w' =>
      e = .returned (.tuple #[.bool (overlapR nm1 nm2 h1 w1 d1 l1 h2 w2 d2 l2), .bool (overlapOk nm1 nm2 h1 w1 d1 l1 h2 w2 d2 l2)]) ∧ Ext w w' := by
  rcases chain2 (shOk nm1 h1 w1 d1 l1) (shOk nm2 h2 w2 d2 l2) with hs1 | ⟨hs1, hs2⟩ | ⟨hs1, hs2⟩
  all_goals
    go_enter Try.func25, Try.ntmps25
    go_wp2_with (first
      | (go_at_call 60; refine (l7One_any _ _ _ _ _ (by assumption) _).mono ?_; rintro e wa ⟨rfl, he1⟩; have hc1 := he1.cells; have hz0 : w.heap.size < wa.heap.size := (by have h := he1.size; (try simp only [World.size_alloc, World.size_drew, szDrewN] at h); omega); have hz1 : w.heap.size + 1 < wa.heap.size := (by have h := he1.size; (try simp only [World.size_alloc, World.size_drew, szDrewN] at h); omega))
      | (go_at_call 62; refine (l7Meet_any _ _ _ _ _ _ _ _ _ _ (by assumption) (by assumption) _).mono ?_; rintro e wb ⟨rfl, he2⟩))
    go_ret2
    exact ⟨ret_bool_bool (by simp [overlapR, overlapOk, *]) (by simp [overlapOk, *]), by repeat (first | exact Ext.refl _ | refine Ext.trans ?_ (by assumption) | refine Ext.drewN ?_ _ | refine Ext.alloc ?_ _)⟩

set_option maxHeartbeats 1000000 in
theorem FnExactDoOverlap_any (nm1 nm2 : ByteArray) (h1 w1 d1 l1 h2 w2 d2 l2 : Int) (hn1 : nm1.size ≤ maxLen) (hn2 : nm2.size ≤ maxLen) (w : World) :
    Calls Try.prog 7 #[.agg #[.string nm1, .int .i64 h1, .int .i64 w1, .int .i64 d1, .int .i64 l1], .agg #[.string nm2, .int .i64 h2, .int .i64 w2, .int .i64 d2, .int .i64 l2]] w fun e w' =>
      e = .returned (.bool true) ∧ Ext w w' := by
  by_cases ha : (1048576 : Int) - nm1.size < 0
  · go_enter Try.func7, Try.ntmps7
    go_wp2_with (first
      | (go_at_call 19; refine (szShade_any _ _ _ _ _ _ (by assumption) (by omega) (by omega) _).mono ?_; rintro e wa ⟨rfl, he1⟩; have hc1 := he1.cells; have hz0 : w.heap.size < wa.heap.size := (by have h := he1.size; (try simp only [World.size_alloc, World.size_drew, szDrewN] at h); omega); have hz1 : w.heap.size + 1 < wa.heap.size := (by have h := he1.size; (try simp only [World.size_alloc, World.size_drew, szDrewN] at h); omega))
      | (go_at_call 21; refine (toShade_any _ _ _ _ _ _).mono ?_; rintro e wa ⟨rfl, he1⟩; have hc1 := he1.cells; have hz0 : w.heap.size < wa.heap.size := (by have h := he1.size; (try simp only [World.size_alloc, World.size_drew, szDrewN] at h); omega); have hz1 : w.heap.size + 1 < wa.heap.size := (by have h := he1.size; (try simp only [World.size_alloc, World.size_drew, szDrewN] at h); omega))
      | (go_at_call 26; refine (DoOverlapI_any _ _ _ _ _ _ _ _ _ _ (by assumption) (by assumption) _).mono ?_; rintro e wa ⟨rfl, he1⟩; have hc1 := he1.cells; have hz0 : w.heap.size < wa.heap.size := (by have h := he1.size; (try simp only [World.size_alloc, World.size_drew, szDrewN] at h); omega); have hz1 : w.heap.size + 1 < wa.heap.size := (by have h := he1.size; (try simp only [World.size_alloc, World.size_drew, szDrewN] at h); omega))
      | (go_at_call 25; refine (DoOverlapS_any _ _ _ _ _ _ _ _ _ _ (by assumption) (by assumption) _).mono ?_; rintro e wa ⟨rfl, he1⟩; have hc1 := he1.cells; have hz0 : w.heap.size < wa.heap.size := (by have h := he1.size; (try simp only [World.size_alloc, World.size_drew, szDrewN] at h); omega); have hz1 : w.heap.size + 1 < wa.heap.size := (by have h := he1.size; (try simp only [World.size_alloc, World.size_drew, szDrewN] at h); omega)))
    go_ret
    exact ⟨rfl, by repeat (first | exact Ext.refl _ | refine Ext.trans ?_ (by assumption) | refine Ext.alloc ?_ _)⟩
  by_cases hb : (1048576 : Int) - nm1.size - nm2.size < 0
  · go_enter Try.func7, Try.ntmps7
    go_wp2_with (first
      | (go_at_call 19; refine (szShade_any _ _ _ _ _ _ (by assumption) (by omega) (by omega) _).mono ?_; rintro e wa ⟨rfl, he1⟩; have hc1 := he1.cells; have hz0 : w.heap.size < wa.heap.size := (by have h := he1.size; (try simp only [World.size_alloc, World.size_drew, szDrewN] at h); omega); have hz1 : w.heap.size + 1 < wa.heap.size := (by have h := he1.size; (try simp only [World.size_alloc, World.size_drew, szDrewN] at h); omega))
      | (go_at_call 21; refine (toShade_any _ _ _ _ _ _).mono ?_; rintro e wa ⟨rfl, he1⟩; have hc1 := he1.cells; have hz0 : w.heap.size < wa.heap.size := (by have h := he1.size; (try simp only [World.size_alloc, World.size_drew, szDrewN] at h); omega); have hz1 : w.heap.size + 1 < wa.heap.size := (by have h := he1.size; (try simp only [World.size_alloc, World.size_drew, szDrewN] at h); omega))
      | (go_at_call 26; refine (DoOverlapI_any _ _ _ _ _ _ _ _ _ _ (by assumption) (by assumption) _).mono ?_; rintro e wa ⟨rfl, he1⟩; have hc1 := he1.cells; have hz0 : w.heap.size < wa.heap.size := (by have h := he1.size; (try simp only [World.size_alloc, World.size_drew, szDrewN] at h); omega); have hz1 : w.heap.size + 1 < wa.heap.size := (by have h := he1.size; (try simp only [World.size_alloc, World.size_drew, szDrewN] at h); omega))
      | (go_at_call 25; refine (DoOverlapS_any _ _ _ _ _ _ _ _ _ _ (by assumption) (by assumption) _).mono ?_; rintro e wa ⟨rfl, he1⟩; have hc1 := he1.cells; have hz0 : w.heap.size < wa.heap.size := (by have h := he1.size; (try simp only [World.size_alloc, World.size_drew, szDrewN] at h); omega); have hz1 : w.heap.size + 1 < wa.heap.size := (by have h := he1.size; (try simp only [World.size_alloc, World.size_drew, szDrewN] at h); omega)))
    go_ret
    exact ⟨rfl, by repeat (first | exact Ext.refl _ | refine Ext.trans ?_ (by assumption) | refine Ext.alloc ?_ _)⟩
  · go_enter Try.func7, Try.ntmps7
    go_wp2_with (first
      | (go_at_call 19; refine (szShade_any _ _ _ _ _ _ (by assumption) (by omega) (by omega) _).mono ?_; rintro e wa ⟨rfl, he1⟩; have hc1 := he1.cells; have hz0 : w.heap.size < wa.heap.size := (by have h := he1.size; (try simp only [World.size_alloc, World.size_drew, szDrewN] at h); omega); have hz1 : w.heap.size + 1 < wa.heap.size := (by have h := he1.size; (try simp only [World.size_alloc, World.size_drew, szDrewN] at h); omega))
      | (go_at_call 21; refine (toShade_any _ _ _ _ _ _).mono ?_; rintro e wa ⟨rfl, he1⟩; have hc1 := he1.cells; have hz0 : w.heap.size < wa.heap.size := (by have h := he1.size; (try simp only [World.size_alloc, World.size_drew, szDrewN] at h); omega); have hz1 : w.heap.size + 1 < wa.heap.size := (by have h := he1.size; (try simp only [World.size_alloc, World.size_drew, szDrewN] at h); omega))
      | (go_at_call 26; refine (DoOverlapI_any _ _ _ _ _ _ _ _ _ _ (by assumption) (by assumption) _).mono ?_; rintro e wa ⟨rfl, he1⟩; have hc1 := he1.cells; have hz0 : w.heap.size < wa.heap.size := (by have h := he1.size; (try simp only [World.size_alloc, World.size_drew, szDrewN] at h); omega); have hz1 : w.heap.size + 1 < wa.heap.size := (by have h := he1.size; (try simp only [World.size_alloc, World.size_drew, szDrewN] at h); omega))
      | (go_at_call 25; refine (DoOverlapS_any _ _ _ _ _ _ _ _ _ _ (by assumption) (by assumption) _).mono ?_; rintro e wa ⟨rfl, he1⟩; have hc1 := he1.cells; have hz0 : w.heap.size < wa.heap.size := (by have h := he1.size; (try simp only [World.size_alloc, World.size_drew, szDrewN] at h); omega); have hz1 : w.heap.size + 1 < wa.heap.size := (by have h := he1.size; (try simp only [World.size_alloc, World.size_drew, szDrewN] at h); omega)))
    go_region_held3 (fun w' => w'.cell? ⟨w.heap.size, 0, none⟩ = some (.string nm1) ∧ w'.cell? ⟨w.heap.size, 1, none⟩ = some (.int .i64 h1) ∧ w'.cell? ⟨w.heap.size, 2, none⟩ = some (.int .i64 w1) ∧ w'.cell? ⟨w.heap.size, 3, none⟩ = some (.int .i64 d1) ∧ w'.cell? ⟨w.heap.size, 4, none⟩ = some (.int .i64 l1) ∧ w'.cell? ⟨w.heap.size + 1, 0, none⟩ = some (.string nm2) ∧ w'.cell? ⟨w.heap.size + 1, 1, none⟩ = some (.int .i64 h2) ∧ w'.cell? ⟨w.heap.size + 1, 2, none⟩ = some (.int .i64 w2) ∧ w'.cell? ⟨w.heap.size + 1, 3, none⟩ = some (.int .i64 d2) ∧ w'.cell? ⟨w.heap.size + 1, 4, none⟩ = some (.int .i64 l2)) (((try dsimp only); go_split_ands; (repeat' apply And.intro) <;> first | assumption | exact Ext.cell1 he1 (by assumption) | (simp [*]; done) | (simp [*, go_sem, World.cell?_alloc_past]; done))) (first
      | (go_at_call 19; refine (szShade_any _ _ _ _ _ _ (by assumption) (by omega) (by omega) _).mono ?_; rintro e wa ⟨rfl, he1⟩; have hc1 := he1.cells; have hz0 : w.heap.size < wa.heap.size := (by have h := he1.size; (try simp only [World.size_alloc, World.size_drew, szDrewN] at h); omega); have hz1 : w.heap.size + 1 < wa.heap.size := (by have h := he1.size; (try simp only [World.size_alloc, World.size_drew, szDrewN] at h); omega))
      | (go_at_call 21; refine (toShade_any _ _ _ _ _ _).mono ?_; rintro e wa ⟨rfl, he1⟩; have hc1 := he1.cells; have hz0 : w.heap.size < wa.heap.size := (by have h := he1.size; (try simp only [World.size_alloc, World.size_drew, szDrewN] at h); omega); have hz1 : w.heap.size + 1 < wa.heap.size := (by have h := he1.size; (try simp only [World.size_alloc, World.size_drew, szDrewN] at h); omega))
      | (go_at_call 26; refine (DoOverlapI_any _ _ _ _ _ _ _ _ _ _ (by assumption) (by assumption) _).mono ?_; rintro e wa ⟨rfl, he1⟩; have hc1 := he1.cells; have hz0 : w.heap.size < wa.heap.size := (by have h := he1.size; (try simp only [World.size_alloc, World.size_drew, szDrewN] at h); omega); have hz1 : w.heap.size + 1 < wa.heap.size := (by have h := he1.size; (try simp only [World.size_alloc, World.size_drew, szDrewN] at h); omega))
      | (go_at_call 25; refine (DoOverlapS_any _ _ _ _ _ _ _ _ _ _ (by assumption) (by assumption) _).mono ?_; rintro e wa ⟨rfl, he1⟩; have hc1 := he1.cells; have hz0 : w.heap.size < wa.heap.size := (by have h := he1.size; (try simp only [World.size_alloc, World.size_drew, szDrewN] at h); omega); have hz1 : w.heap.size + 1 < wa.heap.size := (by have h := he1.size; (try simp only [World.size_alloc, World.size_drew, szDrewN] at h); omega)))
    go_wp2_with (first
      | (go_at_call 19; refine (szShade_any _ _ _ _ _ _ (by assumption) (by omega) (by omega) _).mono ?_; rintro e wa ⟨rfl, he1⟩; have hc1 := he1.cells; have hz0 : w.heap.size < wa.heap.size := (by have h := he1.size; (try simp only [World.size_alloc, World.size_drew, szDrewN] at h); omega); have hz1 : w.heap.size + 1 < wa.heap.size := (by have h := he1.size; (try simp only [World.size_alloc, World.size_drew, szDrewN] at h); omega))
      | (go_at_call 21; refine (toShade_any _ _ _ _ _ _).mono ?_; rintro e wa ⟨rfl, he1⟩; have hc1 := he1.cells; have hz0 : w.heap.size < wa.heap.size := (by have h := he1.size; (try simp only [World.size_alloc, World.size_drew, szDrewN] at h); omega); have hz1 : w.heap.size + 1 < wa.heap.size := (by have h := he1.size; (try simp only [World.size_alloc, World.size_drew, szDrewN] at h); omega))
      | (go_at_call 26; refine (DoOverlapI_any _ _ _ _ _ _ _ _ _ _ (by assumption) (by assumption) _).mono ?_; rintro e wa ⟨rfl, he1⟩; have hc1 := he1.cells; have hz0 : w.heap.size < wa.heap.size := (by have h := he1.size; (try simp only [World.size_alloc, World.size_drew, szDrewN] at h); omega); have hz1 : w.heap.size + 1 < wa.heap.size := (by have h := he1.size; (try simp only [World.size_alloc, World.size_drew, szDrewN] at h); omega))
      | (go_at_call 25; refine (DoOverlapS_any _ _ _ _ _ _ _ _ _ _ (by assumption) (by assumption) _).mono ?_; rintro e wa ⟨rfl, he1⟩; have hc1 := he1.cells; have hz0 : w.heap.size < wa.heap.size := (by have h := he1.size; (try simp only [World.size_alloc, World.size_drew, szDrewN] at h); omega); have hz1 : w.heap.size + 1 < wa.heap.size := (by have h := he1.size; (try simp only [World.size_alloc, World.size_drew, szDrewN] at h); omega)))
    go_region_held3 (fun w' => w'.cell? ⟨w.heap.size, 0, none⟩ = some (.string nm1) ∧ w'.cell? ⟨w.heap.size, 1, none⟩ = some (.int .i64 h1) ∧ w'.cell? ⟨w.heap.size, 2, none⟩ = some (.int .i64 w1) ∧ w'.cell? ⟨w.heap.size, 3, none⟩ = some (.int .i64 d1) ∧ w'.cell? ⟨w.heap.size, 4, none⟩ = some (.int .i64 l1) ∧ w'.cell? ⟨w.heap.size + 1, 0, none⟩ = some (.string nm2) ∧ w'.cell? ⟨w.heap.size + 1, 1, none⟩ = some (.int .i64 h2) ∧ w'.cell? ⟨w.heap.size + 1, 2, none⟩ = some (.int .i64 w2) ∧ w'.cell? ⟨w.heap.size + 1, 3, none⟩ = some (.int .i64 d2) ∧ w'.cell? ⟨w.heap.size + 1, 4, none⟩ = some (.int .i64 l2)) (((try dsimp only); go_split_ands; (repeat' apply And.intro) <;> first | assumption | exact Ext.cell1 he1 (by assumption) | (simp [*]; done) | (simp [*, go_sem, World.cell?_alloc_past]; done))) (first
      | (go_at_call 19; refine (szShade_any _ _ _ _ _ _ (by assumption) (by omega) (by omega) _).mono ?_; rintro e wa ⟨rfl, he1⟩; have hc1 := he1.cells; have hz0 : w.heap.size < wa.heap.size := (by have h := he1.size; (try simp only [World.size_alloc, World.size_drew, szDrewN] at h); omega); have hz1 : w.heap.size + 1 < wa.heap.size := (by have h := he1.size; (try simp only [World.size_alloc, World.size_drew, szDrewN] at h); omega))
      | (go_at_call 21; refine (toShade_any _ _ _ _ _ _).mono ?_; rintro e wa ⟨rfl, he1⟩; have hc1 := he1.cells; have hz0 : w.heap.size < wa.heap.size := (by have h := he1.size; (try simp only [World.size_alloc, World.size_drew, szDrewN] at h); omega); have hz1 : w.heap.size + 1 < wa.heap.size := (by have h := he1.size; (try simp only [World.size_alloc, World.size_drew, szDrewN] at h); omega))
      | (go_at_call 26; refine (DoOverlapI_any _ _ _ _ _ _ _ _ _ _ (by assumption) (by assumption) _).mono ?_; rintro e wa ⟨rfl, he1⟩; have hc1 := he1.cells; have hz0 : w.heap.size < wa.heap.size := (by have h := he1.size; (try simp only [World.size_alloc, World.size_drew, szDrewN] at h); omega); have hz1 : w.heap.size + 1 < wa.heap.size := (by have h := he1.size; (try simp only [World.size_alloc, World.size_drew, szDrewN] at h); omega))
      | (go_at_call 25; refine (DoOverlapS_any _ _ _ _ _ _ _ _ _ _ (by assumption) (by assumption) _).mono ?_; rintro e wa ⟨rfl, he1⟩; have hc1 := he1.cells; have hz0 : w.heap.size < wa.heap.size := (by have h := he1.size; (try simp only [World.size_alloc, World.size_drew, szDrewN] at h); omega); have hz1 : w.heap.size + 1 < wa.heap.size := (by have h := he1.size; (try simp only [World.size_alloc, World.size_drew, szDrewN] at h); omega)))
    go_wp2
    go_ret
    exact ⟨rfl, by repeat (first | exact Ext.refl _ | refine Ext.trans ?_ (by assumption) | refine Ext.drew ?_ | refine Ext.alloc ?_ _)⟩
end Go.Proofs.Ytglgflfcelhffaa
