/- Colors that a shade takes in; shades that overlap. -/
import Derived.Test.YtekfccfghmggmaaShade
import Derived.Deep.QuietTactic
import Derived.BigQuiet
import Derived.Deep.RegionHeld3
import Derived.Deep.DrawnRows
namespace Go.Proofs.Ytekfccfghmggmaa
open Go.RowKit
set_option linter.unusedVariables false
set_option linter.unusedSimpArgs false

theorem shOk_all {nm : ByteArray} {hue wd dk lt : Int} (h : shOk nm hue wd dk lt = true) : wordOk nm = true ∧ (0 ≤ hue ∧ hue ≤ 359) ∧ (0 ≤ wd ∧ wd ≤ 179) ∧ (0 ≤ dk ∧ dk ≤ lt) ∧ lt ≤ 100 := by
  simpa [shOk, inB, Bool.and_eq_true, and_assoc] using h

/-- How many colors a shade takes in. -/
def colors (nm : ByteArray) (hue wd dk lt : Int) : Int := if shOk nm hue wd dk lt then (2 * wd + 1) * (lt - dk + 1) else 0



/-- Two shades take in a color together. -/
def meet (h1 w1 d1 l1 h2 w2 d2 l2 : Int) : Bool := decide (hueDist h1 h2 ≤ w1 + w2) && (decide (d1 ≤ l2) && decide (d2 ≤ l1))

set_option maxHeartbeats 400000 in
theorem overlap_any (nm1 nm2 : ByteArray) (h1 w1 d1 l1 h2 w2 d2 l2 : Int) (hs1 : shOk nm1 h1 w1 d1 l1 = true) (hs2 : shOk nm2 h2 w2 d2 l2 = true) (w : World) :
    Calls Try.prog 36 #[.agg #[.string nm1, .int .i64 h1, .int .i64 w1, .int .i64 d1, .int .i64 l1], .agg #[.string nm2, .int .i64 h2, .int .i64 w2, .int .i64 d2, .int .i64 l2]] w fun e w' =>
      e = .returned (.bool (meet h1 w1 d1 l1 h2 w2 d2 l2)) ∧ Ext w w' := by
  obtain ⟨_, ⟨a2, a3⟩, ⟨a4, a5⟩, ⟨a6, a7⟩, a8⟩ := shOk_all hs1
  obtain ⟨_, ⟨b2, b3⟩, ⟨b4, b5⟩, ⟨b6, b7⟩, b8⟩ := shOk_all hs2
  clear hs1 hs2
  by_cases hd : hueDist h1 h2 ≤ w1 + w2
  · have hd' : decide (hueDist h1 h2 ≤ w1 + w2) = true := by simpa using hd
    go_enter Try.func36, Try.ntmps36
    go_wp2
    go_quiet ((go_at_call 48; exact quiet_left (hueDistance_any _ _ (by omega) (by omega) (by omega) (by omega) _)))
    go_wp2
    all_goals
      go_ret
      exact ⟨ret_bool (by rw [Bool.eq_iff_iff]; simp only [meet, hd', Bool.true_and, Bool.and_eq_true, decide_eq_true_eq, eq_self, true_iff]; omega), by repeat (first | exact Ext.refl _ | refine Ext.drewN ?_ _ | refine Ext.alloc ?_ _)⟩
  · have hd' : decide (hueDist h1 h2 ≤ w1 + w2) = false := by simpa using hd
    go_enter Try.func36, Try.ntmps36
    go_wp2
    go_quiet ((go_at_call 48; exact quiet_left (hueDistance_any _ _ (by omega) (by omega) (by omega) (by omega) _)))
    go_wp2
    go_ret
    exact ⟨ret_bool (by simp [meet, hd']), by repeat (first | exact Ext.refl _ | refine Ext.drewN ?_ _ | refine Ext.alloc ?_ _)⟩

set_option maxHeartbeats 400000 in
theorem l7Meet_any (nm1 nm2 : ByteArray) (h1 w1 d1 l1 h2 w2 d2 l2 : Int) (hs1 : shOk nm1 h1 w1 d1 l1 = true) (hs2 : shOk nm2 h2 w2 d2 l2 = true) (w : World) :
    Calls Try.prog 33 #[.agg #[.string nm1, .int .i64 h1, .int .i64 w1, .int .i64 d1, .int .i64 l1], .agg #[.string nm2, .int .i64 h2, .int .i64 w2, .int .i64 d2, .int .i64 l2]] w fun e w' =>
      e = .returned (.bool (meet h1 w1 d1 l1 h2 w2 d2 l2)) ∧ Ext w w' := by
  obtain ⟨_, ⟨a2, a3⟩, ⟨a4, a5⟩, ⟨a6, a7⟩, a8⟩ := shOk_all hs1
  obtain ⟨_, ⟨b2, b3⟩, ⟨b4, b5⟩, ⟨b6, b7⟩, b8⟩ := shOk_all hs2
  clear hs1 hs2
  rcases chain2 (decide (hueDist h1 h2 ≤ w1 + w2)) (decide (d1 ≤ l2)) with hd | ⟨hd, hd2⟩ | ⟨hd, hd2⟩
  all_goals
    go_enter Try.func33, Try.ntmps33
    go_wp2
    go_quiet ((go_at_call 52; exact quiet_left (l7Far_any _ _ (by omega) (by omega) (by omega) (by omega) _)))
    go_wp2
    go_ret
    exact ⟨ret_bool (by simp [meet, *]), by repeat (first | exact Ext.refl _ | refine Ext.drewN ?_ _ | refine Ext.alloc ?_ _)⟩

def overlapOk (nm1 nm2 : ByteArray) (h1 w1 d1 l1 h2 w2 d2 l2 : Int) : Bool := shOk nm1 h1 w1 d1 l1 && shOk nm2 h2 w2 d2 l2
def overlapR (nm1 nm2 : ByteArray) (h1 w1 d1 l1 h2 w2 d2 l2 : Int) : Bool := overlapOk nm1 nm2 h1 w1 d1 l1 h2 w2 d2 l2 && meet h1 w1 d1 l1 h2 w2 d2 l2

set_option maxHeartbeats 400000 in
theorem DoOverlapI_any (nm1 nm2 : ByteArray) (h1 w1 d1 l1 h2 w2 d2 l2 : Int) (hn1 : nm1.size ≤ maxLen) (hn2 : nm2.size ≤ maxLen) (w : World) :
    Calls Try.prog 24 #[.agg #[.string nm1, .int .i64 h1, .int .i64 w1, .int .i64 d1, .int .i64 l1], .agg #[.string nm2, .int .i64 h2, .int .i64 w2, .int .i64 d2, .int .i64 l2]] w fun e w' =>
      e = .returned (.tuple #[.bool (overlapR nm1 nm2 h1 w1 d1 l1 h2 w2 d2 l2), .bool (overlapOk nm1 nm2 h1 w1 d1 l1 h2 w2 d2 l2)]) ∧ Ext w w' := by
  rcases chain2 (shOk nm1 h1 w1 d1 l1) (shOk nm2 h2 w2 d2 l2) with hs1 | ⟨hs1, hs2⟩ | ⟨hs1, hs2⟩
  all_goals
    go_enter Try.func24, Try.ntmps24
    go_wp2_with (first
      | (go_at_call 54; refine (isShade_any _ _ _ _ _ (by assumption) _).mono ?_; rintro e wa ⟨rfl, he1⟩; have hc1 := he1.cells; have hz0 : w.heap.size < wa.heap.size := (by have h := he1.size; (try simp only [World.size_alloc, World.size_drew, szDrewN] at h); omega); have hz1 : w.heap.size + 1 < wa.heap.size := (by have h := he1.size; (try simp only [World.size_alloc, World.size_drew, szDrewN] at h); omega))
      | (go_at_call 36; refine (overlap_any _ _ _ _ _ _ _ _ _ _ (by assumption) (by assumption) _).mono ?_; rintro e wb ⟨rfl, he2⟩))
    go_ret2
    exact ⟨ret_bool_bool (by simp [overlapR, overlapOk, *]) (by simp [overlapOk, *]), by repeat (first | exact Ext.refl _ | refine Ext.trans ?_ (by assumption) | refine Ext.drewN ?_ _ | refine Ext.alloc ?_ _)⟩

set_option maxHeartbeats 400000 in
theorem DoOverlapS_any (nm1 nm2 : ByteArray) (h1 w1 d1 l1 h2 w2 d2 l2 : Int) (hn1 : nm1.size ≤ maxLen) (hn2 : nm2.size ≤ maxLen) (w : World) :
    Calls Try.prog 25 #[.agg #[.string nm1, .int .i64 h1, .int .i64 w1, .int .i64 d1, .int .i64 l1], .agg #[.string nm2, .int .i64 h2, .int .i64 w2, .int .i64 d2, .int .i64 l2]] w fun e w' =>
      e = .returned (.tuple #[.bool (overlapR nm1 nm2 h1 w1 d1 l1 h2 w2 d2 l2), .bool (overlapOk nm1 nm2 h1 w1 d1 l1 h2 w2 d2 l2)]) ∧ Ext w w' := by
  rcases chain2 (shOk nm1 h1 w1 d1 l1) (shOk nm2 h2 w2 d2 l2) with hs1 | ⟨hs1, hs2⟩ | ⟨hs1, hs2⟩
  all_goals
    go_enter Try.func25, Try.ntmps25
    go_wp2_with (first
      | (go_at_call 55; refine (l7One_any _ _ _ _ _ (by assumption) _).mono ?_; rintro e wa ⟨rfl, he1⟩; have hc1 := he1.cells; have hz0 : w.heap.size < wa.heap.size := (by have h := he1.size; (try simp only [World.size_alloc, World.size_drew, szDrewN] at h); omega); have hz1 : w.heap.size + 1 < wa.heap.size := (by have h := he1.size; (try simp only [World.size_alloc, World.size_drew, szDrewN] at h); omega))
      | (go_at_call 33; refine (l7Meet_any _ _ _ _ _ _ _ _ _ _ (by assumption) (by assumption) _).mono ?_; rintro e wb ⟨rfl, he2⟩))
    go_ret2
    exact ⟨ret_bool_bool (by simp [overlapR, overlapOk, *]) (by simp [overlapOk, *]), by repeat (first | exact Ext.refl _ | refine Ext.trans ?_ (by assumption) | refine Ext.drewN ?_ _ | refine Ext.alloc ?_ _)⟩

end Go.Proofs.Ytekfccfghmggmaa
