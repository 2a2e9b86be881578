/- A shade by value: its size, its copy, whether it is valid. -/
import Derived.Test.YtglgflfcelhffaaWord
import Derived.Test.YtglgflfcelhffaaHues
import Derived.Test.YtglgflfcelhffaaStructs
namespace Go.Proofs.Ytglgflfcelhffaa
open Go.RowKit
set_option linter.unusedVariables false
set_option linter.unusedSimpArgs false

def shOk (nm : ByteArray) (hue wd dk lt : Int) : Bool := wordOk nm && inB hue 0 359 && inB wd 0 179 && inB dk 0 lt && decide (lt ≤ 100)

theorem shOk_eq (nm : ByteArray) (hue wd dk lt : Int) : shOk nm hue wd dk lt = (wordOk nm && inB hue 0 359 && inB wd 0 179 && inB lt 0 100 && inB dk 0 lt) := by
  have : (inB dk 0 lt && decide (lt ≤ 100)) = (inB lt 0 100 && inB dk 0 lt) := by
    rw [Bool.eq_iff_iff]; simp only [inB, Bool.and_eq_true, decide_eq_true_eq]; omega
  simp only [shOk, Bool.and_assoc, this]

set_option maxHeartbeats 400000 in
theorem szShade_any (nm : ByteArray) (hue wd dk lt left : Int) (hn : nm.size ≤ maxLen) (h1 : 0 ≤ left) (h2 : left ≤ 1048576) (w : World) :
    Calls Try.prog 19 #[.agg #[.string nm, .int .i64 hue, .int .i64 wd, .int .i64 dk, .int .i64 lt], .int .i64 left] w fun e w' =>
      e = .returned (.int .i64 (if left - nm.size < 0 then -1 else left - nm.size)) ∧ Ext w w' := by
  unfold maxLen at hn
  by_cases h : left - nm.size < 0
  all_goals
    go_enter Try.func19, Try.ntmps19
    go_wp2
    go_ret
    exact ⟨ret_int (by simp [h]), (Ext.refl _).alloc _⟩

set_option maxHeartbeats 400000 in
theorem toShade_any (nm : ByteArray) (hue wd dk lt : Int) (w : World) :
    Calls Try.prog 21 #[.agg #[.string nm, .int .i64 hue, .int .i64 wd, .int .i64 dk, .int .i64 lt]] w fun e w' =>
      e = .returned (.agg #[.string nm, .int .i64 hue, .int .i64 wd, .int .i64 dk, .int .i64 lt]) ∧ Ext w w' := by
  go_enter Try.func21, Try.ntmps21
  go_wp2
  exact bodyPost_ret (v := .agg #[.string nm, .int .i64 hue, .int .i64 wd, .int .i64 dk, .int .i64 lt]) (by simp [results, Try.results21, go_sem]) rfl ⟨rfl, (((Ext.refl _).alloc _).alloc _).alloc _⟩

set_option maxHeartbeats 400000 in
theorem isShade_any (nm : ByteArray) (hue wd dk lt : Int) (hn : nm.size ≤ maxLen) (w : World) :
    Calls Try.prog 61 #[.agg #[.string nm, .int .i64 hue, .int .i64 wd, .int .i64 dk, .int .i64 lt]] w fun e w' =>
      e = .returned (.bool (shOk nm hue wd dk lt)) ∧ Ext w w' := by
  rcases chain4 (wordOk nm) (inB hue 0 359) (inB wd 0 179) (inB dk 0 lt) with h1 | ⟨h1, h2⟩ | ⟨h1, h2, h3⟩ | ⟨h1, h2, h3, h4⟩ | ⟨h1, h2, h3, h4⟩
  all_goals
    go_enter Try.func61, Try.ntmps61
    go_wp2_with (first | (go_at_call 84; refine (isWord_any _ (by assumption) _).mono ?_; rintro e w' ⟨rfl, rfl⟩) | (go_at_call 56; refine (isHue_any _ _).mono ?_; rintro e w' ⟨rfl, rfl⟩) | (go_at_call 80; refine (inRange_any _ _ _ _).mono ?_; rintro e w' ⟨rfl, rfl⟩))
    go_ret
    exact ⟨ret_bool (by simp [shOk, *]), (Ext.refl _).alloc _⟩

set_option maxHeartbeats 400000 in
theorem l7One_any (nm : ByteArray) (hue wd dk lt : Int) (hn : nm.size ≤ maxLen) (w : World) :
    Calls Try.prog 60 #[.agg #[.string nm, .int .i64 hue, .int .i64 wd, .int .i64 dk, .int .i64 lt]] w fun e w' =>
      e = .returned (.bool (shOk nm hue wd dk lt)) ∧ Ext w w' := by
  rcases chain5 (wordOk nm) (inB hue 0 359) (inB wd 0 179) (inB lt 0 100) (inB dk 0 lt) with h1 | ⟨h1, h2⟩ | ⟨h1, h2, h3⟩ | ⟨h1, h2, h3, h4⟩ | ⟨h1, h2, h3, h4, h5⟩ | ⟨h1, h2, h3, h4, h5⟩
  all_goals
    have hs : shOk nm hue wd dk lt = (wordOk nm && inB hue 0 359 && inB wd 0 179 && inB lt 0 100 && inB dk 0 lt) := shOk_eq _ _ _ _ _
    rw [hs]
    clear hs
    go_enter Try.func60, Try.ntmps60
    go_wp2_with (first | (go_at_call 83; refine (l2Word_any _ (by assumption) _).mono ?_; rintro e w' ⟨rfl, rfl⟩) | (go_at_call 55; refine (l7Hue_any _ _).mono ?_; rintro e w' ⟨rfl, rfl⟩) | (go_at_call 67; refine (l1In_any _ _ _ _).mono ?_; rintro e w' ⟨rfl, rfl⟩))
    go_ret
    exact ⟨ret_bool (by simp [*]), (Ext.refl _).alloc _⟩

set_option maxHeartbeats 400000 in
theorem IsShadeI_any (nm : ByteArray) (hue wd dk lt : Int) (hn : nm.size ≤ maxLen) (w : World) :
    Calls Try.prog 22 #[.agg #[.string nm, .int .i64 hue, .int .i64 wd, .int .i64 dk, .int .i64 lt]] w fun e w' =>
      e = .returned (.bool (shOk nm hue wd dk lt)) ∧ Ext w w' := by
  go_enter Try.func22, Try.ntmps22
  go_wp2_with (go_at_call 61; refine (isShade_any _ _ _ _ _ (by assumption) _).mono ?_; rintro e w1 ⟨rfl, he1⟩)
  go_ret
  exact ⟨rfl, ((Ext.refl _).alloc _).trans he1⟩

set_option maxHeartbeats 400000 in
theorem IsShadeS_any (nm : ByteArray) (hue wd dk lt : Int) (hn : nm.size ≤ maxLen) (w : World) :
    Calls Try.prog 20 #[.agg #[.string nm, .int .i64 hue, .int .i64 wd, .int .i64 dk, .int .i64 lt]] w fun e w' =>
      e = .returned (.bool (shOk nm hue wd dk lt)) ∧ Ext w w' := by
  go_enter Try.func20, Try.ntmps20
  go_wp2_with (go_at_call 60; refine (l7One_any _ _ _ _ _ (by assumption) _).mono ?_; rintro e w1 ⟨rfl, he1⟩)
  go_ret
  exact ⟨rfl, ((Ext.refl _).alloc _).trans he1⟩

set_option maxHeartbeats 400000 in
theorem FnExactIsShade_any (nm : ByteArray) (hue wd dk lt : Int) (hn : nm.size ≤ maxLen) (w : World) :
    Calls Try.prog 5 #[.agg #[.string nm, .int .i64 hue, .int .i64 wd, .int .i64 dk, .int .i64 lt]] w fun e w' =>
      e = .returned (.bool true) ∧ Ext w w' := by
  by_cases hle : (1048576 : Int) - nm.size < 0
  all_goals
    go_enter Try.func5, Try.ntmps5
    go_wp2_with (first
      | (go_at_call 19; refine (szShade_any _ _ _ _ _ _ (by assumption) (by omega) (by omega) _).mono ?_; rintro e w1 ⟨rfl, he1⟩; have hc1 := he1.cells; have hz1 : w.heap.size < w1.heap.size := by (have h := he1.size; (try simp only [World.size_alloc] at h); omega))
      | (go_at_call 21; refine (toShade_any _ _ _ _ _ _).mono ?_; rintro e w2 ⟨rfl, he2⟩; have hc2 := he2.cells; have hz2 : w.heap.size < w2.heap.size := by (have h := he2.size; (try simp only [World.size_alloc] at h); omega))
      | (go_at_call 22; refine (IsShadeI_any _ _ _ _ _ (by assumption) _).mono ?_; rintro e w3 ⟨rfl, he3⟩; have hc3 := he3.cells; have hz3 : w.heap.size < w3.heap.size := by (have h := he3.size; (try simp only [World.size_alloc] at h); omega))
      | (go_at_call 20; refine (IsShadeS_any _ _ _ _ _ (by assumption) _).mono ?_; rintro e w4 ⟨rfl, he4⟩; have hc4 := he4.cells; have hz4 : w.heap.size < w4.heap.size := by (have h := he4.size; (try simp only [World.size_alloc] at h); omega)))
    go_ret
    exact ⟨rfl, by repeat (first | exact Ext.refl _ | refine Ext.trans ?_ (by assumption) | refine Ext.alloc ?_ _)⟩

end Go.Proofs.Ytglgflfcelhffaa
