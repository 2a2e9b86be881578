/- A shade by value: its size, its copy, whether it is valid. -/
import Derived.Test.YtekfccfghmggmaaDoorWord
import Derived.Test.YtekfccfghmggmaaDoorHues
import Derived.Test.YtekfccfghmggmaaDoorStructs
namespace Go.Proofs.YtekfccfghmggmaaDoor
open Go.RowKit
set_option linter.unusedVariables false
set_option linter.unusedSimpArgs false

def shOk (nm : ByteArray) (hue wd dk lt : Int) : Bool := wordOk nm && inB hue 0 359 && inB wd 0 179 && inB dk 0 lt && decide (lt ≤ 100)

theorem shOk_eq (nm : ByteArray) (hue wd dk lt : Int) : shOk nm hue wd dk lt = (wordOk nm && inB hue 0 359 && inB wd 0 179 && inB lt 0 100 && inB dk 0 lt) := by
  have : (inB dk 0 lt && decide (lt ≤ 100)) = (inB lt 0 100 && inB dk 0 lt) := by
    rw [Bool.eq_iff_iff]; simp only [inB, Bool.and_eq_true, decide_eq_true_eq]; omega
  simp only [shOk, Bool.and_assoc, this]

set_option maxHeartbeats 400000 in
theorem isShade_any (nm : ByteArray) (hue wd dk lt : Int) (hn : nm.size ≤ maxLen) (w : World) :
    Calls Tryd.prog 43 #[.agg #[.string nm, .int .i64 hue, .int .i64 wd, .int .i64 dk, .int .i64 lt]] w fun e w' =>
      e = .returned (.bool (shOk nm hue wd dk lt)) ∧ Ext w w' := by
  rcases chain4 (wordOk nm) (inB hue 0 359) (inB wd 0 179) (inB dk 0 lt) with h1 | ⟨h1, h2⟩ | ⟨h1, h2, h3⟩ | ⟨h1, h2, h3, h4⟩ | ⟨h1, h2, h3, h4⟩
  all_goals
    go_enter Tryd.func43, Tryd.ntmps43
    go_wp2_with (first | (go_at_call 54; refine (isWord_any _ (by assumption) _).mono ?_; rintro e w' ⟨rfl, rfl⟩) | (go_at_call 22; refine (isHue_any _ _).mono ?_; rintro e w' ⟨rfl, rfl⟩) | (go_at_call 48; refine (inRange_any _ _ _ _).mono ?_; rintro e w' ⟨rfl, rfl⟩))
    go_ret
    exact ⟨ret_bool (by simp [shOk, *]), (Ext.refl _).alloc _⟩

set_option maxHeartbeats 400000 in
theorem l7One_any (nm : ByteArray) (hue wd dk lt : Int) (hn : nm.size ≤ maxLen) (w : World) :
    Calls Tryd.prog 44 #[.agg #[.string nm, .int .i64 hue, .int .i64 wd, .int .i64 dk, .int .i64 lt]] w fun e w' =>
      e = .returned (.bool (shOk nm hue wd dk lt)) ∧ Ext w w' := by
  rcases chain5 (wordOk nm) (inB hue 0 359) (inB wd 0 179) (inB lt 0 100) (inB dk 0 lt) with h1 | ⟨h1, h2⟩ | ⟨h1, h2, h3⟩ | ⟨h1, h2, h3, h4⟩ | ⟨h1, h2, h3, h4, h5⟩ | ⟨h1, h2, h3, h4, h5⟩
  all_goals
    have hs : shOk nm hue wd dk lt = (wordOk nm && inB hue 0 359 && inB wd 0 179 && inB lt 0 100 && inB dk 0 lt) := shOk_eq _ _ _ _ _
    rw [hs]
    clear hs
    go_enter Tryd.func44, Tryd.ntmps44
    go_wp2_with (first | (go_at_call 55; refine (l2Word_any _ (by assumption) _).mono ?_; rintro e w' ⟨rfl, rfl⟩) | (go_at_call 24; refine (l7Hue_any _ _).mono ?_; rintro e w' ⟨rfl, rfl⟩) | (go_at_call 38; refine (l1In_any _ _ _ _).mono ?_; rintro e w' ⟨rfl, rfl⟩))
    go_ret
    exact ⟨ret_bool (by simp [*]), (Ext.refl _).alloc _⟩

end Go.Proofs.YtekfccfghmggmaaDoor
