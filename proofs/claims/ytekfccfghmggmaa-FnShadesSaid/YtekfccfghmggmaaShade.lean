/- A shade by value: its size, its copy, whether it is valid. -/
import Derived.Test.YtekfccfghmggmaaWord
import Derived.Test.YtekfccfghmggmaaHues
import Derived.Test.YtekfccfghmggmaaStructs
namespace Go.Proofs.Ytekfccfghmggmaa
open Go.RowKit
set_option linter.unusedVariables false
set_option linter.unusedSimpArgs false

def shOk (nm : ByteArray) (hue wd dk lt : Int) : Bool := wordOk nm && inB hue 0 359 && inB wd 0 179 && inB dk 0 lt && decide (lt ≤ 100)

theorem shOk_eq (nm : ByteArray) (hue wd dk lt : Int) : shOk nm hue wd dk lt = (wordOk nm && inB hue 0 359 && inB wd 0 179 && inB lt 0 100 && inB dk 0 lt) := by
  have : (inB dk 0 lt && decide (lt ≤ 100)) = (inB lt 0 100 && inB dk 0 lt) := by
    rw [Bool.eq_iff_iff]; simp only [inB, Bool.and_eq_true, decide_eq_true_eq]; omega
  simp only [shOk, Bool.and_assoc, this]

set_option maxHeartbeats 400000 in
theorem szShade_any (nm : ByteArray) (hue wd dk lt left : Int) (hn : nm.size ≤ maxLen) (h1 : 0 ≤ left) (h2 : left ≤ 1048576) (w : World) :
    Calls Try.prog 31 #[.agg #[.string nm, .int .i64 hue, .int .i64 wd, .int .i64 dk, .int .i64 lt], .int .i64 left] w fun e w' =>
      e = .returned (.int .i64 (if left - nm.size < 0 then -1 else left - nm.size)) ∧ Ext w w' := by
  unfold maxLen at hn
  by_cases h : left - nm.size < 0
  all_goals
    go_enter Try.func31, Try.ntmps31
    go_wp2
    go_ret
    exact ⟨ret_int (by simp [h]), (Ext.refl _).alloc _⟩

set_option maxHeartbeats 400000 in
theorem toShade_any (nm : ByteArray) (hue wd dk lt : Int) (w : World) :
    Calls Try.prog 34 #[.agg #[.string nm, .int .i64 hue, .int .i64 wd, .int .i64 dk, .int .i64 lt]] w fun e w' =>
      e = .returned (.agg #[.string nm, .int .i64 hue, .int .i64 wd, .int .i64 dk, .int .i64 lt]) ∧ Ext w w' := by
  go_enter Try.func34, Try.ntmps34
  go_wp2
  exact bodyPost_ret (v := .agg #[.string nm, .int .i64 hue, .int .i64 wd, .int .i64 dk, .int .i64 lt]) (by simp [results, Try.results34, go_sem]) rfl ⟨rfl, (((Ext.refl _).alloc _).alloc _).alloc _⟩

set_option maxHeartbeats 400000 in
theorem isShade_any (nm : ByteArray) (hue wd dk lt : Int) (hn : nm.size ≤ maxLen) (w : World) :
    Calls Try.prog 54 #[.agg #[.string nm, .int .i64 hue, .int .i64 wd, .int .i64 dk, .int .i64 lt]] w fun e w' =>
      e = .returned (.bool (shOk nm hue wd dk lt)) ∧ Ext w w' := by
  rcases chain4 (wordOk nm) (inB hue 0 359) (inB wd 0 179) (inB dk 0 lt) with h1 | ⟨h1, h2⟩ | ⟨h1, h2, h3⟩ | ⟨h1, h2, h3, h4⟩ | ⟨h1, h2, h3, h4⟩
  all_goals
    go_enter Try.func54, Try.ntmps54
    go_wp2_with (first | (go_at_call 67; refine (isWord_any _ (by assumption) _).mono ?_; rintro e w' ⟨rfl, rfl⟩) | (go_at_call 43; refine (isHue_any _ _).mono ?_; rintro e w' ⟨rfl, rfl⟩) | (go_at_call 59; refine (inRange_any _ _ _ _).mono ?_; rintro e w' ⟨rfl, rfl⟩))
    go_ret
    exact ⟨ret_bool (by simp [shOk, *]), (Ext.refl _).alloc _⟩

set_option maxHeartbeats 400000 in
theorem l7One_any (nm : ByteArray) (hue wd dk lt : Int) (hn : nm.size ≤ maxLen) (w : World) :
    Calls Try.prog 55 #[.agg #[.string nm, .int .i64 hue, .int .i64 wd, .int .i64 dk, .int .i64 lt]] w fun e w' =>
      e = .returned (.bool (shOk nm hue wd dk lt)) ∧ Ext w w' := by
  rcases chain5 (wordOk nm) (inB hue 0 359) (inB wd 0 179) (inB lt 0 100) (inB dk 0 lt) with h1 | ⟨h1, h2⟩ | ⟨h1, h2, h3⟩ | ⟨h1, h2, h3, h4⟩ | ⟨h1, h2, h3, h4, h5⟩ | ⟨h1, h2, h3, h4, h5⟩
  all_goals
    have hs : shOk nm hue wd dk lt = (wordOk nm && inB hue 0 359 && inB wd 0 179 && inB lt 0 100 && inB dk 0 lt) := shOk_eq _ _ _ _ _
    rw [hs]
    clear hs
    go_enter Try.func55, Try.ntmps55
    go_wp2_with (first | (go_at_call 68; refine (l2Word_any _ (by assumption) _).mono ?_; rintro e w' ⟨rfl, rfl⟩) | (go_at_call 49; refine (l7Hue_any _ _).mono ?_; rintro e w' ⟨rfl, rfl⟩) | (go_at_call 50; refine (l1In_any _ _ _ _).mono ?_; rintro e w' ⟨rfl, rfl⟩))
    go_ret
    exact ⟨ret_bool (by simp [*]), (Ext.refl _).alloc _⟩

end Go.Proofs.Ytekfccfghmggmaa
