/- IsShade, where its own law is not at hand. -/
import Derived.Test.YtekfccfghmggmaaShade
namespace Go.Proofs.Ytekfccfghmggmaa
open Go.RowKit
set_option linter.unusedVariables false
set_option linter.unusedSimpArgs false

set_option maxHeartbeats 400000 in
theorem IsShadeI_any (nm : ByteArray) (hue wd dk lt : Int) (hn : nm.size ≤ maxLen) (w : World) :
    Calls Try.prog 27 #[.agg #[.string nm, .int .i64 hue, .int .i64 wd, .int .i64 dk, .int .i64 lt]] w fun e w' =>
      e = .returned (.bool (shOk nm hue wd dk lt)) ∧ Ext w w' := by
  go_enter Try.func27, Try.ntmps27
  go_wp2_with (go_at_call 54; refine (isShade_any _ _ _ _ _ (by assumption) _).mono ?_; rintro e w1 ⟨rfl, he1⟩)
  go_ret
  exact ⟨rfl, ((Ext.refl _).alloc _).trans he1⟩

set_option maxHeartbeats 400000 in
theorem IsShadeS_any (nm : ByteArray) (hue wd dk lt : Int) (hn : nm.size ≤ maxLen) (w : World) :
    Calls Try.prog 28 #[.agg #[.string nm, .int .i64 hue, .int .i64 wd, .int .i64 dk, .int .i64 lt]] w fun e w' =>
      e = .returned (.bool (shOk nm hue wd dk lt)) ∧ Ext w w' := by
  go_enter Try.func28, Try.ntmps28
  go_wp2_with (go_at_call 55; refine (l7One_any _ _ _ _ _ (by assumption) _).mono ?_; rintro e w1 ⟨rfl, he1⟩)
  go_ret
  exact ⟨rfl, ((Ext.refl _).alloc _).trans he1⟩
end Go.Proofs.Ytekfccfghmggmaa
