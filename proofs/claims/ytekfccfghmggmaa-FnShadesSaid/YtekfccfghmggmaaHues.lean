/- The walks of the hue functions. -/
import Derived.Test.YtekfccfghmggmaaNum
import Derived.Test.YtekfccfghmggmaaMem
namespace Go.Proofs.Ytekfccfghmggmaa
open Go.RowKit
set_option linter.unusedVariables false
set_option linter.unusedSimpArgs false

set_option maxHeartbeats 400000 in
theorem hueDistance_any (a b : Int) (ha : 0 ≤ a) (ha' : a ≤ 359) (hb : 0 ≤ b) (hb' : b ≤ 359) (w : World) :
    Calls Try.prog 48 #[.int .i64 a, .int .i64 b] w fun e w' => e = .returned (.int .i64 (hueDist a b)) ∧ w = w' := by
  go_enter Try.func48, Try.ntmps48
  go_wp2_with (go_at_call 61; refine (modulo_any _ (by omega) (by omega) _).mono ?_; rintro e w' ⟨rfl, rfl⟩)
  all_goals
    go_ret
    exact ⟨ret_int (by unfold hueDist; omega), rfl⟩

set_option maxHeartbeats 400000 in
theorem l7Far_any (a b : Int) (ha : 0 ≤ a) (ha' : a ≤ 359) (hb : 0 ≤ b) (hb' : b ≤ 359) (w : World) :
    Calls Try.prog 52 #[.int .i64 a, .int .i64 b] w fun e w' => e = .returned (.int .i64 (hueDist a b)) ∧ w = w' := by
  go_enter Try.func52, Try.ntmps52
  go_wp2_with (first | (go_at_call 62; refine (l1Most_any _ _ _).mono ?_; rintro e w' ⟨rfl, rfl⟩) | (go_at_call 63; refine (l1Least_any _ _ _).mono ?_; rintro e w' ⟨rfl, rfl⟩))
  go_ret
  exact ⟨ret_int (by unfold hueDist; omega), rfl⟩

set_option maxHeartbeats 400000 in
theorem HueDistanceI_any (a b : Int) (w : World) :
    Calls Try.prog 22 #[.int .i64 a, .int .i64 b] w fun e w' => e = .returned (.tuple #[.int .i64 (hueDistR a b), .bool (hues a b)]) ∧ w = w' := by
  cases ha : inB a 0 359 <;> cases hb : inB b 0 359
  all_goals
    (first | (have ha2 := inB_iff.1 ha; have hb2 := inB_iff.1 hb; obtain ⟨_, _⟩ := ha2; obtain ⟨_, _⟩ := hb2) | skip)
    go_enter Try.func22, Try.ntmps22
    go_wp2_with (first | (go_at_call 43; refine (isHue_any _ _).mono ?_; rintro e w' ⟨rfl, rfl⟩) | (go_at_call 48; refine (hueDistance_any _ _ (by omega) (by omega) (by omega) (by omega) _).mono ?_; rintro e w' ⟨rfl, rfl⟩))
    go_ret2
    all_goals exact ⟨ret_int_bool (by simp [hueDistR, hues, ha, hb]) (by simp [hues, ha, hb]), rfl⟩

end Go.Proofs.Ytekfccfghmggmaa
