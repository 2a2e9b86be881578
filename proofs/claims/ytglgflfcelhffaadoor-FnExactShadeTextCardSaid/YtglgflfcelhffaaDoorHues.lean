/- The walks of the hue functions. -/
import Derived.Test.YtglgflfcelhffaaDoorNum
import Derived.Test.YtglgflfcelhffaaDoorMem
namespace Go.Proofs.YtglgflfcelhffaaDoor
open Go.RowKit
set_option linter.unusedVariables false
set_option linter.unusedSimpArgs false

set_option maxHeartbeats 400000 in
theorem hueDistance_any (a b : Int) (ha : 0 ≤ a) (ha' : a ≤ 359) (hb : 0 ≤ b) (hb' : b ≤ 359) (w : World) :
    Calls Tryd.prog 30 #[.int .i64 a, .int .i64 b] w fun e w' => e = .returned (.int .i64 (hueDist a b)) ∧ w = w' := by
  go_enter Tryd.func30, Tryd.ntmps30
  go_wp2_with (go_at_call 33; refine (modulo_any _ (by omega) (by omega) _).mono ?_; rintro e w' ⟨rfl, rfl⟩)
  all_goals
    go_ret
    exact ⟨ret_int (by unfold hueDist; omega), rfl⟩

set_option maxHeartbeats 400000 in
theorem l7Far_any (a b : Int) (ha : 0 ≤ a) (ha' : a ≤ 359) (hb : 0 ≤ b) (hb' : b ≤ 359) (w : World) :
    Calls Tryd.prog 32 #[.int .i64 a, .int .i64 b] w fun e w' => e = .returned (.int .i64 (hueDist a b)) ∧ w = w' := by
  go_enter Tryd.func32, Tryd.ntmps32
  go_wp2_with (first | (go_at_call 55; refine (l1Most_any _ _ _).mono ?_; rintro e w' ⟨rfl, rfl⟩) | (go_at_call 56; refine (l1Least_any _ _ _).mono ?_; rintro e w' ⟨rfl, rfl⟩))
  go_ret
  exact ⟨ret_int (by unfold hueDist; omega), rfl⟩

set_option maxHeartbeats 400000 in
theorem HueDistanceI_any (a b : Int) (w : World) :
    Calls Tryd.prog 11 #[.int .i64 a, .int .i64 b] w fun e w' => e = .returned (.tuple #[.int .i64 (hueDistR a b), .bool (hues a b)]) ∧ w = w' := by
  cases ha : inB a 0 359 <;> cases hb : inB b 0 359
  all_goals
    (first | (have ha2 := inB_iff.1 ha; have hb2 := inB_iff.1 hb; obtain ⟨_, _⟩ := ha2; obtain ⟨_, _⟩ := hb2) | skip)
    go_enter Tryd.func11, Tryd.ntmps11
    go_wp2_with (first | (go_at_call 29; refine (isHue_any _ _).mono ?_; rintro e w' ⟨rfl, rfl⟩) | (go_at_call 30; refine (hueDistance_any _ _ (by omega) (by omega) (by omega) (by omega) _).mono ?_; rintro e w' ⟨rfl, rfl⟩))
    go_ret2
    all_goals exact ⟨ret_int_bool (by simp [hueDistR, hues, ha, hb]) (by simp [hues, ha, hb]), rfl⟩

set_option maxHeartbeats 400000 in
theorem HueDistanceS_any (a b : Int) (w : World) :
    Calls Tryd.prog 12 #[.int .i64 a, .int .i64 b] w fun e w' => e = .returned (.tuple #[.int .i64 (hueDistR a b), .bool (hues a b)]) ∧ w = w' := by
  cases ha : inB a 0 359 <;> cases hb : inB b 0 359
  all_goals
    (first | (have ha2 := inB_iff.1 ha; have hb2 := inB_iff.1 hb; obtain ⟨_, _⟩ := ha2; obtain ⟨_, _⟩ := hb2) | skip)
    go_enter Tryd.func12, Tryd.ntmps12
    go_wp2_with (first | (go_at_call 31; refine (l7Hue_any _ _).mono ?_; rintro e w' ⟨rfl, rfl⟩) | (go_at_call 32; refine (l7Far_any _ _ (by omega) (by omega) (by omega) (by omega) _).mono ?_; rintro e w' ⟨rfl, rfl⟩))
    go_ret2
    all_goals exact ⟨ret_int_bool (by simp [hueDistR, hues, ha, hb]) (by simp [hues, ha, hb]), rfl⟩

set_option maxHeartbeats 400000 in
theorem BlendHueI_any (a b : Int) (w : World) :
    Calls Tryd.prog 13 #[.int .i64 a, .int .i64 b] w fun e w' => e = .returned (.tuple #[.int .i64 (blendR a b), .bool (hues a b)]) ∧ w = w' := by
  cases ha : inB a 0 359 <;> cases hb : inB b 0 359
  all_goals
    (first | (have ha2 := inB_iff.1 ha; have hb2 := inB_iff.1 hb; obtain ⟨_, _⟩ := ha2; obtain ⟨_, _⟩ := hb2) | skip)
    go_enter Tryd.func13, Tryd.ntmps13
    go_wp2_with (first | (go_at_call 29; refine (isHue_any _ _).mono ?_; rintro e w' ⟨rfl, rfl⟩) | (go_at_call 33; refine (modulo_any _ (by omega) (by omega) _).mono ?_; rintro e w' ⟨rfl, rfl⟩))
    all_goals
      go_ret2
      exact ⟨ret_int_bool (by simp only [blendR, hues, ha, hb, Bool.and_true, Bool.and_false, Bool.false_and, Bool.true_and, ↓reduceIte, Bool.false_eq_true]; try (unfold blend; omega)) (by simp [hues, ha, hb]), rfl⟩

set_option maxHeartbeats 400000 in
theorem BlendHueS_any (a b : Int) (w : World) :
    Calls Tryd.prog 14 #[.int .i64 a, .int .i64 b] w fun e w' => e = .returned (.tuple #[.int .i64 (blendR a b), .bool (hues a b)]) ∧ w = w' := by
  cases ha : inB a 0 359 <;> cases hb : inB b 0 359
  all_goals
    (first | (have ha2 := inB_iff.1 ha; have hb2 := inB_iff.1 hb; obtain ⟨_, _⟩ := ha2; obtain ⟨_, _⟩ := hb2) | skip)
    go_enter Tryd.func14, Tryd.ntmps14
    go_wp2_with (go_at_call 31; refine (l7Hue_any _ _).mono ?_; rintro e w' ⟨rfl, rfl⟩)
    all_goals
      go_ret2
      exact ⟨ret_int_bool (by simp only [blendR, hues, ha, hb, Bool.and_true, Bool.and_false, Bool.false_and, Bool.true_and, ↓reduceIte, Bool.false_eq_true]; try (unfold blend; omega)) (by simp [hues, ha, hb]), rfl⟩

end Go.Proofs.YtglgflfcelhffaaDoor
