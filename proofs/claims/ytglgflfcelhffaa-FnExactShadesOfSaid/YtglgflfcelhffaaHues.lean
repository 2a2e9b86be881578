/- The walks of the hue functions. -/
import Derived.Test.YtglgflfcelhffaaNum
import Derived.Test.YtglgflfcelhffaaMem
namespace Go.Proofs.Ytglgflfcelhffaa
open Go.RowKit
set_option linter.unusedVariables false
set_option linter.unusedSimpArgs false

set_option maxHeartbeats 400000 in
theorem hueDistance_any (a b : Int) (ha : 0 ≤ a) (ha' : a ≤ 359) (hb : 0 ≤ b) (hb' : b ≤ 359) (w : World) :
    Calls Try.prog 59 #[.int .i64 a, .int .i64 b] w fun e w' => e = .returned (.int .i64 (hueDist a b)) ∧ w = w' := by
  go_enter Try.func59, Try.ntmps59
  go_wp2_with (go_at_call 57; refine (modulo_any _ (by omega) (by omega) _).mono ?_; rintro e w' ⟨rfl, rfl⟩)
  all_goals
    go_ret
    exact ⟨ret_int (by unfold hueDist; omega), rfl⟩

set_option maxHeartbeats 400000 in
theorem l7Far_any (a b : Int) (ha : 0 ≤ a) (ha' : a ≤ 359) (hb : 0 ≤ b) (hb' : b ≤ 359) (w : World) :
    Calls Try.prog 58 #[.int .i64 a, .int .i64 b] w fun e w' => e = .returned (.int .i64 (hueDist a b)) ∧ w = w' := by
  go_enter Try.func58, Try.ntmps58
  go_wp2_with (first | (go_at_call 81; refine (l1Most_any _ _ _).mono ?_; rintro e w' ⟨rfl, rfl⟩) | (go_at_call 82; refine (l1Least_any _ _ _).mono ?_; rintro e w' ⟨rfl, rfl⟩))
  go_ret
  exact ⟨ret_int (by unfold hueDist; omega), rfl⟩

set_option maxHeartbeats 400000 in
theorem HueDistanceI_any (a b : Int) (w : World) :
    Calls Try.prog 18 #[.int .i64 a, .int .i64 b] w fun e w' => e = .returned (.tuple #[.int .i64 (hueDistR a b), .bool (hues a b)]) ∧ w = w' := by
  cases ha : inB a 0 359 <;> cases hb : inB b 0 359
  all_goals
    (first | (have ha2 := inB_iff.1 ha; have hb2 := inB_iff.1 hb; obtain ⟨_, _⟩ := ha2; obtain ⟨_, _⟩ := hb2) | skip)
    go_enter Try.func18, Try.ntmps18
    go_wp2_with (first | (go_at_call 56; refine (isHue_any _ _).mono ?_; rintro e w' ⟨rfl, rfl⟩) | (go_at_call 59; refine (hueDistance_any _ _ (by omega) (by omega) (by omega) (by omega) _).mono ?_; rintro e w' ⟨rfl, rfl⟩))
    go_ret2
    all_goals exact ⟨ret_int_bool (by simp [hueDistR, hues, ha, hb]) (by simp [hues, ha, hb]), rfl⟩

set_option maxHeartbeats 400000 in
theorem HueDistanceS_any (a b : Int) (w : World) :
    Calls Try.prog 17 #[.int .i64 a, .int .i64 b] w fun e w' => e = .returned (.tuple #[.int .i64 (hueDistR a b), .bool (hues a b)]) ∧ w = w' := by
  cases ha : inB a 0 359 <;> cases hb : inB b 0 359
  all_goals
    (first | (have ha2 := inB_iff.1 ha; have hb2 := inB_iff.1 hb; obtain ⟨_, _⟩ := ha2; obtain ⟨_, _⟩ := hb2) | skip)
    go_enter Try.func17, Try.ntmps17
    go_wp2_with (first | (go_at_call 55; refine (l7Hue_any _ _).mono ?_; rintro e w' ⟨rfl, rfl⟩) | (go_at_call 58; refine (l7Far_any _ _ (by omega) (by omega) (by omega) (by omega) _).mono ?_; rintro e w' ⟨rfl, rfl⟩))
    go_ret2
    all_goals exact ⟨ret_int_bool (by simp [hueDistR, hues, ha, hb]) (by simp [hues, ha, hb]), rfl⟩

set_option maxHeartbeats 400000 in
theorem BlendHueI_any (a b : Int) (w : World) :
    Calls Try.prog 16 #[.int .i64 a, .int .i64 b] w fun e w' => e = .returned (.tuple #[.int .i64 (blendR a b), .bool (hues a b)]) ∧ w = w' := by
  cases ha : inB a 0 359 <;> cases hb : inB b 0 359
  all_goals
    (first | (have ha2 := inB_iff.1 ha; have hb2 := inB_iff.1 hb; obtain ⟨_, _⟩ := ha2; obtain ⟨_, _⟩ := hb2) | skip)
    go_enter Try.func16, Try.ntmps16
    go_wp2_with (first | (go_at_call 56; refine (isHue_any _ _).mono ?_; rintro e w' ⟨rfl, rfl⟩) | (go_at_call 57; refine (modulo_any _ (by omega) (by omega) _).mono ?_; rintro e w' ⟨rfl, rfl⟩))
    all_goals
      go_ret2
      exact ⟨ret_int_bool (by simp only [blendR, hues, ha, hb, Bool.and_true, Bool.and_false, Bool.false_and, Bool.true_and, ↓reduceIte, Bool.false_eq_true]; try (unfold blend; omega)) (by simp [hues, ha, hb]), rfl⟩

set_option maxHeartbeats 400000 in
theorem BlendHueS_any (a b : Int) (w : World) :
    Calls Try.prog 15 #[.int .i64 a, .int .i64 b] w fun e w' => e = .returned (.tuple #[.int .i64 (blendR a b), .bool (hues a b)]) ∧ w = w' := by
  cases ha : inB a 0 359 <;> cases hb : inB b 0 359
  all_goals
    (first | (have ha2 := inB_iff.1 ha; have hb2 := inB_iff.1 hb; obtain ⟨_, _⟩ := ha2; obtain ⟨_, _⟩ := hb2) | skip)
    go_enter Try.func15, Try.ntmps15
    go_wp2_with (go_at_call 55; refine (l7Hue_any _ _).mono ?_; rintro e w' ⟨rfl, rfl⟩)
    all_goals
      go_ret2
      exact ⟨ret_int_bool (by simp only [blendR, hues, ha, hb, Bool.and_true, Bool.and_false, Bool.false_and, Bool.true_and, ↓reduceIte, Bool.false_eq_true]; try (unfold blend; omega)) (by simp [hues, ha, hb]), rfl⟩

set_option maxHeartbeats 400000 in
theorem FnExactHueDistance_any (a b : Int) (w : World) :
    Calls Try.prog 4 #[.int .i64 a, .int .i64 b] w fun e w' => e = .returned (.bool true) ∧ Ext w w' := by
  go_enter Try.func4, Try.ntmps4
  go_wp2_with (first | (go_at_call 17; refine (HueDistanceS_any _ _ _).mono ?_; rintro e w' ⟨rfl, rfl⟩) | (go_at_call 18; refine (HueDistanceI_any _ _ _).mono ?_; rintro e w' ⟨rfl, rfl⟩))
  go_ret
  exact ⟨rfl, Ext.refl _⟩
set_option maxHeartbeats 400000 in
theorem FnExactBlendHue_any (a b : Int) (w : World) :
    Calls Try.prog 3 #[.int .i64 a, .int .i64 b] w fun e w' => e = .returned (.bool true) ∧ Ext w w' := by
  go_enter Try.func3, Try.ntmps3
  go_wp2_with (first | (go_at_call 15; refine (BlendHueS_any _ _ _).mono ?_; rintro e w' ⟨rfl, rfl⟩) | (go_at_call 16; refine (BlendHueI_any _ _ _).mono ?_; rintro e w' ⟨rfl, rfl⟩))
  go_ret
  exact ⟨rfl, Ext.refl _⟩
end Go.Proofs.Ytglgflfcelhffaa
