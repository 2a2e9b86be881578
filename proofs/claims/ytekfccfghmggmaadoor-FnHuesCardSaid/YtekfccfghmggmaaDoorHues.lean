/- The walks of the hue functions. -/
import Derived.Test.YtekfccfghmggmaaDoorNum
import Derived.Test.YtekfccfghmggmaaDoorMem
namespace Go.Proofs.YtekfccfghmggmaaDoor
open Go.RowKit
set_option linter.unusedVariables false
set_option linter.unusedSimpArgs false

set_option maxHeartbeats 400000 in
theorem hueDistance_any (a b : Int) (ha : 0 ≤ a) (ha' : a ≤ 359) (hb : 0 ≤ b) (hb' : b ≤ 359) (w : World) :
    Calls Tryd.prog 23 #[.int .i64 a, .int .i64 b] w fun e w' => e = .returned (.int .i64 (hueDist a b)) ∧ w = w' := by
  go_enter Tryd.func23, Tryd.ntmps23
  go_wp2_with (go_at_call 26; refine (modulo_any _ (by omega) (by omega) _).mono ?_; rintro e w' ⟨rfl, rfl⟩)
  all_goals
    go_ret
    exact ⟨ret_int (by unfold hueDist; omega), rfl⟩

set_option maxHeartbeats 400000 in
theorem l7Far_any (a b : Int) (ha : 0 ≤ a) (ha' : a ≤ 359) (hb : 0 ≤ b) (hb' : b ≤ 359) (w : World) :
    Calls Tryd.prog 25 #[.int .i64 a, .int .i64 b] w fun e w' => e = .returned (.int .i64 (hueDist a b)) ∧ w = w' := by
  go_enter Tryd.func25, Tryd.ntmps25
  go_wp2_with (first | (go_at_call 49; refine (l1Most_any _ _ _).mono ?_; rintro e w' ⟨rfl, rfl⟩) | (go_at_call 50; refine (l1Least_any _ _ _).mono ?_; rintro e w' ⟨rfl, rfl⟩))
  go_ret
  exact ⟨ret_int (by unfold hueDist; omega), rfl⟩

set_option maxHeartbeats 400000 in
theorem HueDistanceI_any (a b : Int) (w : World) :
    Calls Tryd.prog 6 #[.int .i64 a, .int .i64 b] w fun e w' => e = .returned (.tuple #[.int .i64 (hueDistR a b), .bool (hues a b)]) ∧ w = w' := by
  cases ha : inB a 0 359 <;> cases hb : inB b 0 359
  all_goals
    (first | (have ha2 := inB_iff.1 ha; have hb2 := inB_iff.1 hb; obtain ⟨_, _⟩ := ha2; obtain ⟨_, _⟩ := hb2) | skip)
    go_enter Tryd.func6, Tryd.ntmps6
    go_wp2_with (first | (go_at_call 22; refine (isHue_any _ _).mono ?_; rintro e w' ⟨rfl, rfl⟩) | (go_at_call 23; refine (hueDistance_any _ _ (by omega) (by omega) (by omega) (by omega) _).mono ?_; rintro e w' ⟨rfl, rfl⟩))
    go_ret2
    all_goals exact ⟨ret_int_bool (by simp [hueDistR, hues, ha, hb]) (by simp [hues, ha, hb]), rfl⟩

set_option maxHeartbeats 400000 in
theorem HueDistanceS_any (a b : Int) (w : World) :
    Calls Tryd.prog 7 #[.int .i64 a, .int .i64 b] w fun e w' => e = .returned (.tuple #[.int .i64 (hueDistR a b), .bool (hues a b)]) ∧ w = w' := by
  cases ha : inB a 0 359 <;> cases hb : inB b 0 359
  all_goals
    (first | (have ha2 := inB_iff.1 ha; have hb2 := inB_iff.1 hb; obtain ⟨_, _⟩ := ha2; obtain ⟨_, _⟩ := hb2) | skip)
    go_enter Tryd.func7, Tryd.ntmps7
    go_wp2_with (first | (go_at_call 24; refine (l7Hue_any _ _).mono ?_; rintro e w' ⟨rfl, rfl⟩) | (go_at_call 25; refine (l7Far_any _ _ (by omega) (by omega) (by omega) (by omega) _).mono ?_; rintro e w' ⟨rfl, rfl⟩))
    go_ret2
    all_goals exact ⟨ret_int_bool (by simp [hueDistR, hues, ha, hb]) (by simp [hues, ha, hb]), rfl⟩

set_option maxHeartbeats 400000 in
theorem BlendHueI_any (a b : Int) (w : World) :
    Calls Tryd.prog 8 #[.int .i64 a, .int .i64 b] w fun e w' => e = .returned (.tuple #[.int .i64 (blendR a b), .bool (hues a b)]) ∧ w = w' := by
  cases ha : inB a 0 359 <;> cases hb : inB b 0 359
  all_goals
    (first | (have ha2 := inB_iff.1 ha; have hb2 := inB_iff.1 hb; obtain ⟨_, _⟩ := ha2; obtain ⟨_, _⟩ := hb2) | skip)
    go_enter Tryd.func8, Tryd.ntmps8
    go_wp2_with (first | (go_at_call 22; refine (isHue_any _ _).mono ?_; rintro e w' ⟨rfl, rfl⟩) | (go_at_call 26; refine (modulo_any _ (by omega) (by omega) _).mono ?_; rintro e w' ⟨rfl, rfl⟩))
    all_goals
      go_ret2
      exact ⟨ret_int_bool (by simp only [blendR, hues, ha, hb, Bool.and_true, Bool.and_false, Bool.false_and, Bool.true_and, ↓reduceIte, Bool.false_eq_true]; try (unfold blend; omega)) (by simp [hues, ha, hb]), rfl⟩

set_option maxHeartbeats 400000 in
theorem BlendHueS_any (a b : Int) (w : World) :
    Calls Tryd.prog 9 #[.int .i64 a, .int .i64 b] w fun e w' => e = .returned (.tuple #[.int .i64 (blendR a b), .bool (hues a b)]) ∧ w = w' := by
  cases ha : inB a 0 359 <;> cases hb : inB b 0 359
  all_goals
    (first | (have ha2 := inB_iff.1 ha; have hb2 := inB_iff.1 hb; obtain ⟨_, _⟩ := ha2; obtain ⟨_, _⟩ := hb2) | skip)
    go_enter Tryd.func9, Tryd.ntmps9
    go_wp2_with (go_at_call 24; refine (l7Hue_any _ _).mono ?_; rintro e w' ⟨rfl, rfl⟩)
    all_goals
      go_ret2
      exact ⟨ret_int_bool (by simp only [blendR, hues, ha, hb, Bool.and_true, Bool.and_false, Bool.false_and, Bool.true_and, ↓reduceIte, Bool.false_eq_true]; try (unfold blend; omega)) (by simp [hues, ha, hb]), rfl⟩

end Go.Proofs.YtekfccfghmggmaaDoor
