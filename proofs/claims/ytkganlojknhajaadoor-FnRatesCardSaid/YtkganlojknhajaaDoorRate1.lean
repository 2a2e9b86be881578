/- A Rate by value (made by wip/lists.py). -/
import Derived.Test.YtkganlojknhajaaDoorSmall
import Derived.Test.YtkganlojknhajaaDoorStructs
namespace Go.Proofs.YtkganlojknhajaaDoor
open Go.RowKit
set_option linter.unusedVariables false
set_option linter.unusedSimpArgs false
attribute [local go_sem] ExtOf.cell

def rtOk (Zone Grams From Until Cents : Int) : Bool := inB Zone 0 9 && inB Grams 1 2000 && inB Until 0 4000 && inB From 0 Until && inB Cents 1 9999

set_option maxHeartbeats 400000 in
theorem toRate_any (Zone Grams From Until Cents : Int) (w : World) :
    Calls Tryd.prog 6 #[.agg #[.int .i64 Zone, .int .i64 Grams, .int .i64 From, .int .i64 Until, .int .i64 Cents]] w fun e w' => e = .returned (.agg #[.int .i64 Zone, .int .i64 Grams, .int .i64 From, .int .i64 Until, .int .i64 Cents]) ∧ Ext w w' := by
  go_enter Tryd.func6, Tryd.ntmps6
  go_wp2
  exact bodyPost_ret (v := .agg #[.int .i64 Zone, .int .i64 Grams, .int .i64 From, .int .i64 Until, .int .i64 Cents]) (by simp [results, Tryd.results6, go_sem]) rfl ⟨rfl, (by repeat (first | exact Ext.refl _ | assumption | refine Ext.trans ?_ (by assumption) | refine Ext.drew ?_ | refine Ext.drewN ?_ _ | refine Ext.alloc ?_ _))⟩

set_option maxHeartbeats 1000000 in
theorem isRate_any (Zone Grams From Until Cents : Int) (w : World) :
    Calls Tryd.prog 26 #[.agg #[.int .i64 Zone, .int .i64 Grams, .int .i64 From, .int .i64 Until, .int .i64 Cents]] w fun e w' => e = .returned (.bool (rtOk Zone Grams From Until Cents)) ∧ Ext w w' := by
  have hs : rtOk Zone Grams From Until Cents = (inB Zone 0 9 && inB Grams 1 2000 && inB From 0 4000 && inB Until 0 4000 && decide (From ≤ Until) && inB Cents 1 9999) := by
    rw [Bool.eq_iff_iff]; simp only [rtOk, inB, Bool.and_eq_true, Bool.not_eq_true', bne_iff_ne, ne_eq, decide_eq_true_eq, decide_eq_false_iff_not]; try ((try unfold wrap64); omega)
  rw [hs]
  clear hs
  rcases chain6 (inB Zone 0 9) (inB Grams 1 2000) (inB From 0 4000) (inB Until 0 4000) (decide (From ≤ Until)) (inB Cents 1 9999) with h1 | ⟨h1, h2⟩ | ⟨h1, h2, h3⟩ | ⟨h1, h2, h3, h4⟩ | ⟨h1, h2, h3, h4, h5⟩ | ⟨h1, h2, h3, h4, h5, h6⟩ | ⟨h1, h2, h3, h4, h5, h6⟩
  all_goals
    go_enter Tryd.func26, Tryd.ntmps26
    go_wp2_with (first | (go_at_call 31; refine (isZone_any _ _).mono ?_; rintro e w' ⟨rfl, rfl⟩) | (go_at_call 32; refine (isWeight_any _ _).mono ?_; rintro e w' ⟨rfl, rfl⟩) | (go_at_call 38; refine (isDay_any _ _).mono ?_; rintro e w' ⟨rfl, rfl⟩) | (go_at_call 41; refine (isCents_any _ _).mono ?_; rintro e w' ⟨rfl, rfl⟩))
    go_ret
    exact ⟨ret_bool (by simp [*]), (by repeat (first | exact Ext.refl _ | assumption | refine Ext.trans ?_ (by assumption) | refine Ext.drew ?_ | refine Ext.drewN ?_ _ | refine Ext.alloc ?_ _))⟩

set_option maxHeartbeats 1000000 in
theorem l8One_any (Zone Grams From Until Cents : Int) (w : World) :
    Calls Tryd.prog 24 #[.agg #[.int .i64 Zone, .int .i64 Grams, .int .i64 From, .int .i64 Until, .int .i64 Cents]] w fun e w' => e = .returned (.bool (rtOk Zone Grams From Until Cents)) ∧ Ext w w' := by
  have hs : rtOk Zone Grams From Until Cents = (inB Zone 0 9 && inB Grams 1 2000 && inB Until 0 4000 && inB From 0 Until && inB Cents 1 9999) := by
    rw [Bool.eq_iff_iff]; simp only [rtOk, inB, Bool.and_eq_true, Bool.not_eq_true', bne_iff_ne, ne_eq, decide_eq_true_eq, decide_eq_false_iff_not]; try ((try unfold wrap64); omega)
  rw [hs]
  clear hs
  rcases chain5 (inB Zone 0 9) (inB Grams 1 2000) (inB Until 0 4000) (inB From 0 Until) (inB Cents 1 9999) with h1 | ⟨h1, h2⟩ | ⟨h1, h2, h3⟩ | ⟨h1, h2, h3, h4⟩ | ⟨h1, h2, h3, h4, h5⟩ | ⟨h1, h2, h3, h4, h5⟩
  all_goals
    go_enter Tryd.func24, Tryd.ntmps24
    go_wp2_with (first | (go_at_call 35; refine (l8Zone_any _ _).mono ?_; rintro e w' ⟨rfl, rfl⟩) | (go_at_call 36; refine (l8Grams_any _ _).mono ?_; rintro e w' ⟨rfl, rfl⟩) | (go_at_call 40; refine (l2Day_any _ _).mono ?_; rintro e w' ⟨rfl, rfl⟩) | (go_at_call 43; refine (l1In_any _ _ _ _).mono ?_; rintro e w' ⟨rfl, rfl⟩) | (go_at_call 44; refine (l8Cents_any _ _).mono ?_; rintro e w' ⟨rfl, rfl⟩))
    go_ret
    exact ⟨ret_bool (by simp [*]), (by repeat (first | exact Ext.refl _ | assumption | refine Ext.trans ?_ (by assumption) | refine Ext.drew ?_ | refine Ext.drewN ?_ _ | refine Ext.alloc ?_ _))⟩

set_option maxHeartbeats 400000 in
theorem IsRateI_any (Zone Grams From Until Cents : Int) (w : World) :
    Calls Tryd.prog 23 #[.agg #[.int .i64 Zone, .int .i64 Grams, .int .i64 From, .int .i64 Until, .int .i64 Cents]] w fun e w' => e = .returned (.bool (rtOk Zone Grams From Until Cents)) ∧ Ext w w' := by
  go_enter Tryd.func23, Tryd.ntmps23
  go_wp2_with (go_at_call 26; refine (isRate_any _ _ _ _ _ _).mono ?_; rintro e w1 ⟨rfl, he1⟩)
  go_ret
  exact ⟨rfl, (by repeat (first | exact Ext.refl _ | assumption | refine Ext.trans ?_ (by assumption) | refine Ext.drew ?_ | refine Ext.drewN ?_ _ | refine Ext.alloc ?_ _))⟩


end Go.Proofs.YtkganlojknhajaaDoor
