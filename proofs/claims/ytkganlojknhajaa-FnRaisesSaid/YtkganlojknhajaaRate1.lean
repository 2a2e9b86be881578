/- A Rate by value (made by wip/lists.py). -/
import Derived.Test.YtkganlojknhajaaSmall
import Derived.Test.YtkganlojknhajaaStructs
namespace Go.Proofs.Ytkganlojknhajaa
open Go.RowKit
set_option linter.unusedVariables false
set_option linter.unusedSimpArgs false
attribute [local go_sem] ExtOf.cell

def rtOk (Zone Grams From Until Cents : Int) : Bool := inB Zone 0 9 && inB Grams 1 2000 && inB Until 0 4000 && inB From 0 Until && inB Cents 1 9999

set_option maxHeartbeats 400000 in
theorem toRate_any (Zone Grams From Until Cents : Int) (w : World) :
    Calls Try.prog 14 #[.agg #[.int .i64 Zone, .int .i64 Grams, .int .i64 From, .int .i64 Until, .int .i64 Cents]] w fun e w' => e = .returned (.agg #[.int .i64 Zone, .int .i64 Grams, .int .i64 From, .int .i64 Until, .int .i64 Cents]) ∧ Ext w w' := by
  go_enter Try.func14, Try.ntmps14
  go_wp2
  exact bodyPost_ret (v := .agg #[.int .i64 Zone, .int .i64 Grams, .int .i64 From, .int .i64 Until, .int .i64 Cents]) (by simp [results, Try.results14, go_sem]) rfl ⟨rfl, (by repeat (first | exact Ext.refl _ | assumption | refine Ext.trans ?_ (by assumption) | refine Ext.drew ?_ | refine Ext.drewN ?_ _ | refine Ext.alloc ?_ _))⟩

set_option maxHeartbeats 1000000 in
theorem isRate_any (Zone Grams From Until Cents : Int) (w : World) :
    Calls Try.prog 51 #[.agg #[.int .i64 Zone, .int .i64 Grams, .int .i64 From, .int .i64 Until, .int .i64 Cents]] w fun e w' => e = .returned (.bool (rtOk Zone Grams From Until Cents)) ∧ Ext w w' := by
  have hs : rtOk Zone Grams From Until Cents = (inB Zone 0 9 && inB Grams 1 2000 && inB From 0 4000 && inB Until 0 4000 && decide (From ≤ Until) && inB Cents 1 9999) := by
    rw [Bool.eq_iff_iff]; simp only [rtOk, inB, Bool.and_eq_true, Bool.not_eq_true', bne_iff_ne, ne_eq, decide_eq_true_eq, decide_eq_false_iff_not]; try ((try unfold wrap64); omega)
  rw [hs]
  clear hs
  rcases chain6 (inB Zone 0 9) (inB Grams 1 2000) (inB From 0 4000) (inB Until 0 4000) (decide (From ≤ Until)) (inB Cents 1 9999) with h1 | ⟨h1, h2⟩ | ⟨h1, h2, h3⟩ | ⟨h1, h2, h3, h4⟩ | ⟨h1, h2, h3, h4, h5⟩ | ⟨h1, h2, h3, h4, h5, h6⟩ | ⟨h1, h2, h3, h4, h5, h6⟩
  all_goals
    go_enter Try.func51, Try.ntmps51
    go_wp2_with (first | (go_at_call 60; refine (isZone_any _ _).mono ?_; rintro e w' ⟨rfl, rfl⟩) | (go_at_call 61; refine (isWeight_any _ _).mono ?_; rintro e w' ⟨rfl, rfl⟩) | (go_at_call 59; refine (isDay_any _ _).mono ?_; rintro e w' ⟨rfl, rfl⟩) | (go_at_call 65; refine (isCents_any _ _).mono ?_; rintro e w' ⟨rfl, rfl⟩))
    go_ret
    exact ⟨ret_bool (by simp [*]), (by repeat (first | exact Ext.refl _ | assumption | refine Ext.trans ?_ (by assumption) | refine Ext.drew ?_ | refine Ext.drewN ?_ _ | refine Ext.alloc ?_ _))⟩

set_option maxHeartbeats 1000000 in
theorem l8One_any (Zone Grams From Until Cents : Int) (w : World) :
    Calls Try.prog 50 #[.agg #[.int .i64 Zone, .int .i64 Grams, .int .i64 From, .int .i64 Until, .int .i64 Cents]] w fun e w' => e = .returned (.bool (rtOk Zone Grams From Until Cents)) ∧ Ext w w' := by
  have hs : rtOk Zone Grams From Until Cents = (inB Zone 0 9 && inB Grams 1 2000 && inB Until 0 4000 && inB From 0 Until && inB Cents 1 9999) := by
    rw [Bool.eq_iff_iff]; simp only [rtOk, inB, Bool.and_eq_true, Bool.not_eq_true', bne_iff_ne, ne_eq, decide_eq_true_eq, decide_eq_false_iff_not]; try ((try unfold wrap64); omega)
  rw [hs]
  clear hs
  rcases chain5 (inB Zone 0 9) (inB Grams 1 2000) (inB Until 0 4000) (inB From 0 Until) (inB Cents 1 9999) with h1 | ⟨h1, h2⟩ | ⟨h1, h2, h3⟩ | ⟨h1, h2, h3, h4⟩ | ⟨h1, h2, h3, h4, h5⟩ | ⟨h1, h2, h3, h4, h5⟩
  all_goals
    go_enter Try.func50, Try.ntmps50
    go_wp2_with (first | (go_at_call 56; refine (l8Zone_any _ _).mono ?_; rintro e w' ⟨rfl, rfl⟩) | (go_at_call 57; refine (l8Grams_any _ _).mono ?_; rintro e w' ⟨rfl, rfl⟩) | (go_at_call 55; refine (l2Day_any _ _).mono ?_; rintro e w' ⟨rfl, rfl⟩) | (go_at_call 64; refine (l1In_any _ _ _ _).mono ?_; rintro e w' ⟨rfl, rfl⟩) | (go_at_call 63; refine (l8Cents_any _ _).mono ?_; rintro e w' ⟨rfl, rfl⟩))
    go_ret
    exact ⟨ret_bool (by simp [*]), (by repeat (first | exact Ext.refl _ | assumption | refine Ext.trans ?_ (by assumption) | refine Ext.drew ?_ | refine Ext.drewN ?_ _ | refine Ext.alloc ?_ _))⟩

set_option maxHeartbeats 400000 in
theorem IsRateI_any (Zone Grams From Until Cents : Int) (w : World) :
    Calls Try.prog 15 #[.agg #[.int .i64 Zone, .int .i64 Grams, .int .i64 From, .int .i64 Until, .int .i64 Cents]] w fun e w' => e = .returned (.bool (rtOk Zone Grams From Until Cents)) ∧ Ext w w' := by
  go_enter Try.func15, Try.ntmps15
  go_wp2_with (go_at_call 51; refine (isRate_any _ _ _ _ _ _).mono ?_; rintro e w1 ⟨rfl, he1⟩)
  go_ret
  exact ⟨rfl, (by repeat (first | exact Ext.refl _ | assumption | refine Ext.trans ?_ (by assumption) | refine Ext.drew ?_ | refine Ext.drewN ?_ _ | refine Ext.alloc ?_ _))⟩

set_option maxHeartbeats 400000 in
theorem IsRateS_any (Zone Grams From Until Cents : Int) (w : World) :
    Calls Try.prog 13 #[.agg #[.int .i64 Zone, .int .i64 Grams, .int .i64 From, .int .i64 Until, .int .i64 Cents]] w fun e w' => e = .returned (.bool (rtOk Zone Grams From Until Cents)) ∧ Ext w w' := by
  go_enter Try.func13, Try.ntmps13
  go_wp2_with (go_at_call 50; refine (l8One_any _ _ _ _ _ _).mono ?_; rintro e w1 ⟨rfl, he1⟩)
  go_ret
  exact ⟨rfl, (by repeat (first | exact Ext.refl _ | assumption | refine Ext.trans ?_ (by assumption) | refine Ext.drew ?_ | refine Ext.drewN ?_ _ | refine Ext.alloc ?_ _))⟩

set_option maxHeartbeats 400000 in
theorem FnExactIsRate_any (Zone Grams From Until Cents : Int) (w : World) :
    Calls Try.prog 3 #[.agg #[.int .i64 Zone, .int .i64 Grams, .int .i64 From, .int .i64 Until, .int .i64 Cents]] w fun e w' => e = .returned (.bool true) ∧ Ext w w' := by
  go_enter Try.func3, Try.ntmps3
  go_wp2_with (first | (go_at_call 14; refine (toRate_any _ _ _ _ _ _).mono ?_; rintro e w2 ⟨rfl, he2⟩; have hc2 := he2.cells; have hz2 : w.heap.size < w2.heap.size := by (have h := he2.size; (try simp only [World.size_alloc] at h); omega)) | (go_at_call 15; refine (IsRateI_any _ _ _ _ _ _).mono ?_; rintro e w3 ⟨rfl, he3⟩; have hc3 := he3.cells; have hz3 : w.heap.size < w3.heap.size := by (have h := he3.size; (try simp only [World.size_alloc] at h); omega)) | (go_at_call 13; refine (IsRateS_any _ _ _ _ _ _).mono ?_; rintro e w4 ⟨rfl, he4⟩; have hc4 := he4.cells; have hz4 : w.heap.size < w4.heap.size := by (have h := he4.size; (try simp only [World.size_alloc] at h); omega)))
  go_ret
  exact ⟨rfl, by repeat (first | exact Ext.refl _ | refine Ext.trans ?_ (by assumption) | refine Ext.alloc ?_ _)⟩
end Go.Proofs.Ytkganlojknhajaa
