/- A Cover by value (made by wip/lists.py). -/
import Derived.Test.YtopjomkjdmcljaaSmall
import Derived.Test.YtopjomkjdmcljaaStructs
namespace Go.Proofs.Ytopjomkjdmcljaa
open Go.RowKit
set_option linter.unusedVariables false
set_option linter.unusedSimpArgs false
attribute [local go_sem] ExtOf.cell

def cvOk (Id Day Zone Grams Paid From To Leave Arrive : Int) : Bool := inB Id 1 999 && inB Day 0 4000 && inB Zone 0 9 && inB Grams 1 2000 && inB Paid 1 9999 && inB From 0 9 && inB To 0 9 && !(decide (From = To)) && inB Arrive 0 9999 && inB Leave 0 Arrive

set_option maxHeartbeats 400000 in
theorem toCover_any (Id Day Zone Grams Paid From To Leave Arrive : Int) (w : World) :
    Calls Try.prog 14 #[.agg #[.int .i64 Id, .int .i64 Day, .int .i64 Zone, .int .i64 Grams, .int .i64 Paid, .int .i64 From, .int .i64 To, .int .i64 Leave, .int .i64 Arrive]] w fun e w' => e = .returned (.agg #[.int .i64 Id, .int .i64 Day, .int .i64 Zone, .int .i64 Grams, .int .i64 Paid, .int .i64 From, .int .i64 To, .int .i64 Leave, .int .i64 Arrive]) ∧ Ext w w' := by
  go_enter Try.func14, Try.ntmps14
  go_wp2
  exact bodyPost_ret (v := .agg #[.int .i64 Id, .int .i64 Day, .int .i64 Zone, .int .i64 Grams, .int .i64 Paid, .int .i64 From, .int .i64 To, .int .i64 Leave, .int .i64 Arrive]) (by simp [results, Try.results14, go_sem]) rfl ⟨rfl, (by repeat (first | exact Ext.refl _ | assumption | refine Ext.trans ?_ (by assumption) | refine Ext.drew ?_ | refine Ext.drewN ?_ _ | refine Ext.alloc ?_ _))⟩

set_option maxHeartbeats 1000000 in
theorem isCover_any (Id Day Zone Grams Paid From To Leave Arrive : Int) (w : World) :
    Calls Try.prog 45 #[.agg #[.int .i64 Id, .int .i64 Day, .int .i64 Zone, .int .i64 Grams, .int .i64 Paid, .int .i64 From, .int .i64 To, .int .i64 Leave, .int .i64 Arrive]] w fun e w' => e = .returned (.bool (cvOk Id Day Zone Grams Paid From To Leave Arrive)) ∧ Ext w w' := by
  have hs : cvOk Id Day Zone Grams Paid From To Leave Arrive = (inB Id 1 999 && inB Day 0 4000 && inB Zone 0 9 && inB Grams 1 2000 && inB Paid 1 9999 && inB From 0 9 && inB To 0 9 && From != To && inB Leave 0 Arrive && inB Arrive 0 9999) := by
    rw [Bool.eq_iff_iff]; simp only [cvOk, inB, Bool.and_eq_true, Bool.not_eq_true', bne_iff_ne, ne_eq, decide_eq_true_eq, decide_eq_false_iff_not]; try ((try unfold wrap64); omega)
  rw [hs]
  clear hs
  rcases chain10 (inB Id 1 999) (inB Day 0 4000) (inB Zone 0 9) (inB Grams 1 2000) (inB Paid 1 9999) (inB From 0 9) (inB To 0 9) (From != To) (inB Leave 0 Arrive) (inB Arrive 0 9999) with h1 | ⟨h1, h2⟩ | ⟨h1, h2, h3⟩ | ⟨h1, h2, h3, h4⟩ | ⟨h1, h2, h3, h4, h5⟩ | ⟨h1, h2, h3, h4, h5, h6⟩ | ⟨h1, h2, h3, h4, h5, h6, h7⟩ | ⟨h1, h2, h3, h4, h5, h6, h7, h8⟩ | ⟨h1, h2, h3, h4, h5, h6, h7, h8, h9⟩ | ⟨h1, h2, h3, h4, h5, h6, h7, h8, h9, h10⟩ | ⟨h1, h2, h3, h4, h5, h6, h7, h8, h9, h10⟩
  all_goals
    (first | (have hp : From = To := by simpa using h8) | (have hp : ¬ From = To := by simpa using h8) | skip)
    go_enter Try.func45, Try.ntmps45
    go_wp2_with (first | (go_at_call 43; refine (inRange_any _ _ _ _).mono ?_; rintro e w' ⟨rfl, rfl⟩) | (go_at_call 72; refine (isDay_any _ _).mono ?_; rintro e w' ⟨rfl, rfl⟩) | (go_at_call 73; refine (isZone_any _ _).mono ?_; rintro e w' ⟨rfl, rfl⟩) | (go_at_call 74; refine (isWeight_any _ _).mono ?_; rintro e w' ⟨rfl, rfl⟩) | (go_at_call 75; refine (isCents_any _ _).mono ?_; rintro e w' ⟨rfl, rfl⟩) | (go_at_call 76; refine (isOffice_any _ _).mono ?_; rintro e w' ⟨rfl, rfl⟩) | (go_at_call 77; refine (isMinute_any _ _).mono ?_; rintro e w' ⟨rfl, rfl⟩))
    go_ret
    exact ⟨ret_bool (by simp [*]), (by repeat (first | exact Ext.refl _ | assumption | refine Ext.trans ?_ (by assumption) | refine Ext.drew ?_ | refine Ext.drewN ?_ _ | refine Ext.alloc ?_ _))⟩

set_option maxHeartbeats 1000000 in
theorem l10One_any (Id Day Zone Grams Paid From To Leave Arrive : Int) (w : World) :
    Calls Try.prog 44 #[.agg #[.int .i64 Id, .int .i64 Day, .int .i64 Zone, .int .i64 Grams, .int .i64 Paid, .int .i64 From, .int .i64 To, .int .i64 Leave, .int .i64 Arrive]] w fun e w' => e = .returned (.bool (cvOk Id Day Zone Grams Paid From To Leave Arrive)) ∧ Ext w w' := by
  have hs : cvOk Id Day Zone Grams Paid From To Leave Arrive = (inB Id 1 999 && inB Day 0 4000 && inB Zone 0 9 && inB Grams 1 2000 && inB Paid 1 9999 && inB From 0 9 && inB To 0 9 && From != To && inB Arrive 0 9999 && inB Leave 0 Arrive) := by
    rw [Bool.eq_iff_iff]; simp only [cvOk, inB, Bool.and_eq_true, Bool.not_eq_true', bne_iff_ne, ne_eq, decide_eq_true_eq, decide_eq_false_iff_not]; try ((try unfold wrap64); omega)
  rw [hs]
  clear hs
  rcases chain10 (inB Id 1 999) (inB Day 0 4000) (inB Zone 0 9) (inB Grams 1 2000) (inB Paid 1 9999) (inB From 0 9) (inB To 0 9) (From != To) (inB Arrive 0 9999) (inB Leave 0 Arrive) with h1 | ⟨h1, h2⟩ | ⟨h1, h2, h3⟩ | ⟨h1, h2, h3, h4⟩ | ⟨h1, h2, h3, h4, h5⟩ | ⟨h1, h2, h3, h4, h5, h6⟩ | ⟨h1, h2, h3, h4, h5, h6, h7⟩ | ⟨h1, h2, h3, h4, h5, h6, h7, h8⟩ | ⟨h1, h2, h3, h4, h5, h6, h7, h8, h9⟩ | ⟨h1, h2, h3, h4, h5, h6, h7, h8, h9, h10⟩ | ⟨h1, h2, h3, h4, h5, h6, h7, h8, h9, h10⟩
  all_goals
    (first | (have hp : From = To := by simpa using h8) | (have hp : ¬ From = To := by simpa using h8) | skip)
    go_enter Try.func44, Try.ntmps44
    go_wp2_with (first | (go_at_call 42; refine (l1In_any _ _ _ _).mono ?_; rintro e w' ⟨rfl, rfl⟩) | (go_at_call 66; refine (l2Day_any _ _).mono ?_; rintro e w' ⟨rfl, rfl⟩) | (go_at_call 67; refine (l8Zone_any _ _).mono ?_; rintro e w' ⟨rfl, rfl⟩) | (go_at_call 68; refine (l8Grams_any _ _).mono ?_; rintro e w' ⟨rfl, rfl⟩) | (go_at_call 69; refine (l8Cents_any _ _).mono ?_; rintro e w' ⟨rfl, rfl⟩) | (go_at_call 70; refine (l9Office_any _ _).mono ?_; rintro e w' ⟨rfl, rfl⟩) | (go_at_call 71; refine (l9Minute_any _ _).mono ?_; rintro e w' ⟨rfl, rfl⟩))
    go_ret
    exact ⟨ret_bool (by simp [*]), (by repeat (first | exact Ext.refl _ | assumption | refine Ext.trans ?_ (by assumption) | refine Ext.drew ?_ | refine Ext.drewN ?_ _ | refine Ext.alloc ?_ _))⟩

set_option maxHeartbeats 400000 in
theorem IsCoverI_any (Id Day Zone Grams Paid From To Leave Arrive : Int) (w : World) :
    Calls Try.prog 15 #[.agg #[.int .i64 Id, .int .i64 Day, .int .i64 Zone, .int .i64 Grams, .int .i64 Paid, .int .i64 From, .int .i64 To, .int .i64 Leave, .int .i64 Arrive]] w fun e w' => e = .returned (.bool (cvOk Id Day Zone Grams Paid From To Leave Arrive)) ∧ Ext w w' := by
  go_enter Try.func15, Try.ntmps15
  go_wp2_with (go_at_call 45; refine (isCover_any _ _ _ _ _ _ _ _ _ _).mono ?_; rintro e w1 ⟨rfl, he1⟩)
  go_ret
  exact ⟨rfl, (by repeat (first | exact Ext.refl _ | assumption | refine Ext.trans ?_ (by assumption) | refine Ext.drew ?_ | refine Ext.drewN ?_ _ | refine Ext.alloc ?_ _))⟩

set_option maxHeartbeats 400000 in
theorem IsCoverS_any (Id Day Zone Grams Paid From To Leave Arrive : Int) (w : World) :
    Calls Try.prog 13 #[.agg #[.int .i64 Id, .int .i64 Day, .int .i64 Zone, .int .i64 Grams, .int .i64 Paid, .int .i64 From, .int .i64 To, .int .i64 Leave, .int .i64 Arrive]] w fun e w' => e = .returned (.bool (cvOk Id Day Zone Grams Paid From To Leave Arrive)) ∧ Ext w w' := by
  go_enter Try.func13, Try.ntmps13
  go_wp2_with (go_at_call 44; refine (l10One_any _ _ _ _ _ _ _ _ _ _).mono ?_; rintro e w1 ⟨rfl, he1⟩)
  go_ret
  exact ⟨rfl, (by repeat (first | exact Ext.refl _ | assumption | refine Ext.trans ?_ (by assumption) | refine Ext.drew ?_ | refine Ext.drewN ?_ _ | refine Ext.alloc ?_ _))⟩

set_option maxHeartbeats 400000 in
theorem FnExactIsCover_any (Id Day Zone Grams Paid From To Leave Arrive : Int) (w : World) :
    Calls Try.prog 4 #[.agg #[.int .i64 Id, .int .i64 Day, .int .i64 Zone, .int .i64 Grams, .int .i64 Paid, .int .i64 From, .int .i64 To, .int .i64 Leave, .int .i64 Arrive]] w fun e w' => e = .returned (.bool true) ∧ Ext w w' := by
  go_enter Try.func4, Try.ntmps4
  go_wp2_with (first | (go_at_call 14; refine (toCover_any _ _ _ _ _ _ _ _ _ _).mono ?_; rintro e w2 ⟨rfl, he2⟩; have hc2 := he2.cells; have hz2 : w.heap.size < w2.heap.size := by (have h := he2.size; (try simp only [World.size_alloc] at h); omega)) | (go_at_call 15; refine (IsCoverI_any _ _ _ _ _ _ _ _ _ _).mono ?_; rintro e w3 ⟨rfl, he3⟩; have hc3 := he3.cells; have hz3 : w.heap.size < w3.heap.size := by (have h := he3.size; (try simp only [World.size_alloc] at h); omega)) | (go_at_call 13; refine (IsCoverS_any _ _ _ _ _ _ _ _ _ _).mono ?_; rintro e w4 ⟨rfl, he4⟩; have hc4 := he4.cells; have hz4 : w.heap.size < w4.heap.size := by (have h := he4.size; (try simp only [World.size_alloc] at h); omega)))
  go_ret
  exact ⟨rfl, by repeat (first | exact Ext.refl _ | refine Ext.trans ?_ (by assumption) | refine Ext.alloc ?_ _)⟩
end Go.Proofs.Ytopjomkjdmcljaa
