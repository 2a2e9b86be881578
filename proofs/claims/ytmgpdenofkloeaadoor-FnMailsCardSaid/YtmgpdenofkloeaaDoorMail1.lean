/- A Mail by value (made by wip/lists.py). -/
import Derived.Test.YtmgpdenofkloeaaDoorSmall
import Derived.Test.YtmgpdenofkloeaaDoorStructs
namespace Go.Proofs.YtmgpdenofkloeaaDoor
open Go.RowKit
set_option linter.unusedVariables false
set_option linter.unusedSimpArgs false
attribute [local go_sem] ExtOf.cell

def mlOk (Leave From To Arrive : Int) : Bool := inB From 0 9 && inB To 0 9 && !(decide (From = To)) && inB Arrive 0 9999 && inB Leave 0 (Arrive - 1)


set_option maxHeartbeats 1000000 in
theorem isMail_any (Leave From To Arrive : Int) (w : World) (hlo : -9223372036854775808 ≤ Arrive) (hhi : Arrive ≤ 9223372036854775807) :
    Calls Tryd.prog 33 #[.agg #[.int .i64 Leave, .int .i64 From, .int .i64 To, .int .i64 Arrive]] w fun e w' => e = .returned (.bool (mlOk Leave From To Arrive)) ∧ Ext w w' := by
  have hs : mlOk Leave From To Arrive = (inB From 0 9 && inB To 0 9 && From != To && inB Leave 0 (wrap64 (Arrive - 1)) && inB Arrive 0 9999) := by
    rw [Bool.eq_iff_iff]; simp only [mlOk, inB, Bool.and_eq_true, Bool.not_eq_true', bne_iff_ne, ne_eq, decide_eq_true_eq, decide_eq_false_iff_not]; try ((try unfold wrap64); omega)
  rw [hs]
  clear hs
  rcases chain5 (inB From 0 9) (inB To 0 9) (From != To) (inB Leave 0 (wrap64 (Arrive - 1))) (inB Arrive 0 9999) with h1 | ⟨h1, h2⟩ | ⟨h1, h2, h3⟩ | ⟨h1, h2, h3, h4⟩ | ⟨h1, h2, h3, h4, h5⟩ | ⟨h1, h2, h3, h4, h5⟩
  all_goals
    (first | (have hp : From = To := by simpa using h3) | (have hp : ¬ From = To := by simpa using h3) | skip)
    go_enter Tryd.func33, Tryd.ntmps33
    go_wp2_with (first | (go_at_call 23; refine (isOffice_any _ _).mono ?_; rintro e w' ⟨rfl, rfl⟩) | (go_at_call 30; refine (inRange_any _ _ _ _).mono ?_; rintro e w' ⟨rfl, rfl⟩) | (go_at_call 24; refine (isMinute_any _ _).mono ?_; rintro e w' ⟨rfl, rfl⟩))
    go_ret
    exact ⟨ret_bool (by simp [*]), (by repeat (first | exact Ext.refl _ | assumption | refine Ext.trans ?_ (by assumption) | refine Ext.drew ?_ | refine Ext.drewN ?_ _ | refine Ext.alloc ?_ _))⟩

set_option maxHeartbeats 1000000 in
theorem l9One_any (Leave From To Arrive : Int) (w : World) (hlo : -9223372036854775808 ≤ Arrive) (hhi : Arrive ≤ 9223372036854775807) :
    Calls Tryd.prog 35 #[.agg #[.int .i64 Leave, .int .i64 From, .int .i64 To, .int .i64 Arrive]] w fun e w' => e = .returned (.bool (mlOk Leave From To Arrive)) ∧ Ext w w' := by
  have hs : mlOk Leave From To Arrive = (inB From 0 9 && inB To 0 9 && From != To && inB Arrive 0 9999 && inB Leave 0 (wrap64 (Arrive - 1))) := by
    rw [Bool.eq_iff_iff]; simp only [mlOk, inB, Bool.and_eq_true, Bool.not_eq_true', bne_iff_ne, ne_eq, decide_eq_true_eq, decide_eq_false_iff_not]; try ((try unfold wrap64); omega)
  rw [hs]
  clear hs
  rcases chain5 (inB From 0 9) (inB To 0 9) (From != To) (inB Arrive 0 9999) (inB Leave 0 (wrap64 (Arrive - 1))) with h1 | ⟨h1, h2⟩ | ⟨h1, h2, h3⟩ | ⟨h1, h2, h3, h4⟩ | ⟨h1, h2, h3, h4, h5⟩ | ⟨h1, h2, h3, h4, h5⟩
  all_goals
    (first | (have hp : From = To := by simpa using h3) | (have hp : ¬ From = To := by simpa using h3) | skip)
    go_enter Tryd.func35, Tryd.ntmps35
    go_wp2_with (first | (go_at_call 27; refine (l9Office_any _ _).mono ?_; rintro e w' ⟨rfl, rfl⟩) | (go_at_call 43; refine (l9Minute_any _ _).mono ?_; rintro e w' ⟨rfl, rfl⟩) | (go_at_call 31; refine (l1In_any _ _ _ _).mono ?_; rintro e w' ⟨rfl, rfl⟩))
    go_ret
    exact ⟨ret_bool (by simp [*]), (by repeat (first | exact Ext.refl _ | assumption | refine Ext.trans ?_ (by assumption) | refine Ext.drew ?_ | refine Ext.drewN ?_ _ | refine Ext.alloc ?_ _))⟩
end Go.Proofs.YtmgpdenofkloeaaDoor
