/- The library's comparison of numbers. -/
import Derived.Test.YtekfccfghmggmaaDoorNum
import Derived.Test.YtekfccfghmggmaaDoorMem
namespace Go.Proofs.YtekfccfghmggmaaDoor
open Go.RowKit
set_option linter.unusedVariables false
set_option linter.unusedSimpArgs false

/-- -1, 0 or 1. -/
def cmpI (a b : Int) : Int := if a < b then -1 else if b < a then 1 else 0
/-- The first number that is not 0, or 0. -/
def orI : List Int → Int
  | [] => 0
  | a :: l => if a = 0 then orI l else a
theorem orI_snoc (l : List Int) (a : Int) (h : orI l = 0) : orI (l ++ [a]) = a := by
  induction l with
  | nil => simp [orI]; omega
  | cons b l ih =>
    simp only [List.cons_append, orI] at *
    split at h
    · rename_i hb; rw [if_pos hb]; exact ih h
    · rename_i hb; exact absurd h hb
theorem orI_keep (l m : List Int) (h : orI l ≠ 0) : orI (l ++ m) = orI l := by
  induction l with
  | nil => simp [orI] at h
  | cons b l ih =>
    simp only [List.cons_append, orI] at *
    split
    · rename_i hb; rw [if_pos hb] at h; exact ih h
    · rfl
theorem cmpI_of_lt {a b : Int} (h : a < b) : cmpI a b = -1 := if_pos h
theorem cmpI_of_eq {a b : Int} (h : a = b) : cmpI a b = 0 := by unfold cmpI; rw [if_neg (by omega), if_neg (by omega)]
theorem cmpI_of_gt {a b : Int} (h : b < a) : cmpI a b = 1 := by unfold cmpI; rw [if_neg (by omega), if_pos h]
theorem cmpI_lt {a b : Int} : cmpI a b < 0 ↔ a < b := by unfold cmpI; split <;> (try split) <;> omega
theorem cmpI_gt {a b : Int} : 0 < cmpI a b ↔ b < a := by unfold cmpI; split <;> (try split) <;> omega
theorem cmpI_eq {a b : Int} : cmpI a b = 0 ↔ a = b := by unfold cmpI; split <;> (try split) <;> omega
theorem cmpI_bd (a b : Int) : -1 ≤ cmpI a b ∧ cmpI a b ≤ 1 := by unfold cmpI; split <;> (try split) <;> omega

end Go.Proofs.YtekfccfghmggmaaDoor
