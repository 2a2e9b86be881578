/- Plain: neighbours in a list (made by wip/lists.py). -/
import Derived.Test.YtoafaejhabjlnaaDoorMem
import Derived.Test.YtoafaejhabjlnaaDoorQuiet
namespace Go.Proofs.YtoafaejhabjlnaaDoor
open Go.RowKit
set_option linter.unusedVariables false
set_option linter.unusedSimpArgs false
attribute [local go_sem] ExtOf.cell

theorem adj_all {α : Type} {p : Option α → α → Bool} {g : α → Bool} (hp : ∀ q x, p q x = true → g x = true) : ∀ {q : Option α} {xs : List α}, adj p q xs = true → ∀ x ∈ xs, g x = true
  | _, [], _, x, hx => by cases hx
  | q, y :: l, h, x, hx => by
    simp only [adj, Bool.and_eq_true] at h
    rcases List.mem_cons.1 hx with rfl | hm
    · exact hp _ _ h.1
    · exact adj_all hp h.2 x hm
theorem before_zero {α : Type} (xs : List α) : before xs 0 = none := rfl
theorem before_pos {α : Type} {xs : List α} {k : Nat} {y : α} (h : 0 < k) (hy : xs[k - 1]? = some y) : before xs k = some y := by
  unfold before; rw [if_neg (by omega)]; exact hy

end Go.Proofs.YtoafaejhabjlnaaDoor
