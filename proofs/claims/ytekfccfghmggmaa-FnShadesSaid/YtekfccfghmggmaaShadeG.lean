/- The reference's free colors; certain hues. -/
import Derived.Test.YtekfccfghmggmaaShadeF
namespace Go.Proofs.Ytekfccfghmggmaa
open Go.RowKit
set_option linter.unusedVariables false
set_option linter.unusedSimpArgs false
attribute [local go_sem] ExtOf.cell

theorem countP_zero {α : Type} (p : α → Bool) (xs : List α) : ((xs.countP p : Nat) == 0) = !(xs.any p) := by
  induction xs with
  | nil => rfl
  | cons x xs ih => cases h : p x <;> simp [List.countP_cons, h] ; simpa using ih

end Go.Proofs.Ytekfccfghmggmaa
