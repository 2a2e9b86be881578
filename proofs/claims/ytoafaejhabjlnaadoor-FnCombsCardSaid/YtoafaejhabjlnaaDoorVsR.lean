/- Equal lists: the comparisons of the statements on stamps. -/
import Derived.Test.YtoafaejhabjlnaaDoorCur
import Derived.Test.YtoafaejhabjlnaaDoorMark
import Derived.Test.YtoafaejhabjlnaaDoorFirst
namespace Go.Proofs.YtoafaejhabjlnaaDoor
open Go.RowKit
set_option linter.unusedVariables false
set_option linter.unusedSimpArgs false
attribute [local go_sem] ExtOf.cell

set_option maxHeartbeats 400000 in
theorem rBig_any (A : Option Addr) (n c : Nat) (w : World) (hm : n ≤ maxLen) :
    Calls Tryd.prog 4 #[.slice A n c] w fun e w' => e = .returned (.bool (decide (65536 < (n : Int)))) ∧ w = w' := by
  unfold maxLen at hm
  go_enter Tryd.func4, Tryd.ntmps4
  go_wp2
  go_ret
  exact ⟨ret_bool (by simp), rfl⟩
end Go.Proofs.YtoafaejhabjlnaaDoor
