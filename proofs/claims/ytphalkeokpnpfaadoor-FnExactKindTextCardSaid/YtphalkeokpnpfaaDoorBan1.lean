/- A Ban by value (made by wip/lists.py). -/
import Derived.Test.YtphalkeokpnpfaaDoorSmall
import Derived.Test.YtphalkeokpnpfaaDoorStructs
namespace Go.Proofs.YtphalkeokpnpfaaDoor
open Go.RowKit
set_option linter.unusedVariables false
set_option linter.unusedSimpArgs false
attribute [local go_sem] ExtOf.cell

set_option maxHeartbeats 400000 in
theorem toBan_any (A X B Y : Int) (w : World) :
    Calls Tryd.prog 48 #[.agg #[.int .i64 A, .int .i64 X, .int .i64 B, .int .i64 Y]] w fun e w' => e = .returned (.agg #[.int .i64 A, .int .i64 X, .int .i64 B, .int .i64 Y]) ∧ Ext w w' := by
  go_enter Tryd.func48, Tryd.ntmps48
  go_wp2
  exact bodyPost_ret (v := .agg #[.int .i64 A, .int .i64 X, .int .i64 B, .int .i64 Y]) (by simp [results, Tryd.results48, go_sem]) rfl ⟨rfl, (by repeat (first | exact Ext.refl _ | assumption | refine Ext.trans ?_ (by assumption) | refine Ext.drew ?_ | refine Ext.drewN ?_ _ | refine Ext.alloc ?_ _))⟩
end Go.Proofs.YtphalkeokpnpfaaDoor
