/- The law of AreRates. -/
import Derived.Test.YtkganlojknhajaaDoorRateW
namespace Go.Proofs.YtkganlojknhajaaDoor
open Go.RowKit
set_option linter.unusedVariables false
set_option linter.unusedSimpArgs false
attribute [local go_sem] ExtOf.cell

set_option maxHeartbeats 400000 in
theorem AreRatesI_any (A : Option Addr) (n c : Nat) (xs : List Rate) (w : World) (h : RateL w A n xs) :
    Calls Tryd.prog 13 #[.slice A n c] w fun e w' => e = .returned (.bool (RatesOk xs)) ∧ Ext w w' := by
  have H := Lib.hid h
  clear h
  go_enter Tryd.func13, Tryd.ntmps13
  go_wp2_with (go_at_call 30; refine (areRates_any _ _ _ xs _ H.out).mono ?_; rintro e wa ⟨rfl, he1⟩)
  go_ret
  exact ⟨rfl, he1⟩

set_option maxHeartbeats 400000 in
theorem AreRatesS_any (A : Option Addr) (n c : Nat) (xs : List Rate) (w : World) (h : RateL w A n xs) :
    Calls Tryd.prog 14 #[.slice A n c] w fun e w' => e = .returned (.bool (RatesOk xs)) ∧ Ext w w' := by
  have H := Lib.hid h
  clear h
  go_enter Tryd.func14, Tryd.ntmps14
  go_wp2_with (go_at_call 34; refine (l8Good_any _ _ _ xs _ H.out).mono ?_; rintro e wa ⟨rfl, he1⟩)
  go_ret
  exact ⟨rfl, he1⟩

end Go.Proofs.YtkganlojknhajaaDoor
