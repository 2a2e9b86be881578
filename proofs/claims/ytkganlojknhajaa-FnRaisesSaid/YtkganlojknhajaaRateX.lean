/- The law of AreRates. -/
import Derived.Test.YtkganlojknhajaaRateW
namespace Go.Proofs.Ytkganlojknhajaa
open Go.RowKit
set_option linter.unusedVariables false
set_option linter.unusedSimpArgs false
attribute [local go_sem] ExtOf.cell

set_option maxHeartbeats 400000 in
theorem AreRatesI_any (A : Option Addr) (n c : Nat) (xs : List Rate) (w : World) (h : RateL w A n xs) :
    Calls Try.prog 19 #[.slice A n c] w fun e w' => e = .returned (.bool (RatesOk xs)) ∧ Ext w w' := by
  have H := Lib.hid h
  clear h
  go_enter Try.func19, Try.ntmps19
  go_wp2_with (go_at_call 53; refine (areRates_any _ _ _ xs _ H.out).mono ?_; rintro e wa ⟨rfl, he1⟩)
  go_ret
  exact ⟨rfl, he1⟩

set_option maxHeartbeats 400000 in
theorem AreRatesS_any (A : Option Addr) (n c : Nat) (xs : List Rate) (w : World) (h : RateL w A n xs) :
    Calls Try.prog 17 #[.slice A n c] w fun e w' => e = .returned (.bool (RatesOk xs)) ∧ Ext w w' := by
  have H := Lib.hid h
  clear h
  go_enter Try.func17, Try.ntmps17
  go_wp2_with (go_at_call 52; refine (l8Good_any _ _ _ xs _ H.out).mono ?_; rintro e wa ⟨rfl, he1⟩)
  go_ret
  exact ⟨rfl, he1⟩

set_option maxRecDepth 100000 in
set_option maxHeartbeats 1000000 in
theorem FnExactAreRates_any (A : Option Addr) (n c : Nat) (xs : List Rate) (w : World) (hn : xs.length = n) (hm : n ≤ maxLen) (hw : ∀ x ∈ xs, x.Wf) (hr : Rd w A n 5 (xs.flatMap Rate.cs)) :
    Calls Try.prog 4 #[.slice A n c] w fun e w' => e = .returned (.bool true) ∧ Ext w w' := by
  have H := Lib.hid hn
  have HW := Lib.hid hw
  have HR := Lib.hid hr
  clear hn hw hr
  go_enter Try.func4, Try.ntmps4
  go_wp2_with fail
  refine (szRateS_any _ _ _ xs _ _ (by omega) (by omega) H.out hm HW.out HR.out).mono ?_
  rintro e w1 ⟨r, rfl, r1, r2, r3, e1⟩
  by_cases hr0 : r < 0
  · go_wp2
    go_ret
    exact ⟨rfl, e1⟩
  have hn1 : (n : Int) ≤ 1048576 := r3 (by omega)
  go_wp2_with fail
  refine (toRateS_any _ _ _ xs _ H.out (by omega) (HR.out.ext e1)).mono ?_
  rintro e w2 ⟨rfl, o2, e2⟩
  have L2 := Lib.hid (show RateL w2 _ n xs from ⟨H.out, by omega, HW.out, Rd.own o2⟩)
  clear o2
  go_wp2_with fail
  refine (AreRatesS_any _ _ _ xs _ L2.out).mono ?_
  rintro e w3 ⟨rfl, e3⟩
  go_wp2_with fail
  refine (toRateS_any _ _ _ xs _ H.out (by omega) (HR.out.ext (e1.trans (e2.trans e3)))).mono ?_
  rintro e w4 ⟨rfl, o4, e4⟩
  have L4 := Lib.hid (show RateL w4 _ n xs from ⟨H.out, by omega, HW.out, Rd.own o4⟩)
  clear o4
  go_wp2_with fail
  refine (AreRatesI_any _ _ _ xs _ L4.out).mono ?_
  rintro e w5 ⟨rfl, e5⟩
  go_wp2_with fail
  refine (toRateS_any _ _ _ xs _ H.out (by omega) (HR.out.ext (e1.trans (e2.trans (e3.trans (e4.trans e5)))))).mono ?_
  rintro e w6 ⟨rfl, o6, e6⟩
  have R6 := Lib.hid (Rd.own o6)
  clear o6
  go_wp2_with fail
  refine (eqRateS_same _ _ _ _ _ xs _ H.out (by omega) (L4.out.rd.ext (e5.trans e6)) R6.out).mono ?_
  rintro e w7 ⟨rfl, e7⟩
  go_wp2
  go_ret
  exact ⟨rfl, e1.trans (e2.trans (e3.trans (e4.trans (e5.trans (e6.trans e7)))))⟩
end Go.Proofs.Ytkganlojknhajaa
