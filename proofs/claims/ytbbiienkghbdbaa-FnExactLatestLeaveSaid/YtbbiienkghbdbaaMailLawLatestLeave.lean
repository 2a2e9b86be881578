/- The law of LatestLeave. -/
import Derived.Test.YtbbiienkghbdbaaLate
namespace Go.Proofs.Ytbbiienkghbdbaa
open Go.RowKit
set_option linter.unusedVariables false
set_option linter.unusedSimpArgs false
attribute [local go_sem] ExtOf.cell

set_option maxRecDepth 100000 in
set_option maxHeartbeats 1000000 in
theorem FnExactLatestLeave_any (A : Option Addr) (n c : Nat) (xs : List Mail) (f : Int) (t : Int) (y : Int) (w : World) (hn : xs.length = n) (hm : n ≤ maxLen) (hw : ∀ x ∈ xs, x.Wf) (hr : Rd w A n 4 (xs.flatMap Mail.cs)) :
    Calls Try.prog 9 #[.slice A n c, .int .i64 f, .int .i64 t, .int .i64 y] w fun e w' => e = .returned (.bool true) ∧ Ext w w' := by
  have H := Lib.hid hn
  have HW := Lib.hid hw
  have HR := Lib.hid hr
  clear hn hw hr
  go_enter Try.func9, Try.ntmps9
  go_wp2_with fail
  refine (szMailS_any _ _ _ xs _ _ (by omega) (by omega) H.out hm HW.out HR.out).mono ?_
  rintro e w1 ⟨r, rfl, r1, r2, r3, e1⟩
  by_cases hr0 : r < 0
  · go_wp2
    go_ret
    exact ⟨rfl, e1⟩
  have hn1 : (n : Int) ≤ 1048576 := r3 (by omega)
  have L1 := Lib.hid (show MailL w1 A n xs from ⟨H.out, by omega, HW.out, HR.out.ext e1⟩)
  go_wp2_with fail
  refine (toMailS_any _ _ _ xs _ H.out (by omega) L1.out.rd).mono ?_
  rintro e w2 ⟨rfl, o2, e2⟩
  have L2 := Lib.hid (show MailL w2 _ n xs from ⟨H.out, by omega, HW.out, Rd.own o2⟩)
  clear o2
  go_wp2_with fail
  refine (LatestLeaveS_any _ _ _ xs f t y _ L2.out).mono ?_
  rintro e w3 ⟨rfl, e3⟩
  go_wp2_with fail
  refine (toMailS_any _ _ _ xs _ H.out (by omega) (L1.out.ext (e2.trans (e3))).rd).mono ?_
  rintro e w4 ⟨rfl, o4, e4⟩
  have L4 := Lib.hid (show MailL w4 _ n xs from ⟨H.out, by omega, HW.out, Rd.own o4⟩)
  clear o4
  go_wp2_with fail
  refine (LatestLeaveI_any _ _ _ xs f t y _ L4.out).mono ?_
  rintro e w5 ⟨rfl, e5⟩
  go_wp2_with fail
  refine (toMailS_any _ _ _ xs _ H.out (by omega) (L1.out.ext (e2.trans (e3.trans (e4.trans (e5))))).rd).mono ?_
  rintro e w6 ⟨rfl, o6, e6⟩
  have L6 := Lib.hid (show MailL w6 _ n xs from ⟨H.out, by omega, HW.out, Rd.own o6⟩)
  clear o6
  go_wp2_with fail
  refine (eqMailS_same _ _ _ _ _ xs _ H.out (by omega) (L4.out.ext (e5.trans e6)).rd L6.out.rd).mono ?_
  rintro e w7 ⟨rfl, e7⟩
  go_wp2
  go_ret
  exact ⟨rfl, e1.trans (e2.trans (e3.trans (e4.trans (e5.trans (e6.trans (e7))))))⟩
end Go.Proofs.Ytbbiienkghbdbaa
