/- The law of IsTimetable (made by wip/mailsv.py). -/
import Derived.Test.YtmgpdenofkloeaaMailW
namespace Go.Proofs.Ytmgpdenofkloeaa
open Go.RowKit
set_option linter.unusedVariables false
set_option linter.unusedSimpArgs false
attribute [local go_sem] ExtOf.cell

set_option maxHeartbeats 400000 in
theorem IsTimetableI_any (A : Option Addr) (n c : Nat) (xs : List Mail) (w : World) (h : MailL w A n xs) :
    Calls Try.prog 9 #[.slice A n c] w fun e w' => e = .returned (.bool (MailsOk xs)) ∧ Ext w w' := by
  have H := Lib.hid h
  clear h
  go_enter Try.func9, Try.ntmps9
  go_wp2_with (go_at_call 23; refine (isTimetable_any _ _ _ xs _ H.out).mono ?_; rintro e wa ⟨rfl, he1⟩)
  go_ret
  exact ⟨rfl, he1⟩

set_option maxHeartbeats 400000 in
theorem IsTimetableS_any (A : Option Addr) (n c : Nat) (xs : List Mail) (w : World) (h : MailL w A n xs) :
    Calls Try.prog 10 #[.slice A n c] w fun e w' => e = .returned (.bool (MailsOk xs)) ∧ Ext w w' := by
  have H := Lib.hid h
  clear h
  go_enter Try.func10, Try.ntmps10
  go_wp2_with (go_at_call 28; refine (l9Good_any _ _ _ xs _ H.out).mono ?_; rintro e wa ⟨rfl, he1⟩)
  go_ret
  exact ⟨rfl, he1⟩

end Go.Proofs.Ytmgpdenofkloeaa
