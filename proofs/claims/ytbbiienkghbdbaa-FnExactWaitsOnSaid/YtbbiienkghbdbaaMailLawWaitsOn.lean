/- The law of WaitsOn. -/
import Derived.Test.YtbbiienkghbdbaaRide
namespace Go.Proofs.Ytbbiienkghbdbaa
open Go.RowKit
set_option linter.unusedVariables false
set_option linter.unusedSimpArgs false
attribute [local go_sem] ExtOf.cell

set_option maxRecDepth 100000 in
set_option maxHeartbeats 1000000 in
theorem FnExactWaitsOn_any (A : Option Addr) (n c : Nat) (xs : List Mail) (f m : Int) (B : Option Addr) (rn rc : Nat) (r : List Int) (w : World) (hn : xs.length = n) (hm : n ≤ maxLen) (hw : ∀ x ∈ xs, x.Wf) (hr : Rd w A n 4 (xs.flatMap Mail.cs)) (hrm : rn ≤ maxLen) (hrr : Rd w B rn 1 (ints r)) :
    Calls Try.prog 7 #[.slice A n c, .int .i64 f, .int .i64 m, .slice B rn rc] w fun e w' => e = .returned (.bool true) ∧ Ext w w' := by
  have H := Lib.hid hn
  have HW := Lib.hid hw
  have HR := Lib.hid hr
  have RR := Lib.hid hrr
  clear hn hw hr hrr
  unfold maxLen at hrm
  by_cases hbig : (1048576 : Int) < rn
  · go_enter Try.func7, Try.ntmps7
    go_wp2
    go_ret
    exact ⟨rfl, Ext.refl _⟩
  have hrn : rn ≤ 1048576 := by omega
  go_enter Try.func7, Try.ntmps7
  go_wp2_with fail
  refine (szMailS_any _ _ _ xs _ _ (by omega) (by omega) H.out hm HW.out HR.out).mono ?_
  rintro e w1 ⟨r0, rfl, r1, r2, r3, e1⟩
  by_cases hr0 : r0 < 0
  · go_wp2
    go_ret
    exact ⟨rfl, e1⟩
  have hn1 : (n : Int) ≤ 1048576 := r3 (by omega)
  go_wp2_with fail
  refine (toMailS_any _ _ _ xs _ H.out (by omega) (HR.out.ext (e1))).mono ?_
  rintro e w2 ⟨rfl, o2, e2⟩
  have L2 := Lib.hid (show MailL w2 _ n xs from ⟨H.out, by omega, HW.out, Rd.own o2⟩)
  clear o2
  go_wp2_with fail
  refine (toIntS_any _ _ _ r _ hrn (RR.out.ext (e1.trans (e2)))).mono ?_
  rintro e w3 ⟨rfl, o3, e3⟩
  have Q3 := Lib.hid (Rd.own o3)
  clear o3
  go_wp2_with fail
  refine (WaitsOnS_any _ _ _ xs f m _ _ _ r _ (L2.out.ext e3) hrn Q3.out).mono ?_
  rintro e w4 ⟨rfl, e4⟩
  go_wp2_with fail
  refine (toMailS_any _ _ _ xs _ H.out (by omega) (HR.out.ext (e1.trans (e2.trans (e3.trans (e4)))))).mono ?_
  rintro e w5 ⟨rfl, o5, e5⟩
  have L5 := Lib.hid (show MailL w5 _ n xs from ⟨H.out, by omega, HW.out, Rd.own o5⟩)
  clear o5
  go_wp2_with fail
  refine (toIntS_any _ _ _ r _ hrn (RR.out.ext (e1.trans (e2.trans (e3.trans (e4.trans (e5))))))).mono ?_
  rintro e w6 ⟨rfl, o6, e6⟩
  have Q6 := Lib.hid (Rd.own o6)
  clear o6
  go_wp2_with fail
  refine (WaitsOnI_any _ _ _ xs f m _ _ _ r _ (L5.out.ext e6) hrn Q6.out).mono ?_
  rintro e w7 ⟨rfl, e7⟩
  go_wp2_with fail
  refine (toMailS_any _ _ _ xs _ H.out (by omega) (HR.out.ext (e1.trans (e2.trans (e3.trans (e4.trans (e5.trans (e6.trans (e7))))))))).mono ?_
  rintro e w8 ⟨rfl, o8, e8⟩
  have L8 := Lib.hid (show MailL w8 _ n xs from ⟨H.out, by omega, HW.out, Rd.own o8⟩)
  clear o8
  go_wp2_with fail
  refine (eqMailS_same _ _ _ _ _ xs _ H.out (by omega) (L5.out.ext (e6.trans (e7.trans (e8)))).rd L8.out.rd).mono ?_
  rintro e w9 ⟨rfl, e9⟩
  go_wp2_with fail
  refine (toIntS_any _ _ _ r _ hrn (RR.out.ext (e1.trans (e2.trans (e3.trans (e4.trans (e5.trans (e6.trans (e7.trans (e8.trans (e9))))))))))).mono ?_
  rintro e w10 ⟨rfl, o10, e10⟩
  have Q10 := Lib.hid (Rd.own o10)
  clear o10
  go_wp2_with fail
  refine (eqIntS_same _ _ _ _ _ r _ hrn (Q6.out.ext (e7.trans (e8.trans (e9.trans (e10))))) Q10.out).mono ?_
  rintro e w11 ⟨rfl, e11⟩
  go_wp2
  go_ret
  exact ⟨rfl, e1.trans (e2.trans (e3.trans (e4.trans (e5.trans (e6.trans (e7.trans (e8.trans (e9.trans (e10.trans (e11))))))))))⟩
end Go.Proofs.Ytbbiienkghbdbaa
