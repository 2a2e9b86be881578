/- The law of RaiseRate. -/
import Derived.Test.YtkganlojknhajaaRaiseS
import Derived.Test.YtkganlojknhajaaRaiseI
import Derived.Test.YtkganlojknhajaaHoldRate
import Derived.Test.YtkganlojknhajaaRateM
namespace Go.Proofs.Ytkganlojknhajaa
open Go.RowKit
set_option linter.unusedVariables false
set_option linter.unusedSimpArgs false
attribute [local go_sem] ExtOf.cell

set_option maxRecDepth 100000 in
set_option maxHeartbeats 1000000 in
theorem FnExactRaiseRate_any (A : Option Addr) (n c : Nat) (xs : List Rate) (z : Int) (g : Int) (d : Int) (cc : Int) (w : World) (hn : xs.length = n) (hm : n ≤ maxLen) (hw : ∀ x ∈ xs, x.Wf) (hr : Rd w A n 5 (xs.flatMap Rate.cs)) :
    Calls Try.prog 11 #[.slice A n c, .int .i64 z, .int .i64 g, .int .i64 d, .int .i64 cc] w fun e w' => e = .returned (.bool true) ∧ Ext w w' := by
  have H := Lib.hid hn
  have HW := Lib.hid hw
  have HR := Lib.hid hr
  clear hn hw hr
  go_enter Try.func11, Try.ntmps11
  go_wp2_with fail
  refine (szRateS_any _ _ _ xs _ _ (by omega) (by omega) H.out hm HW.out HR.out).mono ?_
  rintro e w1 ⟨r, rfl, r1, r2, r3, e1⟩
  by_cases hr0 : r < 0
  · go_wp2
    go_ret
    exact ⟨rfl, e1⟩
  have hn1 : (n : Int) ≤ 1048576 := r3 (by omega)
  have L1 := Lib.hid (show RateL w1 A n xs from ⟨H.out, by omega, HW.out, HR.out.ext e1⟩)
  have hCS : ((raiseO xs z g d cc).getD []).length ≤ 16 := raiseO_len
  have S2 := Lib.hid (fun (X : Option Addr) (w' : World) (t : RateL w' X n xs) => (show Calls _ _ _ _ (RowPost 25 5 (((raiseO xs z g d cc).getD []).flatMap Rate.cs) (raiseO xs z g d cc).isSome w') from RaiseRateS_any X n n xs z g d cc w' t (Nat.le_refl _)))
  have I4 := Lib.hid (fun (X : Option Addr) (w' : World) (t : RateL w' X n xs) => (show Calls _ _ _ _ (RowPost 25 5 (((raiseO xs z g d cc).getD []).flatMap Rate.cs) (raiseO xs z g d cc).isSome w') from RaiseRateI_any X n n xs z g d cc w' t))
  generalize (raiseO xs z g d cc).getD [] = CS at S2 I4 hCS
  generalize (raiseO xs z g d cc).isSome = ok at S2 I4
  go_wp2_with fail
  refine (toRateS_any _ _ _ xs _ H.out (by omega) L1.out.rd).mono ?_
  rintro e w2 ⟨rfl, o2, e2⟩
  have L2 := Lib.hid (show RateL w2 _ n xs from ⟨H.out, by omega, HW.out, Rd.own o2⟩)
  clear o2
  go_wp2_with fail
  refine (S2.out _ _ L2.out).mono ?_
  rintro e w3 ⟨A3, m3, c3, rfl, o3, e3⟩
  have HQ := Lib.hid (show CS.length = m3 by have := o3.1; rw [Rates_len] at this; omega)
  have hq3 : m3 ≤ 20000 := by have := HQ.out; omega
  have O3 := Lib.hid o3
  clear o3
  go_wp2_with fail
  refine (toRateS_any _ _ _ xs _ H.out (by omega) (L1.out.ext (e2.trans (e3))).rd).mono ?_
  rintro e w4 ⟨rfl, o4, e4⟩
  have L4 := Lib.hid (show RateL w4 _ n xs from ⟨H.out, by omega, HW.out, Rd.own o4⟩)
  have O4 := Lib.hid o4
  clear o4
  go_wp2_with fail
  refine (I4.out _ _ L4.out).mono ?_
  rintro e w5 ⟨A5, m5, c5, rfl, o5, e5⟩
  have hm5 : m5 = m3 := by have := o5.1; rw [Rates_len] at this; have := HQ.out; omega
  subst hm5
  have O5 := Lib.hid o5
  clear o5
  have B3 := Lib.hid (fun k hk => (O3.out.lt k hk).2)
  have B5 := Lib.hid (fun k hk => (O5.out.lt k hk).1)
  have z4 : w3.heap.size < w4.heap.size := (O4.out.lt _ rfl).2
  go_wp2_with fail
  refine (eqRateS_same _ _ _ _ _ CS _ HQ.out (by omega) (Rd.own O5.out) (Rd.own (e5.own (e4.own O3.out)))).mono ?_
  rintro e w6 ⟨rfl, e6⟩
  go_wp2_with fail
  refine (toRateS_any _ _ _ xs _ H.out (by omega) (L1.out.ext (e2.trans (e3.trans (e4.trans (e5.trans (e6)))))).rd).mono ?_
  rintro e w7 ⟨rfl, o7, e7⟩
  have L7 := Lib.hid (show RateL w7 _ n xs from ⟨H.out, by omega, HW.out, Rd.own o7⟩)
  clear o7
  go_wp2_with fail
  refine (eqRateS_same _ _ _ _ _ xs _ H.out (by omega) (L4.out.ext (e5.trans (e6.trans e7))).rd L7.out.rd).mono ?_
  rintro e w8 ⟨rfl, e8⟩
  have E8 := Lib.hid (e5.trans (e6.trans (e7.trans e8)))
  go_wp2_with fail
  refine (markRateS_any _ _ _ _ _ 1 _ (by omega) (by omega) (E8.out.own O4.out)).mono ?_
  rintro e w9 ⟨rfl, g9⟩
  have P3 := Lib.hid ((E8.out.own (e4.own O3.out)).kept g9 (ne_row (fun k hk => by have := B3.out k hk; omega)))
  have P5 := Lib.hid (((e6.trans (e7.trans e8)).own O5.out).kept g9 (ne_row (fun k hk => by have := B5.out k hk; omega)))
  go_wp2_with fail
  refine (eqRateS_same _ _ _ _ _ CS _ HQ.out (by omega) (Rd.own P5.out) (Rd.own P3.out)).mono ?_
  rintro e w10 ⟨rfl, e10⟩
  go_wp2_with fail
  refine (markRateS_v _ _ _ _ _ 1 _ (by omega) (by omega) (e10.own P5.out)).mono ?_
  rintro e w11 ⟨rfl, o11, g11⟩
  have O11 := Lib.hid o11
  clear o11
  go_wp2_with fail
  refine (heldRateS_any _ _ _ 1 _ (by omega) (by omega) (Rd.own O11.out)).mono ?_
  rintro e w12 ⟨rfl, e12⟩
  have E0 := Lib.hid (e1.trans (e2.trans (e3.trans (e4.trans (e5.trans (e6.trans (e7.trans (e8))))))))
  have z3 : w.heap.size ≤ w3.heap.size := (e1.trans (e2.trans e3)).size
  have E9 := Lib.hid (E0.out.row g9 z3)
  have E11 := Lib.hid ((E9.out.trans e10).grown g11 (fun k hk => by have := B5.out k hk; omega))
  have E12 := Lib.hid (E11.out.trans e12)
  have P3b := Lib.hid (e12.own ((e10.own P3.out).kept g11 (ne_blocks (fun k hk => by have := B3.out k hk; exact this) (fun k hk => by have := B5.out k hk; omega))))
  have L12 := Lib.hid (show RateL w12 A n xs from ⟨H.out, by omega, HW.out, HR.out.ext E12.out⟩)
  go_wp2_with fail
  refine (toRateS_any _ _ _ xs _ H.out (by omega) L12.out.rd).mono ?_
  rintro e w13 ⟨rfl, o13, e13⟩
  have L13 := Lib.hid (show RateL w13 _ n xs from ⟨H.out, by omega, HW.out, Rd.own o13⟩)
  clear o13
  go_wp2_with fail
  refine (I4.out _ _ L13.out).mono ?_
  rintro e w14 ⟨A14, m14, c14, rfl, o14, e14⟩
  have hm14 : m14 = m5 := by have := o14.1; rw [Rates_len] at this; have := HQ.out; omega
  subst hm14
  have O14 := Lib.hid o14
  clear o14
  go_wp2_with fail
  refine (eqRateS_same _ _ _ _ _ CS _ HQ.out (by omega) (Rd.own O14.out) (Rd.own (e14.own (e13.own P3b.out)))).mono ?_
  rintro e w15 ⟨rfl, e15⟩
  go_wp2_with fail
  refine (heldRateS_any _ _ _ 1 _ (by omega) (by omega) (Rd.own (e15.own (e14.own (e13.own (e12.own O11.out)))))).mono ?_
  rintro e w16 ⟨rfl, e16⟩
  go_wp2
  go_ret
  exact ⟨rfl, E12.out.trans (e13.trans (e14.trans (e15.trans e16)))⟩
end Go.Proofs.Ytkganlojknhajaa
