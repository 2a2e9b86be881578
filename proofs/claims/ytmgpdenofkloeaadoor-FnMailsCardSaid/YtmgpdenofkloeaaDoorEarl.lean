/- EarliestAt. -/
import Derived.Test.YtmgpdenofkloeaaDoorTimesK
namespace Go.Proofs.YtmgpdenofkloeaaDoor
open Go.RowKit
set_option linter.unusedVariables false
set_option linter.unusedSimpArgs false
attribute [local go_sem] ExtOf.cell

def askM (xs : List Mail) (f m : Int) : Bool := MailsOk xs && (inB f 0 9 && inB m 0 9999)
def askE (xs : List Mail) (f m t : Int) : Bool := askM xs f m && inB t 0 9
def earlR (xs : List Mail) (f m t : Int) : Int := if askE xs f m t then (if times xs f m t.toNat = 10000 then 0 else times xs f m t.toNat) else 0
def hasE (xs : List Mail) (f m t : Int) : Bool := askE xs f m t && !(decide (times xs f m t.toNat = 10000))
theorem earl_no {xs : List Mail} {f m t : Int} (h : askE xs f m t = false) : earlR xs f m t = 0 ∧ hasE xs f m t = false := by simp [earlR, hasE, h]
theorem earl_none {xs : List Mail} {f m t : Int} (h : times xs f m t.toNat = 10000) : earlR xs f m t = 0 ∧ hasE xs f m t = false := by simp [earlR, hasE, h]
theorem earl_some {xs : List Mail} {f m t : Int} (h : askE xs f m t = true) (h2 : times xs f m t.toNat ≠ 10000) : earlR xs f m t = times xs f m t.toNat ∧ hasE xs f m t = true := by simp [earlR, hasE, h, h2]

set_option maxRecDepth 100000 in
set_option maxHeartbeats 400000 in
theorem l9Asked_any (A : Option Addr) (n c : Nat) (xs : List Mail) (f m : Int) (w : World) (h : MailL w A n xs) :
    Calls Tryd.prog 26 #[.slice A n c, .int .i64 f, .int .i64 m] w fun e w' => e = .returned (.bool (askM xs f m)) ∧ Ext w w' := by
  unfold askM
  rcases chain3 (MailsOk xs) (inB f 0 9) (inB m 0 9999) with h1 | ⟨h1, h2⟩ | ⟨h1, h2, h3⟩ | ⟨h1, h2, h3⟩
  all_goals
    go_enter Tryd.func26, Tryd.ntmps26
    go_wp2_with (first | (go_at_call 42; refine (l9Good_any _ _ _ xs _ h).mono ?_; rintro e wa ⟨rfl, he1⟩; have hc1 := he1.cells) | (go_at_call 27; refine (l9Office_any _ _).mono ?_; rintro e w' ⟨rfl, rfl⟩) | (go_at_call 43; refine (l9Minute_any _ _).mono ?_; rintro e w' ⟨rfl, rfl⟩))
    go_ret
    exact ⟨ret_bool (by simp [*]), he1⟩

set_option maxRecDepth 100000 in
set_option maxHeartbeats 1000000 in
theorem EarliestAtI_any (A : Option Addr) (n c : Nat) (xs : List Mail) (f m t : Int) (w : World) (h : MailL w A n xs) :
    Calls Tryd.prog 8 #[.slice A n c, .int .i64 f, .int .i64 m, .int .i64 t] w fun e w' => e = .returned (.tuple #[.int .i64 (earlR xs f m t), .bool (hasE xs f m t)]) ∧ Ext w w' := by
  rcases chain4 (MailsOk xs) (inB f 0 9) (inB m 0 9999) (inB t 0 9) with h1 | ⟨h1, h2⟩ | ⟨h1, h2, h3⟩ | ⟨h1, h2, h3, h4⟩ | ⟨h1, h2, h3, h4⟩
  iterate 4
    · obtain ⟨z1, z2⟩ := earl_no (show askE xs f m t = false by simp [askE, askM, *])
      rw [z1, z2]
      clear z1 z2
      go_enter Tryd.func8, Tryd.ntmps8
      go_wp2_with (first | (go_at_call 22; refine (isTimetable_any _ _ _ xs _ h).mono ?_; rintro e wa ⟨rfl, he1⟩; have hc1 := he1.cells) | (go_at_call 23; refine (isOffice_any _ _).mono ?_; rintro e w' ⟨rfl, rfl⟩) | (go_at_call 24; refine (isMinute_any _ _).mono ?_; rintro e w' ⟨rfl, rfl⟩))
      go_ret2
      exact ⟨rfl, he1⟩
  · have hask : askE xs f m t = true := by simp [askE, askM, *]
    obtain ⟨t1, t2⟩ := inB_iff.1 h4
    obtain ⟨m1, m2⟩ := inB_iff.1 h3
    obtain ⟨t, rfl⟩ : ∃ g : Nat, t = g := ⟨t.toNat, by omega⟩
    have ht10 : t < 10 := by omega
    have hbd := times_bd (f := f) (MailsOk_good h1) m1 m2 t
    have N := Lib.hid (earl_none (xs := xs) (f := f) (m := m) (t := (t : Int)))
    have Y := Lib.hid (earl_some hask)
    have HOK := Lib.hid h1
    have HF := Lib.hid h2
    have HM := Lib.hid h3
    clear hask
    simp only [Int.toNat_natCast] at N Y
    generalize hV : times xs f m t = V at *
    have HV := Lib.hid hV
    clear hV
    by_cases hv : V = 10000
    · obtain ⟨z1, z2⟩ := N.out hv
      rw [z1, z2]
      have hn := Lib.hid (show negF (times xs f m) t = -1 by unfold negF negT; rw [HV.out, if_pos hv])
      clear z1 z2 hv N Y
      go_enter Tryd.func8, Tryd.ntmps8
      go_wp2_with (first | (go_at_call 22; refine (isTimetable_any _ _ _ xs _ h).mono ?_; rintro e wa ⟨rfl, he1⟩; have hc1 := he1.cells) | (go_at_call 23; refine (isOffice_any _ _).mono ?_; rintro e w' ⟨rfl, rfl⟩) | (go_at_call 24; refine (isMinute_any _ _).mono ?_; rintro e w' ⟨rfl, rfl⟩) | (go_at_call 29; refine (earliest_any _ _ _ xs _ _ _ (h.ext he1) HOK.out HF.out HM.out).mono ?_; rintro e we ⟨ge, hge, rfl, oe, he2⟩; have ce := row_cell oe ht10; rw [hn.out] at ce))
      go_ret2
      exact ⟨rfl, he1.trans he2⟩
    · obtain ⟨z1, z2⟩ := Y.out hv
      rw [z1, z2]
      have hn := Lib.hid (show negF (times xs f m) t = V by unfold negF negT; rw [HV.out, if_neg hv])
      clear z1 z2 hv N Y
      go_enter Tryd.func8, Tryd.ntmps8
      go_wp2_with (first | (go_at_call 22; refine (isTimetable_any _ _ _ xs _ h).mono ?_; rintro e wa ⟨rfl, he1⟩; have hc1 := he1.cells) | (go_at_call 23; refine (isOffice_any _ _).mono ?_; rintro e w' ⟨rfl, rfl⟩) | (go_at_call 24; refine (isMinute_any _ _).mono ?_; rintro e w' ⟨rfl, rfl⟩) | (go_at_call 29; refine (earliest_any _ _ _ xs _ _ _ (h.ext he1) HOK.out HF.out HM.out).mono ?_; rintro e we ⟨ge, hge, rfl, oe, he2⟩; have ce := row_cell oe ht10; rw [hn.out] at ce))
      go_ret2
      exact ⟨ret_int_bool (by omega) (by simp; omega), he1.trans he2⟩

end Go.Proofs.YtmgpdenofkloeaaDoor
