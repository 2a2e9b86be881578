/- DueOn (made by wip/covers2.py). -/
import Derived.Test.YtopjomkjdmcljaaRateF
import Derived.Test.YtopjomkjdmcljaaCover1
namespace Go.Proofs.Ytopjomkjdmcljaa
open Go.RowKit
set_option linter.unusedVariables false
set_option linter.unusedSimpArgs false
attribute [local go_sem] ExtOf.cell

def cvGood (x : Cover) : Bool := cvOk x.Id x.Day x.Zone x.Grams x.Paid x.From x.To x.Leave x.Arrive
def dueOk (xs : List Rate) (x : Cover) : Bool := (RatesOk xs && cvGood x) && hasRate xs x.Day x.Zone x.Grams
def dueR (xs : List Rate) (x : Cover) : Int := if dueOk xs x then 2 * max 0 (rateAt xs x.Day x.Zone x.Grams - x.Paid) else 0
theorem cvPaid {x : Cover} (h : cvOk x.Id x.Day x.Zone x.Grams x.Paid x.From x.To x.Leave x.Arrive = true) : 1 ≤ x.Paid ∧ x.Paid ≤ 9999 := by
  simp only [cvOk, inB, Bool.and_eq_true, decide_eq_true_eq] at h
  omega


set_option maxRecDepth 100000 in
set_option maxHeartbeats 1000000 in
theorem DueOnI_any (A : Option Addr) (n c : Nat) (xs : List Rate) (x : Cover) (w : World) (h : RateL w A n xs) :
    Calls Try.prog 24 #[.slice A n c, .agg #[.int .i64 x.Id, .int .i64 x.Day, .int .i64 x.Zone, .int .i64 x.Grams, .int .i64 x.Paid, .int .i64 x.From, .int .i64 x.To, .int .i64 x.Leave, .int .i64 x.Arrive]] w fun e w' => e = .returned (.tuple #[.int .i64 (dueR xs x), .bool (dueOk xs x)]) ∧ Ext w w' := by
  have hsm := h.small
  rcases chain2 (RatesOk xs) (cvOk x.Id x.Day x.Zone x.Grams x.Paid x.From x.To x.Leave x.Arrive) with h1 | ⟨h1, h2⟩ | ⟨h1, h2⟩
  · go_enter Try.func24, Try.ntmps24
    go_wp2_with (first | (go_at_call 53; refine (areRates_any _ _ _ xs _ (h.ext (by repeat (first | exact Ext.refl _ | assumption | refine Ext.trans ?_ (by assumption) | refine Ext.drew ?_ | refine Ext.drewN ?_ _ | refine Ext.alloc ?_ _)))).mono ?_; rintro e wa ⟨rfl, he1⟩; have hc1 := he1.cells; have hz1 : w.heap.size < wa.heap.size := (by have h := he1.size; (try simp only [World.size_alloc] at h); omega)) | (go_at_call 45; refine (isCover_any _ _ _ _ _ _ _ _ _ _).mono ?_; rintro e wb ⟨rfl, he2⟩; have hc2 := he2.cells; have hz2 : w.heap.size < wb.heap.size := (by have h := he2.size; (try simp only [World.size_alloc] at h); omega)))
    go_ret2
    exact ⟨ret_int_bool (by simp [dueR, dueOk, h1]) (by simp [dueOk, h1]), (by repeat (first | exact Ext.refl _ | assumption | refine Ext.trans ?_ (by assumption) | refine Ext.drew ?_ | refine Ext.drewN ?_ _ | refine Ext.alloc ?_ _))⟩
  · go_enter Try.func24, Try.ntmps24
    go_wp2_with (first | (go_at_call 53; refine (areRates_any _ _ _ xs _ (h.ext (by repeat (first | exact Ext.refl _ | assumption | refine Ext.trans ?_ (by assumption) | refine Ext.drew ?_ | refine Ext.drewN ?_ _ | refine Ext.alloc ?_ _)))).mono ?_; rintro e wa ⟨rfl, he1⟩; have hc1 := he1.cells; have hz1 : w.heap.size < wa.heap.size := (by have h := he1.size; (try simp only [World.size_alloc] at h); omega)) | (go_at_call 45; refine (isCover_any _ _ _ _ _ _ _ _ _ _).mono ?_; rintro e wb ⟨rfl, he2⟩; have hc2 := he2.cells; have hz2 : w.heap.size < wb.heap.size := (by have h := he2.size; (try simp only [World.size_alloc] at h); omega)))
    go_ret2
    exact ⟨ret_int_bool (by simp [dueR, dueOk, cvGood, h1, h2]) (by simp [dueOk, cvGood, h1, h2]), (by repeat (first | exact Ext.refl _ | assumption | refine Ext.trans ?_ (by assumption) | refine Ext.drew ?_ | refine Ext.drewN ?_ _ | refine Ext.alloc ?_ _))⟩
  · obtain ⟨hp1, hp2⟩ := cvPaid h2
    obtain ⟨hr1, hr2, hr3⟩ := rateAt_pos (d := x.Day) (z := x.Zone) (g := x.Grams) h1
    cases ht : hasRate xs x.Day x.Zone x.Grams
    · have q1 := Lib.hid (show dueR xs x = 0 by simp [dueR, dueOk, ht])
      have q2 := Lib.hid (show dueOk xs x = false by simp [dueOk, ht])
      rw [ht] at hr3
      have hz : (rateAt xs x.Day x.Zone x.Grams == 0) = true := by (simp at hr3 ⊢; omega)
      have hz' : decide (rateAt xs x.Day x.Zone x.Grams = 0) = true := by (simp at hr3 ⊢; omega)
      clear hr3
      go_enter Try.func24, Try.ntmps24
      go_wp2_with (first | (go_at_call 53; refine (areRates_any _ _ _ xs _ (h.ext (by repeat (first | exact Ext.refl _ | assumption | refine Ext.trans ?_ (by assumption) | refine Ext.drew ?_ | refine Ext.drewN ?_ _ | refine Ext.alloc ?_ _)))).mono ?_; rintro e wa ⟨rfl, he1⟩; have hc1 := he1.cells; have hz1 : w.heap.size < wa.heap.size := (by have h := he1.size; (try simp only [World.size_alloc] at h); omega)) | (go_at_call 45; refine (isCover_any _ _ _ _ _ _ _ _ _ _).mono ?_; rintro e wb ⟨rfl, he2⟩; have hc2 := he2.cells; have hz2 : w.heap.size < wb.heap.size := (by have h := he2.size; (try simp only [World.size_alloc] at h); omega)) | (go_at_call 54; refine (rateFor_any _ _ _ xs _ _ _ _ (h.ext (by repeat (first | exact Ext.refl _ | assumption | refine Ext.trans ?_ (by assumption) | refine Ext.drew ?_ | refine Ext.drewN ?_ _ | refine Ext.alloc ?_ _)))).mono ?_; rintro e wc ⟨rfl, he3⟩; have hc3 := he3.cells; have hz3 : w.heap.size < wc.heap.size := (by have h := he3.size; omega); (try rw [ht])))
      go_ret2
      exact ⟨ret_int_bool q1.out.symm q2.out.symm, (by repeat (first | exact Ext.refl _ | assumption | refine Ext.trans ?_ (by assumption) | refine Ext.drew ?_ | refine Ext.drewN ?_ _ | refine Ext.alloc ?_ _))⟩
    · have q1 := Lib.hid (show dueR xs x = 2 * max 0 (rateAt xs x.Day x.Zone x.Grams - x.Paid) by simp [dueR, dueOk, cvGood, h1, h2, ht])
      have q2 := Lib.hid (show dueOk xs x = true by simp [dueOk, cvGood, h1, h2, ht])
      rw [ht] at hr3
      have hz : (rateAt xs x.Day x.Zone x.Grams == 0) = false := by (simp at hr3 ⊢; omega)
      have hz' : decide (rateAt xs x.Day x.Zone x.Grams = 0) = false := by (simp at hr3 ⊢; omega)
      clear hr3
      go_enter Try.func24, Try.ntmps24
      go_wp2_with (first | (go_at_call 53; refine (areRates_any _ _ _ xs _ (h.ext (by repeat (first | exact Ext.refl _ | assumption | refine Ext.trans ?_ (by assumption) | refine Ext.drew ?_ | refine Ext.drewN ?_ _ | refine Ext.alloc ?_ _)))).mono ?_; rintro e wa ⟨rfl, he1⟩; have hc1 := he1.cells; have hz1 : w.heap.size < wa.heap.size := (by have h := he1.size; (try simp only [World.size_alloc] at h); omega)) | (go_at_call 45; refine (isCover_any _ _ _ _ _ _ _ _ _ _).mono ?_; rintro e wb ⟨rfl, he2⟩; have hc2 := he2.cells; have hz2 : w.heap.size < wb.heap.size := (by have h := he2.size; (try simp only [World.size_alloc] at h); omega)) | (go_at_call 54; refine (rateFor_any _ _ _ xs _ _ _ _ (h.ext (by repeat (first | exact Ext.refl _ | assumption | refine Ext.trans ?_ (by assumption) | refine Ext.drew ?_ | refine Ext.drewN ?_ _ | refine Ext.alloc ?_ _)))).mono ?_; rintro e wc ⟨rfl, he3⟩; have hc3 := he3.cells; have hz3 : w.heap.size < wc.heap.size := (by have h := he3.size; omega); (try rw [ht])))
      all_goals
        go_ret2
        exact ⟨ret_int_bool (by rw [q1.out] <;> omega) q2.out.symm, (by repeat (first | exact Ext.refl _ | assumption | refine Ext.trans ?_ (by assumption) | refine Ext.drew ?_ | refine Ext.drewN ?_ _ | refine Ext.alloc ?_ _))⟩

set_option maxRecDepth 100000 in
set_option maxHeartbeats 1000000 in
theorem DueOnS_any (A : Option Addr) (n c : Nat) (xs : List Rate) (x : Cover) (w : World) (h : RateL w A n xs) :
    Calls Try.prog 22 #[.slice A n c, .agg #[.int .i64 x.Id, .int .i64 x.Day, .int .i64 x.Zone, .int .i64 x.Grams, .int .i64 x.Paid, .int .i64 x.From, .int .i64 x.To, .int .i64 x.Leave, .int .i64 x.Arrive]] w fun e w' => e = .returned (.tuple #[.int .i64 (dueR xs x), .bool (dueOk xs x)]) ∧ Ext w w' := by
  have hsm := h.small
  rcases chain2 (RatesOk xs) (cvOk x.Id x.Day x.Zone x.Grams x.Paid x.From x.To x.Leave x.Arrive) with h1 | ⟨h1, h2⟩ | ⟨h1, h2⟩
  · go_enter Try.func22, Try.ntmps22
    go_wp2_with (first | (go_at_call 49; refine (l8Good_any _ _ _ xs _ (h.ext (by repeat (first | exact Ext.refl _ | assumption | refine Ext.trans ?_ (by assumption) | refine Ext.drew ?_ | refine Ext.drewN ?_ _ | refine Ext.alloc ?_ _)))).mono ?_; rintro e wa ⟨rfl, he1⟩; have hc1 := he1.cells; have hz1 : w.heap.size < wa.heap.size := (by have h := he1.size; (try simp only [World.size_alloc] at h); omega)) | (go_at_call 44; refine (l10One_any _ _ _ _ _ _ _ _ _ _).mono ?_; rintro e wb ⟨rfl, he2⟩; have hc2 := he2.cells; have hz2 : w.heap.size < wb.heap.size := (by have h := he2.size; (try simp only [World.size_alloc] at h); omega)))
    go_ret2
    exact ⟨ret_int_bool (by simp [dueR, dueOk, h1]) (by simp [dueOk, h1]), (by repeat (first | exact Ext.refl _ | assumption | refine Ext.trans ?_ (by assumption) | refine Ext.drew ?_ | refine Ext.drewN ?_ _ | refine Ext.alloc ?_ _))⟩
  · go_enter Try.func22, Try.ntmps22
    go_wp2_with (first | (go_at_call 49; refine (l8Good_any _ _ _ xs _ (h.ext (by repeat (first | exact Ext.refl _ | assumption | refine Ext.trans ?_ (by assumption) | refine Ext.drew ?_ | refine Ext.drewN ?_ _ | refine Ext.alloc ?_ _)))).mono ?_; rintro e wa ⟨rfl, he1⟩; have hc1 := he1.cells; have hz1 : w.heap.size < wa.heap.size := (by have h := he1.size; (try simp only [World.size_alloc] at h); omega)) | (go_at_call 44; refine (l10One_any _ _ _ _ _ _ _ _ _ _).mono ?_; rintro e wb ⟨rfl, he2⟩; have hc2 := he2.cells; have hz2 : w.heap.size < wb.heap.size := (by have h := he2.size; (try simp only [World.size_alloc] at h); omega)))
    go_ret2
    exact ⟨ret_int_bool (by simp [dueR, dueOk, cvGood, h1, h2]) (by simp [dueOk, cvGood, h1, h2]), (by repeat (first | exact Ext.refl _ | assumption | refine Ext.trans ?_ (by assumption) | refine Ext.drew ?_ | refine Ext.drewN ?_ _ | refine Ext.alloc ?_ _))⟩
  · obtain ⟨hp1, hp2⟩ := cvPaid h2
    obtain ⟨hr1, hr2, hr3⟩ := rateAt_pos (d := x.Day) (z := x.Zone) (g := x.Grams) h1
    cases ht : hasRate xs x.Day x.Zone x.Grams
    · have q1 := Lib.hid (show dueR xs x = 0 by simp [dueR, dueOk, ht])
      have q2 := Lib.hid (show dueOk xs x = false by simp [dueOk, ht])
      rw [ht] at hr3
      have hz : (rateAt xs x.Day x.Zone x.Grams == 0) = true := by (simp at hr3 ⊢; omega)
      have hz' : decide (rateAt xs x.Day x.Zone x.Grams = 0) = true := by (simp at hr3 ⊢; omega)
      clear hr3
      go_enter Try.func22, Try.ntmps22
      go_wp2_with (first | (go_at_call 49; refine (l8Good_any _ _ _ xs _ (h.ext (by repeat (first | exact Ext.refl _ | assumption | refine Ext.trans ?_ (by assumption) | refine Ext.drew ?_ | refine Ext.drewN ?_ _ | refine Ext.alloc ?_ _)))).mono ?_; rintro e wa ⟨rfl, he1⟩; have hc1 := he1.cells; have hz1 : w.heap.size < wa.heap.size := (by have h := he1.size; (try simp only [World.size_alloc] at h); omega)) | (go_at_call 44; refine (l10One_any _ _ _ _ _ _ _ _ _ _).mono ?_; rintro e wb ⟨rfl, he2⟩; have hc2 := he2.cells; have hz2 : w.heap.size < wb.heap.size := (by have h := he2.size; (try simp only [World.size_alloc] at h); omega)) | (go_at_call 50; refine (l8For_any _ _ _ xs _ _ _ _ (h.ext (by repeat (first | exact Ext.refl _ | assumption | refine Ext.trans ?_ (by assumption) | refine Ext.drew ?_ | refine Ext.drewN ?_ _ | refine Ext.alloc ?_ _)))).mono ?_; rintro e wc ⟨rfl, he3⟩; have hc3 := he3.cells; have hz3 : w.heap.size < wc.heap.size := (by have h := he3.size; omega)) | (go_at_call 51; refine (l1Most_any _ _ _).mono ?_; rintro e w' ⟨rfl, rfl⟩))
      go_ret2
      exact ⟨ret_int_bool q1.out.symm q2.out.symm, (by repeat (first | exact Ext.refl _ | assumption | refine Ext.trans ?_ (by assumption) | refine Ext.drew ?_ | refine Ext.drewN ?_ _ | refine Ext.alloc ?_ _))⟩
    · have q1 := Lib.hid (show dueR xs x = 2 * max 0 (rateAt xs x.Day x.Zone x.Grams - x.Paid) by simp [dueR, dueOk, cvGood, h1, h2, ht])
      have q2 := Lib.hid (show dueOk xs x = true by simp [dueOk, cvGood, h1, h2, ht])
      rw [ht] at hr3
      have hz : (rateAt xs x.Day x.Zone x.Grams == 0) = false := by (simp at hr3 ⊢; omega)
      have hz' : decide (rateAt xs x.Day x.Zone x.Grams = 0) = false := by (simp at hr3 ⊢; omega)
      clear hr3
      go_enter Try.func22, Try.ntmps22
      go_wp2_with (first | (go_at_call 49; refine (l8Good_any _ _ _ xs _ (h.ext (by repeat (first | exact Ext.refl _ | assumption | refine Ext.trans ?_ (by assumption) | refine Ext.drew ?_ | refine Ext.drewN ?_ _ | refine Ext.alloc ?_ _)))).mono ?_; rintro e wa ⟨rfl, he1⟩; have hc1 := he1.cells; have hz1 : w.heap.size < wa.heap.size := (by have h := he1.size; (try simp only [World.size_alloc] at h); omega)) | (go_at_call 44; refine (l10One_any _ _ _ _ _ _ _ _ _ _).mono ?_; rintro e wb ⟨rfl, he2⟩; have hc2 := he2.cells; have hz2 : w.heap.size < wb.heap.size := (by have h := he2.size; (try simp only [World.size_alloc] at h); omega)) | (go_at_call 50; refine (l8For_any _ _ _ xs _ _ _ _ (h.ext (by repeat (first | exact Ext.refl _ | assumption | refine Ext.trans ?_ (by assumption) | refine Ext.drew ?_ | refine Ext.drewN ?_ _ | refine Ext.alloc ?_ _)))).mono ?_; rintro e wc ⟨rfl, he3⟩; have hc3 := he3.cells; have hz3 : w.heap.size < wc.heap.size := (by have h := he3.size; omega)) | (go_at_call 51; refine (l1Most_any _ _ _).mono ?_; rintro e w' ⟨rfl, rfl⟩))
      all_goals
        go_ret2
        exact ⟨ret_int_bool (by rw [q1.out] <;> omega) q2.out.symm, (by repeat (first | exact Ext.refl _ | assumption | refine Ext.trans ?_ (by assumption) | refine Ext.drew ?_ | refine Ext.drewN ?_ _ | refine Ext.alloc ?_ _))⟩
end Go.Proofs.Ytopjomkjdmcljaa
