/- The law of RateText (made by wip/texts.py). -/
import Derived.Test.YtkganlojknhajaaDoorItoa
import Derived.Test.YtkganlojknhajaaDoorRate1
namespace Go.Proofs.YtkganlojknhajaaDoor
open Go.RowKit
set_option linter.unusedVariables false
set_option linter.unusedSimpArgs false
attribute [local go_sem] ExtOf.cell

def rateT (Zone : Int) (Grams : Int) (From : Int) (Until : Int) (Cents : Int) : ByteArray := if rtOk Zone Grams From Until Cents then (((((((((((⟨#[122]⟩ : ByteArray) ++ numT Zone) ++ (⟨#[32]⟩ : ByteArray)) ++ numT Grams) ++ (⟨#[103, 32]⟩ : ByteArray)) ++ numT From) ++ (⟨#[46, 46]⟩ : ByteArray)) ++ numT Until) ++ (⟨#[32]⟩ : ByteArray)) ++ numT Cents) ++ (⟨#[99]⟩ : ByteArray)) else ByteArray.empty
theorem ret_str_bool' {a b : ByteArray} {p q : Bool} (h : a = b) (h' : p = q) : Ending.returned (.tuple #[.string a, .bool p]) = .returned (.tuple #[.string b, .bool q]) := by rw [h, h']

set_option maxRecDepth 100000 in
set_option maxHeartbeats 4000000 in
theorem RateTextI_any (Zone : Int) (Grams : Int) (From : Int) (Until : Int) (Cents : Int) (w : World) (ht : TabOkW w) :
    Calls Tryd.prog 7 #[.agg #[.int .i64 Zone, .int .i64 Grams, .int .i64 From, .int .i64 Until, .int .i64 Cents]] w fun e w' => e = .returned (.tuple #[.string (rateT Zone Grams From Until Cents), .bool (rtOk Zone Grams From Until Cents)]) ∧ Ext w w' := by
  by_cases h : rtOk Zone Grams From Until Cents = true
  · have HB := Lib.hid h
    simp only [rtOk, inB, Bool.and_eq_true, Bool.not_eq_true', bne_iff_ne, ne_eq, decide_eq_true_eq, decide_eq_false_iff_not] at h
    obtain ⟨bZone, cZone, bGrams, cGrams, bFrom, cFrom, bUntil, cUntil, bCents, cCents⟩ := (show 0 ≤ Zone ∧ Zone ≤ 1000000000 ∧ 0 ≤ Grams ∧ Grams ≤ 1000000000 ∧ 0 ≤ From ∧ From ≤ 1000000000 ∧ 0 ≤ Until ∧ Until ≤ 1000000000 ∧ 0 ≤ Cents ∧ Cents ≤ 1000000000 by omega)
    clear h
    have zZone : (numT Zone).size ≤ 1000000001 := numT_size bZone cZone
    have zGrams : (numT Grams).size ≤ 1000000001 := numT_size bGrams cGrams
    have zFrom : (numT From).size ≤ 1000000001 := numT_size bFrom cFrom
    have zUntil : (numT Until).size ≤ 1000000001 := numT_size bUntil cUntil
    have zCents : (numT Cents).size ≤ 1000000001 := numT_size bCents cCents
    have h := HB.out
    go_enter Tryd.func7, Tryd.ntmps7
    go_wp2_with (go_at_call 26; refine (isRate_any _ _ _ _ _ _).mono ?_; rintro e wa ⟨rfl, he1⟩; have hc1 := he1.cells; have hz1 : w.heap.size < wa.heap.size := by (have h := he1.size; (try simp only [World.size_alloc, World.size_drew] at h); omega))
    have HT := Lib.hid (ht.ext (w' := wa) (by (repeat (first | exact Ext.refl _ | assumption | refine Ext.trans ?_ (by assumption) | refine Ext.drew ?_ | refine Ext.drewN ?_ _ | refine Ext.alloc ?_ _))))
    (refine wp_region_ext_lit (by kernel_rfl) (by kernel_rfl) ?_; (repeat (go_big_quiet_step (((go_at_call 27; exact itoa_call HT.out (by omega) (by omega)))))); refine wpQuiet_nil ?_; rintro wq ⟨⟨_, heq⟩, rfl⟩; (try dsimp only))
    go_wp2_with fail
    go_ret2
    exact ⟨ret_str_bool' (by unfold rateT; rw [if_pos HB.out]) HB.out.symm, (by (repeat (first | exact Ext.refl _ | assumption | refine Ext.trans ?_ (by assumption) | refine Ext.drew ?_ | refine Ext.drewN ?_ _ | refine Ext.alloc ?_ _)))⟩
  · have HB := Lib.hid h
    have h : rtOk Zone Grams From Until Cents = false := by simpa using h
    go_enter Tryd.func7, Tryd.ntmps7
    go_wp2_with (go_at_call 26; refine (isRate_any _ _ _ _ _ _).mono ?_; rintro e wa ⟨rfl, he1⟩; have hc1 := he1.cells; have hz1 : w.heap.size < wa.heap.size := by (have h := he1.size; (try simp only [World.size_alloc, World.size_drew] at h); omega))
    go_ret2
    exact ⟨ret_str_bool' (by unfold rateT; rw [if_neg HB.out]; rfl) h.symm, (by repeat (first | exact Ext.refl _ | assumption | refine Ext.trans ?_ (by assumption) | refine Ext.drew ?_ | refine Ext.drewN ?_ _ | refine Ext.alloc ?_ _))⟩

set_option maxRecDepth 100000 in
set_option maxHeartbeats 4000000 in
theorem RateTextS_any (Zone : Int) (Grams : Int) (From : Int) (Until : Int) (Cents : Int) (w : World) :
    Calls Tryd.prog 5 #[.agg #[.int .i64 Zone, .int .i64 Grams, .int .i64 From, .int .i64 Until, .int .i64 Cents]] w fun e w' => e = .returned (.tuple #[.string (rateT Zone Grams From Until Cents), .bool (rtOk Zone Grams From Until Cents)]) ∧ Ext w w' := by
  by_cases h : rtOk Zone Grams From Until Cents = true
  · have HB := Lib.hid h
    simp only [rtOk, inB, Bool.and_eq_true, Bool.not_eq_true', bne_iff_ne, ne_eq, decide_eq_true_eq, decide_eq_false_iff_not] at h
    obtain ⟨bZone, cZone, bGrams, cGrams, bFrom, cFrom, bUntil, cUntil, bCents, cCents⟩ := (show 0 ≤ Zone ∧ Zone ≤ 1000000000 ∧ 0 ≤ Grams ∧ Grams ≤ 1000000000 ∧ 0 ≤ From ∧ From ≤ 1000000000 ∧ 0 ≤ Until ∧ Until ≤ 1000000000 ∧ 0 ≤ Cents ∧ Cents ≤ 1000000000 by omega)
    clear h
    have zZone : (numT Zone).size ≤ 1000000001 := numT_size bZone cZone
    have zGrams : (numT Grams).size ≤ 1000000001 := numT_size bGrams cGrams
    have zFrom : (numT From).size ≤ 1000000001 := numT_size bFrom cFrom
    have zUntil : (numT Until).size ≤ 1000000001 := numT_size bUntil cUntil
    have zCents : (numT Cents).size ≤ 1000000001 := numT_size bCents cCents
    have h := HB.out
    go_enter Tryd.func5, Tryd.ntmps5
    go_wp2_with (go_at_call 24; refine (l8One_any _ _ _ _ _ _).mono ?_; rintro e wa ⟨rfl, he1⟩; have hc1 := he1.cells; have hz1 : w.heap.size < wa.heap.size := by (have h := he1.size; (try simp only [World.size_alloc, World.size_drew] at h); omega))
    (refine wp_region_ext_lit (by kernel_rfl) (by kernel_rfl) ?_; (repeat (go_big_quiet_step (((go_at_call 25; exact ext_call (l1Num_any _ _ _ (by omega) (Int.le_of_eq (Int.toNat_of_nonneg (by omega)).symm) (by omega))))))); refine wpQuiet_nil ?_; rintro wq ⟨⟨_, heq⟩, rfl⟩; (try dsimp only))
    go_wp2_with fail
    go_ret2
    exact ⟨ret_str_bool' (by unfold rateT; rw [if_pos HB.out]) HB.out.symm, (by (repeat (first | exact Ext.refl _ | assumption | refine Ext.trans ?_ (by assumption) | refine Ext.drew ?_ | refine Ext.drewN ?_ _ | refine Ext.alloc ?_ _)))⟩
  · have HB := Lib.hid h
    have h : rtOk Zone Grams From Until Cents = false := by simpa using h
    go_enter Tryd.func5, Tryd.ntmps5
    go_wp2_with (go_at_call 24; refine (l8One_any _ _ _ _ _ _).mono ?_; rintro e wa ⟨rfl, he1⟩; have hc1 := he1.cells; have hz1 : w.heap.size < wa.heap.size := by (have h := he1.size; (try simp only [World.size_alloc, World.size_drew] at h); omega))
    go_ret2
    exact ⟨ret_str_bool' (by unfold rateT; rw [if_neg HB.out]; rfl) h.symm, (by repeat (first | exact Ext.refl _ | assumption | refine Ext.trans ?_ (by assumption) | refine Ext.drew ?_ | refine Ext.drewN ?_ _ | refine Ext.alloc ?_ _))⟩

set_option maxRecDepth 100000 in
set_option maxHeartbeats 4000000 in
theorem FnExactRateText_any (Zone : Int) (Grams : Int) (From : Int) (Until : Int) (Cents : Int) (w : World) (ht : TabOkW w) :
    Calls Tryd.prog 3 #[.agg #[.int .i64 Zone, .int .i64 Grams, .int .i64 From, .int .i64 Until, .int .i64 Cents]] w fun e w' => e = .returned (.bool true) ∧ Ext w w' := by
  have HI := Lib.hid (fun (w' : World) (he : Ext w w') => RateTextI_any Zone Grams From Until Cents  w' (ht.ext he))
  have HS := Lib.hid (RateTextS_any Zone Grams From Until Cents )
  generalize rateT Zone Grams From Until Cents = t at HI HS
  generalize rtOk Zone Grams From Until Cents = b at HI HS
  go_enter Tryd.func3, Tryd.ntmps3
  go_wp2_with (first | (go_at_call 6; refine (toRate_any _ _ _ _ _ _).mono ?_; rintro e w1 ⟨rfl, he1⟩; have hc1 := he1.cells; have hz1 : w.heap.size < w1.heap.size := by (have h := he1.size; (try simp only [World.size_alloc, World.size_drew] at h); omega)) | (go_at_call 5; refine (HS.out _).mono ?_; rintro e w2 ⟨rfl, he2⟩; have hc2 := he2.cells; have hz2 : w.heap.size < w2.heap.size := by (have h := he2.size; (try simp only [World.size_alloc, World.size_drew] at h); omega)) | (go_at_call 7; refine (HI.out _ (by repeat (first | exact Ext.refl _ | assumption | refine Ext.trans ?_ (by assumption) | refine Ext.drew ?_ | refine Ext.drewN ?_ _ | refine Ext.alloc ?_ _))).mono ?_; rintro e w3 ⟨rfl, he3⟩; have hc3 := he3.cells))
  go_ret
  exact ⟨rfl, (by repeat (first | exact Ext.refl _ | assumption | refine Ext.trans ?_ (by assumption) | refine Ext.drew ?_ | refine Ext.drewN ?_ _ | refine Ext.alloc ?_ _))⟩
end Go.Proofs.YtkganlojknhajaaDoor
