/- RateFor (made by wip/rates2.py). -/
import Derived.Test.YtkganlojknhajaaDoorRateF
namespace Go.Proofs.YtkganlojknhajaaDoor
open Go.RowKit
set_option linter.unusedVariables false
set_option linter.unusedSimpArgs false
attribute [local go_sem] ExtOf.cell

def askRate (xs : List Rate) (d z g : Int) : Bool := RatesOk xs && (inB d 0 4000 && (inB z 0 9 && inB g 1 2000))
def rateForR (xs : List Rate) (d z g : Int) : Int := if askRate xs d z g then rateAt xs d z g else 0
def rateForOk (xs : List Rate) (d z g : Int) : Bool := askRate xs d z g && hasRate xs d z g


set_option maxRecDepth 100000 in
set_option maxHeartbeats 1000000 in
theorem RateForI_any (A : Option Addr) (n c : Nat) (xs : List Rate) (d z g : Int) (w : World) (h : RateL w A n xs) :
    Calls Tryd.prog 15 #[.slice A n c, .int .i64 d, .int .i64 z, .int .i64 g] w fun e w' => e = .returned (.tuple #[.int .i64 (rateForR xs d z g), .bool (rateForOk xs d z g)]) ∧ Ext w w' := by
  have hsm := h.small
  rcases chain4 (RatesOk xs) (inB d 0 4000) (inB z 0 9) (inB g 1 2000) with h1 | ⟨h1, h2⟩ | ⟨h1, h2, h3⟩ | ⟨h1, h2, h3, h4⟩ | ⟨h1, h2, h3, h4⟩
  · go_enter Tryd.func15, Tryd.ntmps15
    go_wp2_with (first | (go_at_call 30; refine (areRates_any _ _ _ xs _ h).mono ?_; rintro e wa ⟨rfl, he1⟩; have hc1 := he1.cells) | (go_at_call 38; refine (isDay_any _ _).mono ?_; rintro e w' ⟨rfl, rfl⟩) | (go_at_call 31; refine (isZone_any _ _).mono ?_; rintro e w' ⟨rfl, rfl⟩) | (go_at_call 32; refine (isWeight_any _ _).mono ?_; rintro e w' ⟨rfl, rfl⟩))
    go_ret2
    exact ⟨ret_int_bool (by simp [rateForR, askRate, h1]) (by simp [rateForOk, askRate, h1]), he1⟩
  · go_enter Tryd.func15, Tryd.ntmps15
    go_wp2_with (first | (go_at_call 30; refine (areRates_any _ _ _ xs _ h).mono ?_; rintro e wa ⟨rfl, he1⟩; have hc1 := he1.cells) | (go_at_call 38; refine (isDay_any _ _).mono ?_; rintro e w' ⟨rfl, rfl⟩) | (go_at_call 31; refine (isZone_any _ _).mono ?_; rintro e w' ⟨rfl, rfl⟩) | (go_at_call 32; refine (isWeight_any _ _).mono ?_; rintro e w' ⟨rfl, rfl⟩))
    go_ret2
    exact ⟨ret_int_bool (by simp [rateForR, askRate, h1, h2]) (by simp [rateForOk, askRate, h1, h2]), he1⟩
  · go_enter Tryd.func15, Tryd.ntmps15
    go_wp2_with (first | (go_at_call 30; refine (areRates_any _ _ _ xs _ h).mono ?_; rintro e wa ⟨rfl, he1⟩; have hc1 := he1.cells) | (go_at_call 38; refine (isDay_any _ _).mono ?_; rintro e w' ⟨rfl, rfl⟩) | (go_at_call 31; refine (isZone_any _ _).mono ?_; rintro e w' ⟨rfl, rfl⟩) | (go_at_call 32; refine (isWeight_any _ _).mono ?_; rintro e w' ⟨rfl, rfl⟩))
    go_ret2
    exact ⟨ret_int_bool (by simp [rateForR, askRate, h1, h2, h3]) (by simp [rateForOk, askRate, h1, h2, h3]), he1⟩
  · go_enter Tryd.func15, Tryd.ntmps15
    go_wp2_with (first | (go_at_call 30; refine (areRates_any _ _ _ xs _ h).mono ?_; rintro e wa ⟨rfl, he1⟩; have hc1 := he1.cells) | (go_at_call 38; refine (isDay_any _ _).mono ?_; rintro e w' ⟨rfl, rfl⟩) | (go_at_call 31; refine (isZone_any _ _).mono ?_; rintro e w' ⟨rfl, rfl⟩) | (go_at_call 32; refine (isWeight_any _ _).mono ?_; rintro e w' ⟨rfl, rfl⟩))
    go_ret2
    exact ⟨ret_int_bool (by simp [rateForR, askRate, h1, h2, h3, h4]) (by simp [rateForOk, askRate, h1, h2, h3, h4]), he1⟩
  · go_enter Tryd.func15, Tryd.ntmps15
    go_wp2_with (first | (go_at_call 33; refine (rateFor_any _ _ _ xs _ _ _ _ (h.ext he1)).mono ?_; rintro e wb ⟨rfl, he2⟩) | (go_at_call 30; refine (areRates_any _ _ _ xs _ h).mono ?_; rintro e wa ⟨rfl, he1⟩; have hc1 := he1.cells) | (go_at_call 38; refine (isDay_any _ _).mono ?_; rintro e w' ⟨rfl, rfl⟩) | (go_at_call 31; refine (isZone_any _ _).mono ?_; rintro e w' ⟨rfl, rfl⟩) | (go_at_call 32; refine (isWeight_any _ _).mono ?_; rintro e w' ⟨rfl, rfl⟩))
    go_ret2
    exact ⟨ret_int_bool (by simp [rateForR, askRate, h1, h2, h3, h4]) (by simp [rateForOk, askRate, h1, h2, h3, h4]), he1.trans he2⟩

set_option maxRecDepth 100000 in
set_option maxHeartbeats 1000000 in
theorem RateForS_any (A : Option Addr) (n c : Nat) (xs : List Rate) (d z g : Int) (w : World) (h : RateL w A n xs) :
    Calls Tryd.prog 17 #[.slice A n c, .int .i64 d, .int .i64 z, .int .i64 g] w fun e w' => e = .returned (.tuple #[.int .i64 (rateForR xs d z g), .bool (rateForOk xs d z g)]) ∧ Ext w w' := by
  have hsm := h.small
  rcases chain4 (RatesOk xs) (inB d 0 4000) (inB z 0 9) (inB g 1 2000) with h1 | ⟨h1, h2⟩ | ⟨h1, h2, h3⟩ | ⟨h1, h2, h3, h4⟩ | ⟨h1, h2, h3, h4⟩
  · go_enter Tryd.func17, Tryd.ntmps17
    go_wp2_with (first | (go_at_call 34; refine (l8Good_any _ _ _ xs _ h).mono ?_; rintro e wa ⟨rfl, he1⟩; have hc1 := he1.cells) | (go_at_call 40; refine (l2Day_any _ _).mono ?_; rintro e w' ⟨rfl, rfl⟩) | (go_at_call 35; refine (l8Zone_any _ _).mono ?_; rintro e w' ⟨rfl, rfl⟩) | (go_at_call 36; refine (l8Grams_any _ _).mono ?_; rintro e w' ⟨rfl, rfl⟩))
    go_ret2
    exact ⟨ret_int_bool (by simp [rateForR, askRate, h1]) (by simp [rateForOk, askRate, h1]), he1⟩
  · go_enter Tryd.func17, Tryd.ntmps17
    go_wp2_with (first | (go_at_call 34; refine (l8Good_any _ _ _ xs _ h).mono ?_; rintro e wa ⟨rfl, he1⟩; have hc1 := he1.cells) | (go_at_call 40; refine (l2Day_any _ _).mono ?_; rintro e w' ⟨rfl, rfl⟩) | (go_at_call 35; refine (l8Zone_any _ _).mono ?_; rintro e w' ⟨rfl, rfl⟩) | (go_at_call 36; refine (l8Grams_any _ _).mono ?_; rintro e w' ⟨rfl, rfl⟩))
    go_ret2
    exact ⟨ret_int_bool (by simp [rateForR, askRate, h1, h2]) (by simp [rateForOk, askRate, h1, h2]), he1⟩
  · go_enter Tryd.func17, Tryd.ntmps17
    go_wp2_with (first | (go_at_call 34; refine (l8Good_any _ _ _ xs _ h).mono ?_; rintro e wa ⟨rfl, he1⟩; have hc1 := he1.cells) | (go_at_call 40; refine (l2Day_any _ _).mono ?_; rintro e w' ⟨rfl, rfl⟩) | (go_at_call 35; refine (l8Zone_any _ _).mono ?_; rintro e w' ⟨rfl, rfl⟩) | (go_at_call 36; refine (l8Grams_any _ _).mono ?_; rintro e w' ⟨rfl, rfl⟩))
    go_ret2
    exact ⟨ret_int_bool (by simp [rateForR, askRate, h1, h2, h3]) (by simp [rateForOk, askRate, h1, h2, h3]), he1⟩
  · go_enter Tryd.func17, Tryd.ntmps17
    go_wp2_with (first | (go_at_call 34; refine (l8Good_any _ _ _ xs _ h).mono ?_; rintro e wa ⟨rfl, he1⟩; have hc1 := he1.cells) | (go_at_call 40; refine (l2Day_any _ _).mono ?_; rintro e w' ⟨rfl, rfl⟩) | (go_at_call 35; refine (l8Zone_any _ _).mono ?_; rintro e w' ⟨rfl, rfl⟩) | (go_at_call 36; refine (l8Grams_any _ _).mono ?_; rintro e w' ⟨rfl, rfl⟩))
    go_ret2
    exact ⟨ret_int_bool (by simp [rateForR, askRate, h1, h2, h3, h4]) (by simp [rateForOk, askRate, h1, h2, h3, h4]), he1⟩
  · obtain ⟨_, _, hp⟩ := rateAt_pos (d := d) (z := z) (g := g) h1
    have HP := Lib.hid hp
    clear hp
    go_enter Tryd.func17, Tryd.ntmps17
    go_wp2_with (first | (go_at_call 37; refine (l8For_any _ _ _ xs _ _ _ _ (h.ext he1)).mono ?_; rintro e wb ⟨rfl, he2⟩) | (go_at_call 34; refine (l8Good_any _ _ _ xs _ h).mono ?_; rintro e wa ⟨rfl, he1⟩; have hc1 := he1.cells) | (go_at_call 40; refine (l2Day_any _ _).mono ?_; rintro e w' ⟨rfl, rfl⟩) | (go_at_call 35; refine (l8Zone_any _ _).mono ?_; rintro e w' ⟨rfl, rfl⟩) | (go_at_call 36; refine (l8Grams_any _ _).mono ?_; rintro e w' ⟨rfl, rfl⟩))
    go_ret2
    exact ⟨ret_int_bool (by simp [rateForR, askRate, h1, h2, h3, h4]) (by rw [HP.out]; simp [rateForOk, askRate, h1, h2, h3, h4]), he1.trans he2⟩
end Go.Proofs.YtkganlojknhajaaDoor
