/- Valid lists of rates: the reference. -/
import Derived.Test.YtkganlojknhajaaDoorRateV
namespace Go.Proofs.YtkganlojknhajaaDoor
open Go.RowKit
set_option linter.unusedVariables false
set_option linter.unusedSimpArgs false
attribute [local go_sem] ExtOf.cell

def rateCode (x : Rate) : Int := (10000 * x.Zone + x.Grams) * 10000 + x.From
theorem rtOk_all {z g f u c : Int} (h : rtOk z g f u c = true) : (0 ≤ z ∧ z ≤ 9) ∧ (1 ≤ g ∧ g ≤ 2000) ∧ (0 ≤ f ∧ f ≤ u) ∧ (0 ≤ u ∧ u ≤ 4000) ∧ (1 ≤ c ∧ c ≤ 9999) := by
  simp only [rtOk, inB, Bool.and_eq_true, decide_eq_true_eq] at h
  omega
theorem rateLess_code {x y : Rate} (hx : RateGood x = true) (hy : RateGood y = true) : rateLess y x = (!(decide (rateCode x ≤ rateCode y)) && !((y.Zone == x.Zone) && ((y.Grams == x.Grams) && decide (x.From ≤ y.Until)))) := by
  obtain ⟨⟨a1, a2⟩, ⟨a3, a4⟩, ⟨a5, a6⟩, ⟨a7, a8⟩, a9, a10⟩ := rtOk_all (show rtOk x.Zone x.Grams x.From x.Until x.Cents = true from hx)
  obtain ⟨⟨b1, b2⟩, ⟨b3, b4⟩, ⟨b5, b6⟩, ⟨b7, b8⟩, b9, b10⟩ := rtOk_all (show rtOk y.Zone y.Grams y.From y.Until y.Cents = true from hy)
  unfold rateLess rateCode
  rcases Int.lt_trichotomy y.Zone x.Zone with h1 | h1 | h1
  · have h2 : ¬ ((10000 * x.Zone + x.Grams) * 10000 + x.From ≤ (10000 * y.Zone + y.Grams) * 10000 + y.From) := by omega
    have h3 : ¬ y.Zone = x.Zone := by omega
    simp [h1, h2, h3]
  · rcases Int.lt_trichotomy y.Grams x.Grams with h2 | h2 | h2
    · have h3 : ¬ ((10000 * x.Zone + x.Grams) * 10000 + x.From ≤ (10000 * y.Zone + y.Grams) * 10000 + y.From) := by omega
      have h4 : ¬ y.Grams = x.Grams := by omega
      simp [h1, h2, h3, h4]
      try omega
    · by_cases h3 : y.Until < x.From
      · have h4 : ¬ ((10000 * x.Zone + x.Grams) * 10000 + x.From ≤ (10000 * y.Zone + y.Grams) * 10000 + y.From) := by omega
        have h5 : ¬ x.From ≤ y.Until := by omega
        rw [h1, h2] at h4
        simp [h1, h2, h3, h4, h5]
        try omega
      · have h5 : x.From ≤ y.Until := by omega
        simp [h1, h2, h3, h5]
    · have h3 : (10000 * x.Zone + x.Grams) * 10000 + x.From ≤ (10000 * y.Zone + y.Grams) * 10000 + y.From := by omega
      have h4 : ¬ y.Grams < x.Grams := by omega
      have h5 : ¬ y.Grams = x.Grams := by omega
      simp [h1, h3, h4, h5]
      try omega
  · have h2 : (10000 * x.Zone + x.Grams) * 10000 + x.From ≤ (10000 * y.Zone + y.Grams) * 10000 + y.From := by omega
    have h3 : ¬ y.Zone < x.Zone := by omega
    have h4 : ¬ y.Zone = x.Zone := by omega
    simp [h2, h3, h4]

set_option maxHeartbeats 400000 in
theorem l8Code_any (x : Rate) (hx : RateGood x = true) (w : World) :
    Calls Tryd.prog 52 #[.agg #[.int .i64 x.Zone, .int .i64 x.Grams, .int .i64 x.From, .int .i64 x.Until, .int .i64 x.Cents]] w fun e w' => e = .returned (.int .i64 (rateCode x)) ∧ Ext w w' := by
  obtain ⟨⟨a1, a2⟩, ⟨a3, a4⟩, ⟨a5, a6⟩, ⟨a7, a8⟩, a9, a10⟩ := rtOk_all (show rtOk x.Zone x.Grams x.From x.Until x.Cents = true from hx)
  unfold rateCode
  go_enter Tryd.func52, Tryd.ntmps52
  go_wp2
  go_ret
  exact ⟨ret_int (by omega), (by repeat (first | exact Ext.refl _ | assumption | refine Ext.trans ?_ (by assumption) | refine Ext.drew ?_ | refine Ext.drewN ?_ _ | refine Ext.alloc ?_ _))⟩


set_option maxRecDepth 100000 in
set_option maxHeartbeats 1000000 in
theorem l8Good_any (A : Option Addr) (n c : Nat) (xs : List Rate) (w : World) (h : RateL w A n xs) :
    Calls Tryd.prog 34 #[.slice A n c] w fun e w' => e = .returned (.bool (RatesOk xs)) ∧ Ext w w' := by
  have hsm := h.small
  go_enter Tryd.func34, Tryd.ntmps34
  go_wp2
  go_loopw [3] (fun i wr => ∃ k : Nat, k ≤ n ∧ k ≤ 17 ∧ i = .int .i64 k ∧ adjTo RateP xs k ∧ Ext w wr) (fun i _ => n - (intOf i).toNat)
  case atStart => exact ⟨0, Nat.zero_le _, by omega, rfl, adjTo_zero _ _, Ext.refl _⟩
  case round =>
    obtain ⟨k, hk, hk17, rfl, ha, he⟩ := hrel
    have HA := Lib.hid ha
    clear ha
    by_cases hlt : k < n
    · by_cases h17 : k = 17
      · have hend := Lib.hid (show RatesOk xs = decide ((n : Int) ≤ 16) by (rw [← h.len]; simp only [RatesOk]; have : ¬ xs.length ≤ 16 := (by have := h.len; omega); simp [this]; omega))
        have HK := Lib.hid h17
        have hd : decide ((k : Int) ≤ 16) = false := by simp; omega
        clear h17
        go_wp2
        go_ret
        exact ⟨ret_bool hend.out.symm, he⟩
      · have hd : decide ((k : Int) ≤ 16) = true := by simp; omega
        obtain ⟨b, off, x, rfl, hb, hx, g0, g1, g2, g3, g4⟩ := (h.ext he).at_ hlt
        cases hs : rtOk x.Zone x.Grams x.From x.Until x.Cents
        · have hbad := Lib.hid (RatesOk_bad hx.out (by simp [RateP, RateGood, hs]))
          go_wp2
          (refine wp_region_ext_lit (by kernel_rfl) (by kernel_rfl) ?_; (repeat (go_big_quiet_step ((first | (go_at_call 24; exact ext_call (l8One_any _ _ _ _ _ _)) | (go_at_call 52; exact ext_call (l8Code_any _ (by assumption) _)))))); refine wpQuiet_nil ?_; rintro wq ⟨⟨_, heq⟩, rfl⟩; (try dsimp only))
          go_wp2
          go_ret
          exact ⟨ret_bool hbad.out.symm, he.trans heq⟩
        · have hxg : RateGood x = true := hs
          rcases Nat.eq_zero_or_pos k with hk0 | hpos
          · have hgood := Lib.hid (adjTo_succ HA.out hx.out (by simp [RateP, RateGood, hs, hk0, before_zero]))
            have hd1 : decide (0 < (k : Int)) = false := by simp; omega
            have hd2 : decide (0 < k) = false := by simp; omega
            clear hk0
            go_wp2
            (refine wp_region_ext_lit (by kernel_rfl) (by kernel_rfl) ?_; (repeat (go_big_quiet_step ((first | (go_at_call 24; exact ext_call (l8One_any _ _ _ _ _ _)) | (go_at_call 52; exact ext_call (l8Code_any _ (by assumption) _)))))); refine wpQuiet_nil ?_; rintro wq ⟨⟨_, heq⟩, rfl⟩; (try dsimp only))
            go_wp2
            have heA := heq
            have hb3 : b < wq.heap.size := by (have := heA.size; omega)
            have hc3 := heA.cells
            (refine wp_region_ext_lit (by kernel_rfl) (by kernel_rfl) ?_; (repeat (go_big_quiet_step ((fail)))); refine wpQuiet_nil ?_; rintro wq ⟨⟨_, heq⟩, rfl⟩; (try dsimp only))
            go_wp2
            go_roundw
            case rel => exact ⟨k + 1, by omega, by omega, by go_num, hgood.out, he.trans (heA.trans heq)⟩
            case measure => simp [intOf]; omega
          · obtain ⟨b', off', y, eA, hb', hy, q0, q1, q2, q3, q4⟩ := (h.ext he).at_ (show k - 1 < n by omega)
            injection eA with eA
            injection eA with e1 e2
            subst e1; subst e2
            have hyg : RateGood y = true := RateP_at HA.out (by omega) hy.out
            have hP := RateP_pos (x := x) hpos hy.out
            rw [rateLess_code hxg hyg, hxg, Bool.true_and] at hP
            have hd1 : decide (0 < (k : Int)) = true := by simp; omega
            have hd2 : decide (0 < k) = true := by simp; omega
            cases hcd : decide (rateCode x ≤ rateCode y)
            · cases hz : (y.Zone == x.Zone)
              · have hgood := Lib.hid (adjTo_succ HA.out hx.out (by rw [hP]; simp [hcd, hz]))
                clear hP
                go_wp2
                (refine wp_region_ext_lit (by kernel_rfl) (by kernel_rfl) ?_; (repeat (go_big_quiet_step ((first | (go_at_call 24; exact ext_call (l8One_any _ _ _ _ _ _)) | (go_at_call 52; exact ext_call (l8Code_any _ (by assumption) _)))))); refine wpQuiet_nil ?_; rintro wq ⟨⟨_, heq⟩, rfl⟩; (try dsimp only))
                go_wp2
                have heA := heq
                have hb3 : b < wq.heap.size := by (have := heA.size; omega)
                have hc3 := heA.cells
                (refine wp_region_ext_lit (by kernel_rfl) (by kernel_rfl) ?_; (repeat (go_big_quiet_step ((fail)))); refine wpQuiet_nil ?_; rintro wq ⟨⟨_, heq⟩, rfl⟩; (try dsimp only))
                go_wp2
                go_roundw
                case rel => exact ⟨k + 1, by omega, by omega, by go_num, hgood.out, he.trans (heA.trans heq)⟩
                case measure => simp [intOf]; omega

              · cases hg : (y.Grams == x.Grams)
                · have hgood := Lib.hid (adjTo_succ HA.out hx.out (by rw [hP]; simp [hcd, hz, hg]))
                  clear hP
                  go_wp2
                  (refine wp_region_ext_lit (by kernel_rfl) (by kernel_rfl) ?_; (repeat (go_big_quiet_step ((first | (go_at_call 24; exact ext_call (l8One_any _ _ _ _ _ _)) | (go_at_call 52; exact ext_call (l8Code_any _ (by assumption) _)))))); refine wpQuiet_nil ?_; rintro wq ⟨⟨_, heq⟩, rfl⟩; (try dsimp only))
                  go_wp2
                  have heA := heq
                  have hb3 : b < wq.heap.size := by (have := heA.size; omega)
                  have hc3 := heA.cells
                  (refine wp_region_ext_lit (by kernel_rfl) (by kernel_rfl) ?_; (repeat (go_big_quiet_step ((fail)))); refine wpQuiet_nil ?_; rintro wq ⟨⟨_, heq⟩, rfl⟩; (try dsimp only))
                  go_wp2
                  go_roundw
                  case rel => exact ⟨k + 1, by omega, by omega, by go_num, hgood.out, he.trans (heA.trans heq)⟩
                  case measure => simp [intOf]; omega

                · cases hu : decide (x.From ≤ y.Until)
                  · have hgood := Lib.hid (adjTo_succ HA.out hx.out (by rw [hP]; simp [hcd, hz, hg, hu]))
                    clear hP
                    go_wp2
                    (refine wp_region_ext_lit (by kernel_rfl) (by kernel_rfl) ?_; (repeat (go_big_quiet_step ((first | (go_at_call 24; exact ext_call (l8One_any _ _ _ _ _ _)) | (go_at_call 52; exact ext_call (l8Code_any _ (by assumption) _)))))); refine wpQuiet_nil ?_; rintro wq ⟨⟨_, heq⟩, rfl⟩; (try dsimp only))
                    go_wp2
                    have heA := heq
                    have hb3 : b < wq.heap.size := by (have := heA.size; omega)
                    have hc3 := heA.cells
                    (refine wp_region_ext_lit (by kernel_rfl) (by kernel_rfl) ?_; (repeat (go_big_quiet_step ((fail)))); refine wpQuiet_nil ?_; rintro wq ⟨⟨_, heq⟩, rfl⟩; (try dsimp only))
                    go_wp2
                    go_roundw
                    case rel => exact ⟨k + 1, by omega, by omega, by go_num, hgood.out, he.trans (heA.trans heq)⟩
                    case measure => simp [intOf]; omega

                  · have hbad := Lib.hid (RatesOk_bad hx.out (by rw [hP]; simp [hcd, hz, hg, hu]))
                    clear hP
                    go_wp2
                    (refine wp_region_ext_lit (by kernel_rfl) (by kernel_rfl) ?_; (repeat (go_big_quiet_step ((first | (go_at_call 24; exact ext_call (l8One_any _ _ _ _ _ _)) | (go_at_call 52; exact ext_call (l8Code_any _ (by assumption) _)))))); refine wpQuiet_nil ?_; rintro wq ⟨⟨_, heq⟩, rfl⟩; (try dsimp only))
                    go_wp2
                    have heA := heq
                    have hb3 : b < wq.heap.size := by (have := heA.size; omega)
                    have hc3 := heA.cells
                    (refine wp_region_ext_lit (by kernel_rfl) (by kernel_rfl) ?_; (repeat (go_big_quiet_step ((fail)))); refine wpQuiet_nil ?_; rintro wq ⟨⟨_, heq⟩, rfl⟩; (try dsimp only))
                    go_wp2
                    go_ret
                    exact ⟨ret_bool hbad.out.symm, he.trans (heA.trans heq)⟩

            · have hbad := Lib.hid (RatesOk_bad hx.out (by rw [hP]; simp [hcd]))
              clear hP
              go_wp2
              (refine wp_region_ext_lit (by kernel_rfl) (by kernel_rfl) ?_; (repeat (go_big_quiet_step ((first | (go_at_call 24; exact ext_call (l8One_any _ _ _ _ _ _)) | (go_at_call 52; exact ext_call (l8Code_any _ (by assumption) _)))))); refine wpQuiet_nil ?_; rintro wq ⟨⟨_, heq⟩, rfl⟩; (try dsimp only))
              go_wp2
              go_ret
              exact ⟨ret_bool hbad.out.symm, he.trans heq⟩
    · obtain rfl : n = k := by omega
      have hend := Lib.hid (RatesOk_end h.len HA.out)
      go_wp2
      go_ret
      exact ⟨ret_bool hend.out.symm, he⟩

end Go.Proofs.YtkganlojknhajaaDoor
