/- The law FnRaises. -/
import Derived.Test.YtkganlojknhajaaRaiseQ
import Derived.Test.YtkganlojknhajaaRaiseI
import Derived.Test.YtkganlojknhajaaRaiseS
import Derived.Test.YtkganlojknhajaaRateJ
import Derived.Test.YtkganlojknhajaaRateX
import Derived.Test.YtkganlojknhajaaVs
import Derived.Test.YtkganlojknhajaaDrawRateD
namespace Go.Proofs.Ytkganlojknhajaa
open Go.RowKit
set_option linter.unusedVariables false
set_option linter.unusedSimpArgs false
attribute [local go_sem] ExtOf.cell

theorem rates_wf {xs : List Rate} (h : RatesOk xs = true) : ∀ x ∈ xs, x.Wf := fun x hx => by
  obtain ⟨⟨z1, z2⟩, ⟨g1, g2⟩, ⟨f1, f2⟩, ⟨u1, u2⟩, ⟨c1, c2⟩⟩ := rtOk_all (show rtOk x.Zone x.Grams x.From x.Until x.Cents = true from RatesOk_good h x hx)
  exact ⟨wf_i64 (smI _ (by omega) (by omega)), wf_i64 (smI _ (by omega) (by omega)), wf_i64 (smI _ (by omega) (by omega)), wf_i64 (smI _ (by omega) (by omega)), wf_i64 (smI _ (by omega) (by omega))⟩
set_option maxRecDepth 100000 in
set_option maxHeartbeats 4000000 in
theorem FnRaises_any (A : Option Addr) (n c : Nat) (l : List Int) (w : World) (h : CodeOk w A n l) :
    Calls Try.prog 12 #[.slice A n c] w fun e w' => e = .returned (.bool true) ∧ Ext w w' := by
  have HC := Lib.hid h
  have hsm := h.small
  clear h
  by_cases hbig : 65536 < (n : Int)
  · have hd : decide (65536 < (n : Int)) = true := by simpa using hbig
    go_enter Try.func12, Try.ntmps12
    go_wp2_with (go_at_call 43; refine (vBig_any A n c w hsm).mono ?_; rintro e w' ⟨rfl, rfl⟩)
    go_ret
    exact ⟨rfl, Ext.refl _⟩
  have hd : decide (65536 < (n : Int)) = false := by simpa using hbig
  clear hbig
  go_enter Try.func12, Try.ntmps12
  go_wp2_with fail
  refine (vBig_any A n c w hsm).mono ?_
  rintro e w' ⟨rfl, rfl⟩
  go_wp2_with fail
  refine (DrawRaiseRate_any A n c l _ HC.out).mono ?_
  rintro e w1 ⟨B, m, mc, z, g, d, cc, rfl, ⟨xs, hmc, hL⟩, e1⟩
  have L1 := Lib.hid hL
  have hms := hL.small
  clear hL
  go_wp2_with fail
  refine (RaiseRateI_any B m mc xs z g d cc _ L1.out).mono ?_
  rintro e w2 ⟨A2, m2, c2, rfl, o2, e2⟩
  go_wp2_with fail
  refine (RaiseRateS_any B m mc xs z g d cc _ (L1.out.ext e2) hmc).mono ?_
  rintro e w3 ⟨A3, m3, c3, rfl, o3, e3⟩
  have hl2 : ((raiseO xs z g d cc).getD []).length = m2 := by have := o2.1; rw [Rates_len] at this; omega
  have hl3 : m3 = m2 := by have := o3.1; rw [Rates_len] at this; omega
  subst hl3
  have hm16 : m3 ≤ 16 := by rw [← hl2]; exact raiseO_len
  have O2 := Lib.hid o2
  have O3 := Lib.hid o3
  have E3 := Lib.hid (e1.trans (e2.trans e3))
  have E2 := Lib.hid e2
  have E23 := Lib.hid e3
  clear o2 o3 e1 e2 e3
  rcases hR : raiseO xs z g d cc with _ | out
  focus
    rw [hR] at O2 O3 hl2
    have HL := Lib.hid hl2
    clear hR hl2
    go_wp2_with fail
    refine (vRates_same A2 A3 m3 c2 c3 [] _ HL.out (by omega) (Rd.own (E23.out.own O2.out)) (Rd.own O3.out)).mono ?_
    rintro e w4 ⟨rfl, e4⟩
    have EJ := Lib.hid (E3.out.trans e4)
    clear e4 O2 O3 E3 E2 E23 L1
    obtain ⟨wj, rfl⟩ : ∃ wj : World, wj = w4 := ⟨_, rfl⟩
    go_wp2_with fail
  rotate_left
  focus
    obtain ⟨k1, k2, k3, k4, k5, k6, k7, k8, k9⟩ := raise_law hR
    rw [hR] at O2 O3 hl2
    have hl4 : out.length = m3 := hl2
    have HL := Lib.hid hl4
    have hmm : m3 = m + 1 := by have := L1.out.len; omega
    have K1 := Lib.hid k1
    have K3 := Lib.hid k3
    have K4 := Lib.hid k4
    have K5 := Lib.hid k5
    have K6 := Lib.hid k6
    have K7 := Lib.hid k7
    have HMM := Lib.hid hmm
    have LO := Lib.hid (show RateL w3 A2 m3 out from ⟨hl4, by omega, rates_wf k1, Rd.own (E23.out.own O2.out)⟩)
    have L3 := Lib.hid (L1.out.ext (E2.out.trans E23.out))
    have t1 : (m3 : Int) = (m : Int) + 1 := by omega
    have T1 := Lib.hid t1
    clear hR hl2 hl4 k1 k2 k3 k4 k5 k6 k7 hmm t1
    go_wp2_with fail
    refine (vRates_same A2 A3 m3 c2 c3 out _ HL.out (by omega) (Rd.own (E23.out.own O2.out)) (Rd.own O3.out)).mono ?_
    rintro e w4 ⟨rfl, e4⟩
    go_wp2_with fail
    refine (RateForI_any A2 m3 c2 out d z g _ (LO.out.ext e4)).mono ?_
    rintro e w5 ⟨rfl, e5⟩
    rw [K3.out, K4.out]
    go_wp2_with fail
    refine (RateForI_any A2 m3 c2 out (d - 1) z g _ (LO.out.ext (e4.trans e5))).mono ?_
    rintro e w6 ⟨rfl, e6⟩
    rw [K5.out, K6.out]
    go_wp2_with fail
    refine (RateForI_any B m mc xs (d - 1) z g _ (L3.out.ext (e4.trans (e5.trans e6)))).mono ?_
    rintro e w7 ⟨rfl, e7⟩
    rw [K7.out]
    generalize rateForR xs (d - 1) z g = rv
    rw [HMM.out] at *
    go_wp2_with fail
    refine (AreRatesI_any A2 (m + 1) c2 out _ (LO.out.ext (e4.trans (e5.trans (e6.trans e7))))).mono ?_
    rintro e w8 ⟨rfl, e8⟩
    rw [K1.out]
    have EJ := Lib.hid (E3.out.trans (e4.trans (e5.trans (e6.trans (e7.trans e8)))))
    clear e4 e5 e6 e7 e8 O2 O3 E3 E2 E23 L1 L3 LO K1 K3 K4 K5 K6 K7 HL HMM T1 k8 k9
    obtain ⟨wj, rfl⟩ : ∃ wj : World, wj = w8 := ⟨_, rfl⟩
    go_wp2_with fail
  all_goals
    clear hms hmc
    refine (DrawCheapestZones_any A n c l _ (HC.out.ext EJ.out)).mono ?_
    rintro e w1 ⟨B, m, mc, d, g, rfl, ⟨xs, hmc, hL⟩, e1⟩
    have L1 := Lib.hid hL
    have hms := hL.small
    clear hL hmc
    go_wp2_with fail
    refine (CheapestZonesI_any B m mc xs d g _ L1.out).mono ?_
    rintro e w2 ⟨A2, m2, c2, rfl, o2, e2⟩
    go_wp2_with fail
    refine (CheapestZonesS_any B m mc xs d g _ (L1.out.ext e2)).mono ?_
    rintro e w3 ⟨A3, m3, c3, rfl, o3, e3⟩
    have hl2 : (cheapR xs d g).length = m2 := by have := o2.1; rw [ints_length] at this; omega
    have hl3 : m3 = m2 := by have := o3.1; rw [ints_length] at this; omega
    subst hl3
    have hm10 : m3 ≤ 10 := by rw [← hl2]; exact cheap_len
    have O2 := Lib.hid (e3.own o2)
    have O3 := Lib.hid o3
    have L3 := Lib.hid (L1.out.ext (e2.trans e3))
    have EK := Lib.hid (EJ.out.trans (e1.trans (e2.trans e3)))
    have HZ := Lib.hid (fun z (hz : z ∈ cheapR xs d g) => cheap_law hz)
    clear o2 o3 e1 e2 e3 hl2 L1 EJ
    generalize cheapR xs d g = zs at *
    generalize (cheap xs d g 10).1 = zv at *
    go_wp2_with fail
    refine (vInts_same A2 A3 m3 c2 c3 zs _ (by omega) (Rd.own O2.out) (Rd.own O3.out)).mono ?_
    rintro e w4 ⟨rfl, e4⟩
    have R4 := Lib.hid (Rd.own (e4.own O2.out))
    have L4 := Lib.hid (L3.out.ext e4)
    have E4 := Lib.hid (EK.out.trans e4)
    clear O2 O3 L3 EK e4
    go_wp2
    go_loopw [25] (fun i wr => ∃ k : Nat, 1 ≤ k ∧ i = .int .i64 k ∧ Ext w4 wr) (fun i _ => 100 - (intOf i).toNat)
    case atStart => exact ⟨1, Nat.le_refl _, rfl, Ext.refl _⟩
    case round =>
      obtain ⟨k, hk, rfl, he⟩ := hrel
      by_cases hlt : k < m3
      · obtain ⟨b, off, x, eA, hb, hx, g0⟩ := (R4.out.ext he).int (show k - 1 < m3 by omega)
        obtain ⟨b', off', y, eA', hb', hy, q0⟩ := (R4.out.ext he).int hlt
        subst eA
        injection eA' with eA'
        injection eA' with e1 e2
        subst e1; subst e2
        obtain ⟨x1, x2, x3, x4⟩ := HZ.out x (List.mem_of_getElem? hx.out)
        obtain ⟨y1, y2, y3, y4⟩ := HZ.out y (List.mem_of_getElem? hy.out)
        have X1 := Lib.hid x1
        have X2 := Lib.hid x2
        have Y1 := Lib.hid y1
        have Y2 := Lib.hid y2
        have L5 := Lib.hid (L4.out.ext he)
        clear x1 x2 y1 y2 hx hy
        have hz1 : (0 : Int) ≤ (k : Int) - 1 := by omega
        have hz2 : (k : Int) - 1 < (m3 : Int) := by omega
        go_wp2_with fail
        refine (RateForI_any B m mc xs d x g _ L5.out).mono ?_
        rintro e wa ⟨rfl, ea⟩
        rw [X1.out, X2.out]
        have q1 := ea.cell1 q0
        have hb2 : b < wa.heap.size := World.block_lt_of_cell? wa _ q1
        go_wp2_with fail
        refine (RateForI_any B m mc xs d y g _ (L5.out.ext ea)).mono ?_
        rintro e wb ⟨rfl, eb⟩
        rw [Y1.out, Y2.out]
        go_wp2
        go_roundw
        case rel => exact ⟨k + 1, by omega, by go_num, he.trans (ea.trans eb)⟩
        case measure => simp [intOf]; omega
      · have hdk : decide ((k : Int) < (m3 : Int)) = false := by simp; omega
        have E5 := Lib.hid (E4.out.trans he)
        go_wp2_with fail
        refine (DrawStrangeRates_any A n c l _ (HC.out.ext E5.out)).mono ?_
        rintro e w5 ⟨B, m, mc, rfl, ⟨ys, hmc, hL⟩, e5⟩
        have L5 := Lib.hid hL
        have hms2 := hL.small
        clear hL hmc
        go_wp2_with fail
        refine (StrangeRatesI_any B m mc ys _ L5.out).mono ?_
        rintro e w6 ⟨A2, m2, c2, rfl, o2, e6⟩
        go_wp2_with fail
        refine (StrangeRatesS_any B m mc ys _ (L5.out.ext e6)).mono ?_
        rintro e w7 ⟨A3, m4, c3, rfl, o3, e7⟩
        have hl2 : (strangeR ys).length = m2 := by have := o2.1; rw [ints_length] at this; omega
        have hl3 : m4 = m2 := by have := o3.1; rw [ints_length] at this; omega
        subst hl3
        have hm10 : m4 ≤ m := by rw [← hl2]; exact strange_len L5.out.len
        have O2 := Lib.hid (e7.own o2)
        have O3 := Lib.hid o3
        have E7 := Lib.hid (E5.out.trans (e5.trans (e6.trans e7)))
        clear o2 o3 e5 e6 e7 hl2 L5 E5
        generalize strangeR ys = zs2 at *
        go_wp2_with fail
        refine (vInts_same A2 A3 m4 c2 c3 zs2 _ (by omega) (Rd.own O2.out) (Rd.own O3.out)).mono ?_
        rintro e w8 ⟨rfl, e8⟩
        have E8 := Lib.hid (E7.out.trans e8)
        clear O2 O3 E7 e8
        go_wp2_with fail
        refine (DrawHeaviestFor_any A n c l _ (HC.out.ext E8.out)).mono ?_
        rintro e w9 ⟨B, m, mc, d2, z2, c9, rfl, ⟨us, hmc, hL⟩, e9⟩
        have L9 := Lib.hid hL
        clear hL hmc
        go_wp2_with fail
        refine (HeaviestForI_any B m mc us d2 z2 c9 _ L9.out).mono ?_
        rintro e w10 ⟨rfl, e10⟩
        go_wp2_with fail
        refine (HeaviestForS_any B m mc us d2 z2 c9 _ (L9.out.ext e10)).mono ?_
        rintro e w11 ⟨rfl, e11⟩
        have L11 := Lib.hid (L9.out.ext (e10.trans e11))
        have E11 := Lib.hid (E8.out.trans (e9.trans (e10.trans e11)))
        clear L9 E8 e9 e10 e11
        cases hH : heavyOk us d2 z2 c9
        · clear hH
          go_wp2
          go_ret
          exact ⟨rfl, E11.out⟩
        · obtain ⟨v1, v2, v3, v4⟩ := heavy_law hH
          have V1 := Lib.hid v1
          have V2 := Lib.hid v2
          clear v1 v2 hH
          generalize heavyR us d2 z2 c9 = hv at *
          go_wp2_with fail
          refine (RateForI_any B m mc us d2 z2 hv _ L11.out).mono ?_
          rintro e w12 ⟨rfl, e12⟩
          rw [V1.out]
          have v5 := V2.out
          generalize rateForR us d2 z2 hv = rr at *
          have hd5 : decide (rr ≤ c9) = true := by simpa using v5
          go_wp2
          go_ret
          exact ⟨rfl, E11.out.trans e12⟩
end Go.Proofs.Ytkganlojknhajaa
