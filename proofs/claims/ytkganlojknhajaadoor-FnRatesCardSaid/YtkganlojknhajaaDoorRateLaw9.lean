/- The law FnRates. -/
import Derived.Test.YtkganlojknhajaaDoorRatesP
import Derived.Test.YtkganlojknhajaaDoorRateX
import Derived.Test.YtkganlojknhajaaDoorSpanI
import Derived.Test.YtkganlojknhajaaDoorSpanS
import Derived.Test.YtkganlojknhajaaDoorRateText
import Derived.Test.YtkganlojknhajaaDoorVs
import Derived.Test.YtkganlojknhajaaDoorTri
import Derived.Test.YtkganlojknhajaaDoorDrawRateE
import Derived.Test.YtkganlojknhajaaDoorDrawRateF
namespace Go.Proofs.YtkganlojknhajaaDoor
open Go.RowKit
set_option linter.unusedVariables false
set_option linter.unusedSimpArgs false
attribute [local go_sem] ExtOf.cell

theorem flat_at {T : List (Int × Int × Int)} {m k : Nat} {x0 x1 x2 : Int} (hm : (flatT T).length = m * 3) (hk : k < m) (h : (flatT T)[k * 3]? = some x0 ∧ (flatT T)[k * 3 + 1]? = some x1 ∧ (flatT T)[k * 3 + 2]? = some x2) : (x0, x1, x2) ∈ T := by
  have hl : (flatT T).length = T.length * 3 := flat_length _ 3 (fun _ => rfl) T
  have hkT : k < T.length := by omega
  have hx : T[k]? = some T[k] := List.getElem?_eq_getElem hkT
  have hg := fun (j : Nat) (hj : j < 3) => flat_get (fun t : Int × Int × Int => [t.1, t.2.1, t.2.2]) 3 (fun _ => rfl) T k j _ hx hj
  have g0 := hg 0 (by omega)
  have g1 := hg 1 (by omega)
  have g2 := hg 2 (by omega)
  simp only [Nat.add_zero, List.getElem?_cons_zero, List.getElem?_cons_succ] at g0 g1 g2
  obtain ⟨h0, h1, h2⟩ := h
  unfold flatT at h0 h1 h2
  rw [g0] at h0; rw [g1] at h1; rw [g2] at h2
  injection h0 with h0; injection h1 with h1; injection h2 with h2
  rw [← h0, ← h1, ← h2]
  exact List.getElem_mem hkT
set_option maxRecDepth 100000 in
set_option maxHeartbeats 4000000 in
theorem FnRates_any (A : Option Addr) (n c : Nat) (l : List Int) (w : World) (h : CodeOk w A n l) (ht : TabOkW w) :
    Calls Tryd.prog 4 #[.slice A n c] w fun e w' => e = .returned (.bool true) ∧ Ext w w' := by
  have HC := Lib.hid h
  have HT := Lib.hid ht
  have hsm := h.small
  clear h ht
  by_cases hbig : 65536 < (n : Int)
  · have hd : decide (65536 < (n : Int)) = true := by simpa using hbig
    go_enter Tryd.func4, Tryd.ntmps4
    go_wp2_with (go_at_call 8; refine (vBig_any A n c w hsm).mono ?_; rintro e w' ⟨rfl, rfl⟩)
    go_ret
    exact ⟨rfl, Ext.refl _⟩
  have hd : decide (65536 < (n : Int)) = false := by simpa using hbig
  clear hbig
  go_enter Tryd.func4, Tryd.ntmps4
  go_wp2_with fail
  refine (vBig_any A n c w hsm).mono ?_
  rintro e w' ⟨rfl, rfl⟩
  go_wp2_with fail
  refine (DrawRateSpans_any A n c l _ HC.out).mono ?_
  rintro e w1 ⟨B, m, mc, z, g, rfl, ⟨xs, hmc, hL⟩, e1⟩
  have L1 := Lib.hid hL
  have hms := hL.small
  clear hL hmc
  go_wp2_with fail
  refine (RateSpansI_any B m mc xs z g _ L1.out).mono ?_
  rintro e w2 ⟨A2, m2, c2, rfl, o2, e2⟩
  go_wp2_with fail
  refine (RateSpansS_any B m mc xs z g _ (L1.out.ext e2)).mono ?_
  rintro e w3 ⟨A3, m3, c3, rfl, o3, e3⟩
  have hl2 : (spanR xs z g).length = m2 * 3 := by have := o2.1; rw [ints_length] at this; exact this
  have hl3 : m3 = m2 := by have := o3.1; rw [ints_length] at this; omega
  subst hl3
  have hm20 : m3 ≤ 20000 := by have := spanR_len xs z g; omega
  have O2 := Lib.hid (e3.own o2)
  have O3 := Lib.hid o3
  have L3 := Lib.hid (L1.out.ext (e2.trans e3))
  have E3 := Lib.hid (e1.trans (e2.trans e3))
  clear o2 o3 e1 e2 e3 L1
  obtain ⟨T, hT, hLaw⟩ := span_law xs z g
  rw [hT] at O2 O3 hl2
  have HLen := Lib.hid hl2
  have HLaw := Lib.hid hLaw
  clear hT hl2 hLaw
  generalize askS xs z g = ok at *
  go_wp2_with fail
  refine (vTriples_same A2 A3 m3 c2 c3 _ _ (by omega) (Rd.own O2.out) (Rd.own O3.out)).mono ?_
  rintro e w4 ⟨rfl, e4⟩
  go_wp2_with fail
  refine (AreRatesI_any B m mc xs _ (L3.out.ext e4)).mono ?_
  rintro e w5 ⟨rfl, e5⟩
  go_wp2_with fail
  refine (AreRatesS_any B m mc xs _ (L3.out.ext (e4.trans e5))).mono ?_
  rintro e w6 ⟨rfl, e6⟩
  have e46 := Lib.hid (e4.trans (e5.trans e6))
  have R6 := Lib.hid (Rd.own (e46.out.own O2.out))
  have L6 := Lib.hid (L3.out.ext e46.out)
  have E6 := Lib.hid (E3.out.trans e46.out)
  clear O2 O3 L3 E3 e4 e5 e6 e46
  generalize RatesOk xs = rk at *
  go_wp2
  go_loopw [10] (fun i wr => ∃ k : Nat, k ≤ m3 ∧ i = .int .i64 k ∧ Ext w6 wr) (fun i _ => m3 - (intOf i).toNat)
  case atStart => exact ⟨0, Nat.zero_le _, rfl, Ext.refl _⟩
  case round =>
    obtain ⟨k, hk, rfl, he⟩ := hrel
    by_cases hlt : k < m3
    · obtain ⟨b, off, x0, x1, x2, rfl, hb, hx, g0, g1, g2⟩ := (R6.out.ext he).arr3 hlt
      obtain ⟨p1, p2, p3, p4, p5, p6, p7, p8, p9, p10⟩ := HLaw.out _ (flat_at HLen.out hlt hx.out)
      simp only at p1 p2 p3 p4 p5 p6 p7 p8 p9 p10
      have P5 := Lib.hid p5
      have P6 := Lib.hid p6
      have P7 := Lib.hid p7
      have P8 := Lib.hid p8
      have P9 := Lib.hid (show (rateForR xs (x0 - 1) z g == x2) = false by simpa using p9)
      have P10 := Lib.hid (show (rateForR xs (x1 + 1) z g == x2) = false by simpa using p10)
      have L7 := Lib.hid (L6.out.ext he)
      clear p5 p6 p7 p8 p9 p10 hx
      go_wp2_with fail
      refine (RateForI_any B m mc xs x0 z g _ L7.out).mono ?_
      rintro e wa ⟨rfl, ea⟩
      rw [P5.out, P6.out]
      have q1 := ea.cell1 g1
      have hb1 : b < wa.heap.size := World.block_lt_of_cell? wa _ q1
      go_wp2_with fail
      refine (RateForI_any B m mc xs x1 z g _ (L7.out.ext ea)).mono ?_
      rintro e wb ⟨rfl, eb⟩
      rw [P7.out, P8.out]
      have s0 := (ea.trans eb).cell1 g0
      have hb2 : b < wb.heap.size := World.block_lt_of_cell? wb _ s0
      go_wp2_with fail
      refine (RateForI_any B m mc xs (x0 - 1) z g _ (L7.out.ext (ea.trans eb))).mono ?_
      rintro e wc ⟨rfl, ec⟩
      generalize rateForR xs (x0 - 1) z g = y1 at *
      generalize rateForOk xs (x0 - 1) z g = ok1 at *
      have u1 := (ea.trans (eb.trans ec)).cell1 g1
      have hb3 : b < wc.heap.size := World.block_lt_of_cell? wc _ u1
      go_wp2_with fail
      refine (RateForI_any B m mc xs (x1 + 1) z g _ (L7.out.ext (ea.trans (eb.trans ec)))).mono ?_
      rintro e wd ⟨rfl, ed⟩
      generalize rateForR xs (x1 + 1) z g = y2 at *
      generalize rateForOk xs (x1 + 1) z g = ok2 at *
      have v2 := (ea.trans (eb.trans (ec.trans ed))).cell1 g2
      have hb4 : b < wd.heap.size := World.block_lt_of_cell? wd _ v2
      have t1 := P9.out
      have t2 := P10.out
      clear g0 g1 g2 q1 s0 u1
      go_wp2
      go_roundw
      case rel => exact ⟨k + 1, by omega, by go_num, he.trans (ea.trans (eb.trans (ec.trans ed)))⟩
      case measure => simp [intOf]; omega
    · have hdk : decide ((k : Int) < (m3 : Int)) = false := by simp; omega
      have E7 := Lib.hid (E6.out.trans he)
      clear E6 R6 L6 he
      go_wp2_with fail
      refine (DrawRateFor_any A n c l _ (HC.out.ext E7.out)).mono ?_
      rintro e w8 ⟨B, m, mc, d, t, wg, rfl, ⟨ys, hmc, hL⟩, e8⟩
      have L8 := Lib.hid hL
      have hms2 := hL.small
      clear hL hmc
      have HT2 := Lib.hid (fun (hh : rateForOk ys d t wg = true) => told_heavy hh)
      go_wp2_with fail
      refine (RateForI_any B m mc ys d t wg _ L8.out).mono ?_
      rintro e w9 ⟨rfl, e9⟩
      go_wp2_with fail
      refine (RateForS_any B m mc ys d t wg _ (L8.out.ext e9)).mono ?_
      rintro e w10 ⟨rfl, e10⟩
      have L10 := Lib.hid (L8.out.ext (e9.trans e10))
      have E10 := Lib.hid (E7.out.trans (e8.trans (e9.trans e10)))
      clear L8 E7 e8 e9 e10
      generalize rateForR ys d t wg = cents at *
      cases hTold : rateForOk ys d t wg
      focus
        clear hTold HT2
        have EJ := E10
        obtain ⟨wj, rfl⟩ : ∃ wj : World, wj = w10 := ⟨_, rfl⟩
        go_wp2_with fail
        clear E10
      rotate_left
      focus
        obtain ⟨q1, q2⟩ := HT2.out hTold
        have Q1 := Lib.hid q1
        clear q1 hTold HT2
        go_wp2_with fail
        refine (HeaviestForI_any B m mc ys d t cents _ L10.out).mono ?_
        rintro e w11 ⟨rfl, e11⟩
        rw [Q1.out]
        generalize heavyR ys d t cents = hv at *
        have d1 : decide (hv < wg) = false := by simp; omega
        have EJ := Lib.hid (E10.out.trans e11)
        obtain ⟨wj, rfl⟩ : ∃ wj : World, wj = w11 := ⟨_, rfl⟩
        clear E10 e11 Q1 q2
        go_wp2_with fail
        clear d1
      rotate_left
      all_goals
        clear hms2 L10
        refine (DrawFirstWithout_any A n c l _ (HC.out.ext EJ.out)).mono ?_
        rintro e w12 ⟨B, m, mc, t, wg, f, rfl, ⟨us, hmc, hL⟩, e12⟩
        have L12 := Lib.hid hL
        have hms2 := hL.small
        clear hL hmc
        have HF := Lib.hid (fun (hh : freeOk us t wg f = true) => free_law hh)
        go_wp2_with fail
        refine (FirstWithoutI_any B m mc us t wg f _ L12.out).mono ?_
        rintro e w13 ⟨rfl, e13⟩
        go_wp2_with fail
        refine (FirstWithoutS_any B m mc us t wg f _ (L12.out.ext e13)).mono ?_
        rintro e w14 ⟨rfl, e14⟩
        have L14 := Lib.hid (L12.out.ext (e13.trans e14))
        have E14 := Lib.hid (EJ.out.trans (e12.trans (e13.trans e14)))
        clear L12 EJ e12 e13 e14
        generalize freeR us t wg f = fr at *
        cases hFree : freeOk us t wg f
        focus
          clear hFree HF
          have EJ := E14
          obtain ⟨wj, rfl⟩ : ∃ wj : World, wj = w14 := ⟨_, rfl⟩
          go_wp2_with fail
          clear E14
        rotate_left
        focus
          obtain ⟨q1, q2, q3, q4⟩ := HF.out hFree
          have Q1 := Lib.hid q1
          clear q1 hFree HF
          have d1 : decide (fr < f) = false := by simp; omega
          go_wp2_with fail
          refine (RateForI_any B m mc us fr t wg _ L14.out).mono ?_
          rintro e w15 ⟨rfl, e15⟩
          rw [Q1.out]
          generalize rateForR us fr t wg = rr at *
          have EJ := Lib.hid (E14.out.trans e15)
          obtain ⟨wj, rfl⟩ : ∃ wj : World, wj = w15 := ⟨_, rfl⟩
          clear E14 e15 Q1 q2 q3 q4
          go_wp2_with fail
          clear d1
        rotate_left
        all_goals
          clear hms2 L14
          refine (DrawRateText_any A n c l _ (HC.out.ext EJ.out)).mono ?_
          rintro e w16 ⟨r, rfl, hr, e16⟩
          have HTI := Lib.hid (fun (wx : World) (hx : Ext w wx) => RateTextI_any r.Zone r.Grams r.From r.Until r.Cents wx (HT.out.ext hx))
          have HTS := Lib.hid (fun (wx : World) => RateTextS_any r.Zone r.Grams r.From r.Until r.Cents wx)
          have HTO := Lib.hid (fun (wx : World) => IsRateI_any r.Zone r.Grams r.From r.Until r.Cents wx)
          generalize rateT r.Zone r.Grams r.From r.Until r.Cents = tx at *
          generalize rtOk r.Zone r.Grams r.From r.Until r.Cents = tb at *
          have E16 := Lib.hid ((EJ.out.trans e16).alloc (.cells #[.int .i64 r.Zone, .int .i64 r.Grams, .int .i64 r.From, .int .i64 r.Until, .int .i64 r.Cents] 26))
          have BX := Lib.hid (own_block w16 26 [.int .i64 r.Zone, .int .i64 r.Grams, .int .i64 r.From, .int .i64 r.Until, .int .i64 r.Cents])
          clear EJ e16 hr
          go_wp2_with fail
          refine (HTI.out _ E16.out).mono ?_
          rintro e w17 ⟨rfl, e17⟩
          have x0 := own_at (e17.own BX.out) (j := 0) rfl
          have x1 := own_at (e17.own BX.out) (j := 1) rfl
          have x2 := own_at (e17.own BX.out) (j := 2) rfl
          have x3 := own_at (e17.own BX.out) (j := 3) rfl
          have x4 := own_at (e17.own BX.out) (j := 4) rfl
          have zb1 : w16.heap.size < w17.heap.size := World.block_lt_of_cell? w17 _ x0
          go_wp2_with fail
          refine (HTS.out _).mono ?_
          rintro e w18 ⟨rfl, e18⟩
          have y0 := own_at ((e17.trans e18).own BX.out) (j := 0) rfl
          have y1 := own_at ((e17.trans e18).own BX.out) (j := 1) rfl
          have y2 := own_at ((e17.trans e18).own BX.out) (j := 2) rfl
          have y3 := own_at ((e17.trans e18).own BX.out) (j := 3) rfl
          have y4 := own_at ((e17.trans e18).own BX.out) (j := 4) rfl
          have zb2 : w16.heap.size < w18.heap.size := World.block_lt_of_cell? w18 _ y0
          clear x0 x1 x2 x3 x4
          go_wp2_with fail
          refine (HTO.out _).mono ?_
          rintro e w19 ⟨rfl, e19⟩
          go_wp2
          go_ret
          exact ⟨rfl, E16.out.trans (e17.trans (e18.trans e19))⟩
end Go.Proofs.YtkganlojknhajaaDoor
