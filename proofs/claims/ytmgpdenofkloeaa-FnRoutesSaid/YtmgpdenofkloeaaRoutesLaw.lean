/- The law FnRoutes. -/
import Derived.Test.YtmgpdenofkloeaaRouteP
import Derived.Test.YtmgpdenofkloeaaMailX
import Derived.Test.YtmgpdenofkloeaaVs
import Derived.Test.YtmgpdenofkloeaaDrawMailD
namespace Go.Proofs.Ytmgpdenofkloeaa
open Go.RowKit
set_option linter.unusedVariables false
set_option linter.unusedSimpArgs false
attribute [local go_sem] ExtOf.cell

theorem best_told {xs : List Mail} {f m t : Int} (h : rideR xs f m (bestR xs f m t) = some (t, earlR xs f m t)) : rA (rideR xs f m (bestR xs f m t)) = t ∧ rB (rideR xs f m (bestR xs f m t)) = earlR xs f m t ∧ (rideR xs f m (bestR xs f m t)).isSome = true := by
  rw [h]; exact ⟨rfl, rfl, rfl⟩
theorem not_route {xs : List Mail} {f m : Int} {r : List Int} (h : rideR xs f m r = none) : (isRt xs f m r && (ride xs f m r).isSome) = false := by
  cases hb : (isRt xs f m r && (ride xs f m r).isSome) with
  | false => rfl
  | true => have := isRt_known hb; rw [h] at this; cases this
theorem ride_top {xs : List Mail} {f m a b : Int} {r : List Int} (h : rideR xs f m r = some (a, b)) : b ≤ 9999 := by
  have hs : (rideR xs f m r).isSome = true := by rw [h]; rfl
  obtain ⟨ha, hr, _⟩ := rideR_some hs
  obtain ⟨hok, hf, hm⟩ := askM_all ha
  rw [hr] at h
  exact (ride_bd (MailsOk_good hok) r f m a b hm.1 hm.2 h).2
set_option maxRecDepth 100000 in
set_option maxHeartbeats 4000000 in
theorem FnRoutes_any (A : Option Addr) (n c : Nat) (l : List Int) (w : World) (h : CodeOk w A n l) :
    Calls Try.prog 3 #[.slice A n c] w fun e w' => e = .returned (.bool true) ∧ Ext w w' := by
  have HC := Lib.hid h
  have hsm := h.small
  clear h
  by_cases hbig : 65536 < (n : Int)
  · have hd : decide (65536 < (n : Int)) = true := by simpa using hbig
    go_enter Try.func3, Try.ntmps3
    go_wp2_with (go_at_call 4; refine (vBig_any A n c w hsm).mono ?_; rintro e w' ⟨rfl, rfl⟩)
    go_ret
    exact ⟨rfl, Ext.refl _⟩
  have hd : decide (65536 < (n : Int)) = false := by simpa using hbig
  clear hbig
  go_enter Try.func3, Try.ntmps3
  go_wp2_with fail
  refine (vBig_any A n c w hsm).mono ?_
  rintro e w' ⟨rfl, rfl⟩
  go_wp2_with fail
  refine (DrawBestRoute_any A n c l _ HC.out).mono ?_
  rintro e w1 ⟨B, m, mc, f, t0, t, rfl, ⟨xs, hmc, hL⟩, e1⟩
  have L1 := Lib.hid hL
  have hms := hL.small
  clear hL
  go_wp2_with fail
  refine (BestRouteI_any B m mc xs f t0 t _ L1.out).mono ?_
  rintro e w2 ⟨A2, m2, c2, rfl, o2, e2⟩
  go_wp2_with fail
  refine (BestRouteS_any B m mc xs f t0 t _ (L1.out.ext e2)).mono ?_
  rintro e w3 ⟨A3, m3, c3, rfl, o3, e3⟩
  have hl2 : (bestR xs f t0 t).length = m2 := by have := o2.1; rw [ints_length] at this; omega
  have hl3 : m3 = m2 := by have := o3.1; rw [ints_length] at this; omega
  subst hl3
  have hm20 : m3 ≤ 10000 := by rw [← hl2]; exact bestR_len
  have O2 := Lib.hid (e3.own o2)
  have O3 := Lib.hid o3
  have L3 := Lib.hid (L1.out.ext (e2.trans e3))
  have E3 := Lib.hid (e1.trans (e2.trans e3))
  have HL := Lib.hid hl2
  clear o2 o3 e1 e2 e3 L1 hl2
  cases hE : hasE xs f t0 t
  focus
    have HE := Lib.hid hE
    clear hE
    go_wp2_with fail
    refine (vInts_same A2 A3 m3 c2 c3 _ _ (by omega) (Rd.own O2.out) (Rd.own O3.out)).mono ?_
    rintro e w4 ⟨rfl, e4⟩
    go_wp2_with fail
    refine (IsTimetableI_any B m mc xs _ (L3.out.ext e4)).mono ?_
    rintro e w5 ⟨rfl, e5⟩
    go_wp2_with fail
    refine (IsTimetableS_any B m mc xs _ (L3.out.ext (e4.trans e5))).mono ?_
    rintro e w6 ⟨rfl, e6⟩
    go_wp2_with fail
    refine (EarliestAtI_any B m mc xs f t0 t _ (L3.out.ext (e4.trans (e5.trans e6)))).mono ?_
    rintro e w7 ⟨rfl, e7⟩
    go_wp2_with fail
    refine (EarliestAtS_any B m mc xs f t0 t _ (L3.out.ext (e4.trans (e5.trans (e6.trans e7))))).mono ?_
    rintro e w8 ⟨rfl, e8⟩
    rw [HE.out]
    have EJ := Lib.hid (E3.out.trans (e4.trans (e5.trans (e6.trans (e7.trans e8)))))
    clear e4 e5 e6 e7 e8 O2 O3 E3 L3 HE HL
    obtain ⟨wj, rfl⟩ : ∃ wj : World, wj = w8 := ⟨_, rfl⟩
    go_wp2_with fail
  rotate_left
  focus
    have hE' := hE
    obtain ⟨b1, b2, b3⟩ := hasE_bd hE
    obtain ⟨k1, k2, k3⟩ := best_told (best_end hE)
    obtain ⟨r1, r2⟩ := reach_ok hE b2 (Int.le_refl _)
    have r3 := fun (hs : t0 < earlR xs f t0 t) => reach_ok (y := earlR xs f t0 t - 1) hE (by omega) (by omega)
    have HE := Lib.hid hE
    have K1 := Lib.hid k1
    have K2 := Lib.hid k2
    have K3 := Lib.hid k3
    have R1 := Lib.hid r1
    have R2 := Lib.hid (show decide (t ∈ reachR xs f t0 (earlR xs f t0 t)) = true by simpa using r2)
    have R3 := Lib.hid (fun (hs : t0 < earlR xs f t0 t) => (show askR xs f t0 (earlR xs f t0 t - 1) = true ∧ decide (t ∈ reachR xs f t0 (earlR xs f t0 t - 1)) = false from ⟨(r3 hs).1, decide_eq_false (fun hh => by have := (r3 hs).2.1 hh; omega)⟩))
    clear hE hE' k1 k2 k3 r1 r2 r3
    go_wp2_with fail
    refine (vInts_same A2 A3 m3 c2 c3 _ _ (by omega) (Rd.own O2.out) (Rd.own O3.out)).mono ?_
    rintro e w4 ⟨rfl, e4⟩
    go_wp2_with fail
    refine (IsTimetableI_any B m mc xs _ (L3.out.ext e4)).mono ?_
    rintro e w5 ⟨rfl, e5⟩
    go_wp2_with fail
    refine (IsTimetableS_any B m mc xs _ (L3.out.ext (e4.trans e5))).mono ?_
    rintro e w6 ⟨rfl, e6⟩
    go_wp2_with fail
    refine (EarliestAtI_any B m mc xs f t0 t _ (L3.out.ext (e4.trans (e5.trans e6)))).mono ?_
    rintro e w7 ⟨rfl, e7⟩
    go_wp2_with fail
    refine (EarliestAtS_any B m mc xs f t0 t _ (L3.out.ext (e4.trans (e5.trans (e6.trans e7))))).mono ?_
    rintro e w8 ⟨rfl, e8⟩
    rw [HE.out]
    have e48 := Lib.hid (e4.trans (e5.trans (e6.trans (e7.trans e8))))
    clear e4 e5 e6 e7 e8
    have L8 := Lib.hid (L3.out.ext e48.out)
    go_wp2_with fail
    refine (EndOfRouteI_any B m mc xs f t0 A2 m3 c2 (bestR xs f t0 t) _ L8.out (by omega) (Rd.own (e48.out.own O2.out))).mono ?_
    rintro e w9 ⟨rfl, e9⟩
    rw [K1.out, K2.out, K3.out]
    generalize hea : earlR xs f t0 t = ea at *
    go_wp2_with fail
    refine (ReachedByI_any B m mc xs f t0 ea _ (L8.out.ext e9)).mono ?_
    rintro e w10 ⟨A4, m4, c4, rfl, o4, e10⟩
    rw [R1.out]
    have hl4 : (reachR xs f t0 ea).length = m4 := by have := o4.1; rw [ints_length] at this; omega
    have h410 : m4 ≤ 10 := by rw [← hl4]; exact reach_len
    have O4 := Lib.hid o4
    have HL4 := Lib.hid hl4
    clear o4 hl4
    go_wp2_with fail
    refine (vHas_any A4 m4 c4 _ t _ HL4.out (by omega) (Rd.own O4.out)).mono ?_
    rintro e w11 ⟨rfl, e11⟩
    rw [R2.out]
    have E11 := Lib.hid (E3.out.trans (e48.out.trans (e9.trans (e10.trans e11))))
    have L11 := Lib.hid (L8.out.ext (e9.trans (e10.trans e11)))
    clear e9 e10 e11 O2 O3 O4 E3 L3 L8 HE HL HL4 K1 K2 K3 R1 R2 e48
    by_cases hs : t0 < ea
    focus
      have hds : decide (t0 < ea) = true := by simpa using hs
      obtain ⟨s1, s2⟩ := R3.out hs
      have S1 := Lib.hid s1
      have S2 := Lib.hid s2
      clear s1 s2 R3 hea
      go_wp2_with fail
      refine (ReachedByI_any B m mc xs f t0 (ea - 1) _ L11.out).mono ?_
      rintro e w12 ⟨A5, m5, c5, rfl, o5, e12⟩
      rw [S1.out]
      have hl5 : (reachR xs f t0 (ea - 1)).length = m5 := by have := o5.1; rw [ints_length] at this; omega
      have h510 : m5 ≤ 10 := by rw [← hl5]; exact reach_len
      have O5 := Lib.hid o5
      have HL5 := Lib.hid hl5
      clear o5 hl5
      go_wp2_with fail
      refine (vHas_any A5 m5 c5 _ t _ HL5.out (by omega) (Rd.own O5.out)).mono ?_
      rintro e w13 ⟨rfl, e13⟩
      rw [S2.out]
      have EJ := Lib.hid (E11.out.trans (e12.trans e13))
      clear e12 e13 O5 HL5 S1 S2 E11 L11 hs hds
      obtain ⟨wj, rfl⟩ : ∃ wj : World, wj = w13 := ⟨_, rfl⟩
      go_wp2_with fail
    rotate_left
    focus
      have hds : decide (t0 < ea) = false := by simpa using hs
      have EJ := E11
      clear R3 L11 E11 hea
      obtain ⟨wj, rfl⟩ : ∃ wj : World, wj = w11 := ⟨_, rfl⟩
      go_wp2_with fail
      clear hs hds
    rotate_left
  all_goals
    clear hms hmc
    refine (DrawIsRoute_any A n c l _ (HC.out.ext EJ.out)).mono ?_
    rintro e w1 ⟨B, m, mc, f, t0, C, rn, rc, rfl, ⟨xs, hmc, hL⟩, ⟨r, hrn, hrr⟩, e1⟩
    have L1 := Lib.hid hL
    have R1 := Lib.hid hrr
    have hms := hL.small
    clear hL hrr hmc
    have hrm : rn ≤ 1048576 := by omega
    go_wp2_with fail
    refine (IsRouteI_any B m mc xs f t0 C rn rc r _ L1.out hrm R1.out).mono ?_
    rintro e w2 ⟨rfl, e2⟩
    go_wp2_with fail
    refine (IsRouteS_any B m mc xs f t0 C rn rc r _ (L1.out.ext e2) hrm (R1.out.ext e2)).mono ?_
    rintro e w3 ⟨rfl, e3⟩
    have e13 := Lib.hid (e2.trans e3)
    clear e2 e3
    have HN := Lib.hid (fun (hh : rideR xs f t0 r = none) => not_route hh)
    generalize (isRt xs f t0 r && (ride xs f t0 r).isSome) = yes at *
    generalize isRt xs f t0 r = fine at *
    go_wp2_with fail
    refine (EndOfRouteI_any B m mc xs f t0 C rn rc r _ (L1.out.ext e13.out) hrm (R1.out.ext e13.out)).mono ?_
    rintro e w4 ⟨rfl, e4⟩
    go_wp2_with fail
    refine (EndOfRouteS_any B m mc xs f t0 C rn rc r _ (L1.out.ext (e13.out.trans e4)) hrm (R1.out.ext (e13.out.trans e4))).mono ?_
    rintro e w5 ⟨rfl, e5⟩
    have e15 := Lib.hid (e13.out.trans (e4.trans e5))
    clear e13 e4 e5
    have L5 := Lib.hid (L1.out.ext e15.out)
    have R5 := Lib.hid (R1.out.ext e15.out)
    have E5 := Lib.hid (EJ.out.trans (e1.trans e15.out))
    clear L1 R1 EJ e15 e1
    rcases hR : rideR xs f t0 r with _ | ⟨a, b⟩
    · obtain rfl : yes = false := HN.out hR
      clear HN hR
      simp only [rA, rB, Option.map_none, Option.getD_none, Option.isSome_none]
      go_wp2
      go_ret
      exact ⟨rfl, E5.out⟩
    · obtain ⟨p1, p2, p3, p4⟩ := ride_early hR
      have q1 := hasE_bd p1
      have q2 : 0 ≤ t0 ∧ t0 ≤ 9999 := (askM_all (hasE_all p1).1).2.2
      have q3 := ride_top hR
      have HR := Lib.hid hR
      have P1 := Lib.hid p1
      clear hR p1 HN
      simp only [rA, rB, Option.map_some, Option.getD_some, Option.isSome_some]
      have WI := Lib.hid (fun wx (hx : Ext w5 wx) => WaitsOnI_any B m mc xs f t0 C rn rc r wx (L5.out.ext hx) hrm (R5.out.ext hx))
      have WS := Lib.hid (fun wx (hx : Ext w5 wx) => WaitsOnS_any B m mc xs f t0 C rn rc r wx (L5.out.ext hx) hrm (R5.out.ext hx))
      generalize waitsR xs f t0 r = wt at *
      cases yes
      all_goals
        go_wp2_with fail
        refine (EarliestAtI_any B m mc xs f t0 a _ L5.out).mono ?_
        rintro e w6 ⟨rfl, e6⟩
        rw [P1.out]
        generalize earlR xs f t0 a = ea at *
        go_wp2_with fail
        refine (WI.out _ e6).mono ?_
        rintro e w7 ⟨rfl, e7⟩
        go_wp2_with fail
        refine (WS.out _ (e6.trans e7)).mono ?_
        rintro e w8 ⟨rfl, e8⟩
        rw [HR.out, Option.isSome_some]
        go_wp2
        go_ret
        exact ⟨rfl, E5.out.trans (e6.trans (e7.trans e8))⟩
end Go.Proofs.Ytmgpdenofkloeaa
