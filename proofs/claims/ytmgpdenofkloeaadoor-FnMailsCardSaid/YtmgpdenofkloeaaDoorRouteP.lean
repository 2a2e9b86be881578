/- FnRoutes, FnMails: the plain laws of routes. -/
import Derived.Test.YtmgpdenofkloeaaDoorRide
import Derived.Test.YtmgpdenofkloeaaDoorBest
import Derived.Test.YtmgpdenofkloeaaDoorReach
import Derived.Test.YtmgpdenofkloeaaDoorLate
namespace Go.Proofs.YtmgpdenofkloeaaDoor
open Go.RowKit
set_option linter.unusedVariables false
set_option linter.unusedSimpArgs false

theorem ride_hit {xs : List Mail} {f m : Int} {i : Nat} {x : Mail} {r : List Int} (hx : xs[i]? = some x) (hf : x.From = f) (hl : m ≤ x.Leave) : ride xs f m ((i : Int) :: r) = ride xs x.To x.Arrive r := by
  rw [ride, rideStep_in hx, if_pos ⟨hf, hl⟩]
theorem best_ride {xs : List Mail} {t e : Int} (hok : MailsOk xs = true) (ht : 0 ≤ t) (he : e ≠ 10000) : ∀ (n : Nat) (f m : Int), inB f 0 9 = true → inB m 0 9999 = true → times xs f m t.toNat = e → 9999 < m + n → ride xs f m (best xs t e n f m) = some (t, e)
  | 0, f, m, _, hm, _, hn => by have := inB_iff.1 hm; omega
  | n + 1, f, m, hf, hm, hT, hn => by
    obtain ⟨f1, f2⟩ := inB_iff.1 hf
    obtain ⟨m1, m2⟩ := inB_iff.1 hm
    by_cases hft : f = t
    · subst hft
      rw [best_stop _ rfl, ride, ← hT, times_self (f := f) (MailsOk_good hok) m1 m2]
    · obtain ⟨x0, hx0, hp0⟩ := times_next hok f1 m1 m2 ht hft (by rw [hT]; exact he)
      rw [hT] at hp0
      rw [best, if_neg hft]
      cases hfi : xs.findIdx? (hitB xs t e f m) with
      | none =>
        rw [List.findIdx?_eq_none_iff] at hfi
        rw [hfi x0 hx0] at hp0; cases hp0
      | some i =>
        obtain ⟨hi, hp, _⟩ := List.findIdx?_eq_some_iff_getElem.1 hfi
        have hx : xs[i]? = some xs[i] := List.getElem?_eq_getElem hi
        simp only [hx]
        obtain ⟨p1, p2, p3⟩ := hitB_iff.1 hp
        obtain ⟨⟨a1, a2⟩, ⟨a3, a4⟩, a5, ⟨a6, a7⟩, a8, a9⟩ := good_all (MailsOk_good hok _ (List.getElem_mem hi))
        rw [ride_hit hx p1 p2]
        exact best_ride hok ht he n _ _ (inB_iff.2 ⟨a3, a4⟩) (inB_iff.2 ⟨a6, a7⟩) p3 (by omega)
theorem askM_all {xs : List Mail} {f m : Int} (h : askM xs f m = true) : MailsOk xs = true ∧ (0 ≤ f ∧ f ≤ 9) ∧ (0 ≤ m ∧ m ≤ 9999) := by
  simp only [askM, Bool.and_eq_true] at h
  exact ⟨h.1, inB_iff.1 h.2.1, inB_iff.1 h.2.2⟩
theorem hasE_all {xs : List Mail} {f m t : Int} (h : hasE xs f m t = true) : askM xs f m = true ∧ (0 ≤ t ∧ t ≤ 9) ∧ times xs f m t.toNat ≠ 10000 ∧ earlR xs f m t = times xs f m t.toNat := by
  have h2 : askE xs f m t = true ∧ times xs f m t.toNat ≠ 10000 := by simpa [hasE] using h
  obtain ⟨h1, h2⟩ := h2
  have h3 := (earl_some h1 h2).1
  simp only [askE, Bool.and_eq_true] at h1
  exact ⟨h1.1, inB_iff.1 h1.2, h2, h3⟩
theorem hasE_mk {xs : List Mail} {f m t : Int} (h : askM xs f m = true) (ht : 0 ≤ t ∧ t ≤ 9) (h2 : times xs f m t.toNat ≠ 10000) : hasE xs f m t = true := by
  simp [hasE, askE, h, inB_iff.2 ht, h2]
theorem hasE_bd {xs : List Mail} {f m t : Int} (h : hasE xs f m t = true) : 0 ≤ m ∧ m ≤ earlR xs f m t ∧ earlR xs f m t ≤ 9999 := by
  obtain ⟨ha, ht, hn, he⟩ := hasE_all h
  obtain ⟨hok, hf, hm⟩ := askM_all ha
  have := times_bd (f := f) (MailsOk_good hok) hm.1 hm.2 t.toNat
  omega
theorem best_end {xs : List Mail} {f m t : Int} (h : hasE xs f m t = true) : rideR xs f m (bestR xs f m t) = some (t, earlR xs f m t) := by
  obtain ⟨ha, ht, hn, he⟩ := hasE_all h
  obtain ⟨hok, hf, hm⟩ := askM_all ha
  have hE : askE xs f m t = true := by simp [askE, ha, inB_iff.2 ht]
  rw [rideR_yes ha, bestR, if_pos hE, bestV, if_neg hn, he]
  exact best_ride hok ht.1 hn 10000 f m (inB_iff.2 hf) (inB_iff.2 hm) rfl (by omega)
theorem mem_idxs {p : Nat → Bool} {n : Nat} {x : Int} : x ∈ idxs p n ↔ ∃ k : Nat, k < n ∧ p k = true ∧ x = k := by
  unfold idxs
  constructor
  · intro h
    obtain ⟨k, hk, rfl⟩ := List.mem_map.1 h
    obtain ⟨h1, h2⟩ := List.mem_filter.1 hk
    exact ⟨k, List.mem_range.1 h1, h2, rfl⟩
  · rintro ⟨k, h1, h2, rfl⟩
    exact List.mem_map.2 ⟨k, List.mem_filter.2 ⟨List.mem_range.2 h1, h2⟩, rfl⟩
theorem mem_reach {xs : List Mail} {f m y t : Int} (ha : askR xs f m y = true) (ht : 0 ≤ t ∧ t ≤ 9) : t ∈ reachR xs f m y ↔ times xs f m t.toNat ≤ y := by
  unfold reachR
  rw [if_pos ha, mem_idxs]
  constructor
  · rintro ⟨k, h1, h2, rfl⟩
    simpa [reachAt] using h2
  · intro h
    exact ⟨t.toNat, by omega, by simpa [reachAt] using h, by omega⟩
theorem reach_ok {xs : List Mail} {f m t y : Int} (h : hasE xs f m t = true) (h1 : m ≤ y) (h2 : y ≤ earlR xs f m t) : askR xs f m y = true ∧ (t ∈ reachR xs f m y ↔ y = earlR xs f m t) := by
  obtain ⟨ha, ht, hn, he⟩ := hasE_all h
  have hb := hasE_bd h
  have hr : askR xs f m y = true := by simp [askR, ha, inB_iff.2 (show m ≤ y ∧ y ≤ 9999 by omega)]
  refine ⟨hr, ?_⟩
  rw [mem_reach hr ht, ← he]
  omega
theorem ride_way {xs : List Mail} {f0 m0 : Int} : ∀ (r : List Int) (f m a b : Int), Way xs f0 m0 f m → ride xs f m r = some (a, b) → Way xs f0 m0 a b
  | [], f, m, a, b, hw, h => by
    simp only [ride, Option.some.injEq, Prod.mk.injEq] at h
    rw [← h.1, ← h.2]; exact hw
  | v :: r, f, m, a, b, hw, h => by
    rw [ride] at h
    unfold rideStep at h
    by_cases hv : v < 0
    · rw [if_pos hv] at h; cases h
    · rw [if_neg hv] at h
      cases hx : xs[v.toNat]? with
      | none => rw [hx] at h; cases h
      | some x =>
        rw [hx] at h
        by_cases hc : x.From = f ∧ m ≤ x.Leave
        · simp only [if_pos hc] at h
          exact ride_way r _ _ a b (hw.go (List.mem_of_getElem? hx) hc.1 hc.2) h
        · simp only [if_neg hc] at h; cases h
theorem Way.office {xs : List Mail} (hg : ∀ x ∈ xs, MailGood x = true) {f m a b : Int} (hf : 0 ≤ f ∧ f ≤ 9) (h : Way xs f m a b) : 0 ≤ a ∧ a ≤ 9 := by
  cases h with
  | here => exact hf
  | go _ hx _ _ => exact (good_all (hg _ hx)).2.1
theorem isRt_known {xs : List Mail} {f m : Int} {r : List Int} (h : (isRt xs f m r && (ride xs f m r).isSome) = true) : (rideR xs f m r).isSome = true := by
  simp only [isRt, Bool.and_eq_true] at h
  rw [rideR_yes h.1.1]; exact h.2
/-- The latest leave: the office is still reached, and no longer a minute later. -/
theorem late_law {xs : List Mail} {f t y : Int} (h : hasL xs f t y = true) :
    (hasE xs f (lateR xs f t y) t = true ∧ earlR xs f (lateR xs f t y) t ≤ y) ∧ (hasE xs f (lateR xs f t y + 1) t = true → y < earlR xs f (lateR xs f t y + 1) t) ∧ 0 ≤ lateR xs f t y ∧ lateR xs f t y ≤ 9998 := by
  have h0 : askL xs f t y = true ∧ 0 ≤ lateV xs f t y := by simpa [hasL] using h
  obtain ⟨ha, hv⟩ := h0
  have hL : lateR xs f t y = lateV xs f t y := by rw [lateR, if_pos ha]; omega
  simp only [askL, Bool.and_eq_true] at ha
  obtain ⟨hok, hf, ht, hne, hy⟩ := ha
  have hne : f ≠ t := by simpa using hne
  have hf := inB_iff.1 hf
  have ht := inB_iff.1 ht
  have hy := inB_iff.1 hy
  have hg := MailsOk_good hok
  have hs := MailsOk_sorted hok
  have hvb := lateV_bd (f := f) (t := t) (y := y) hok
  rw [hL]
  -- the mail that is told
  have hbig : ∀ x ∈ xs, lateB xs f t y x = true → x.Leave ≤ lateV xs f t y := fun x hx hp => by
    unfold lateV
    cases hfd : xs.reverse.find? (lateB xs f t y) with
    | none =>
      have := List.find?_eq_none.1 hfd x (List.mem_reverse.2 hx)
      exact absurd hp this
    | some z =>
      simp only [Option.map_some, Option.getD_some]
      have hp2 : xs.reverse.Pairwise (fun a b => b.Leave ≤ a.Leave) := List.pairwise_reverse.2 hs
      obtain ⟨hz, aa, bb, hsplit, hno⟩ := List.find?_eq_some_iff_append.1 hfd
      rw [hsplit] at hp2
      have hm : x ∈ aa ++ z :: bb := by rw [← hsplit]; exact List.mem_reverse.2 hx
      rcases List.mem_append.1 hm with hm | hm
      · have := hno x hm; simp [hp] at this
      · rcases List.mem_cons.1 hm with rfl | hm
        · exact Int.le_refl _
        · exact (List.pairwise_cons.1 (List.pairwise_append.1 hp2).2.1).1 x hm
  have hex : ∃ x ∈ xs, lateB xs f t y x = true ∧ x.Leave = lateV xs f t y := by
    unfold lateV at *
    cases hfd : xs.reverse.find? (lateB xs f t y) with
    | none => rw [hfd] at hv; simp at hv
    | some z => exact ⟨z, List.mem_reverse.1 (List.mem_of_find?_eq_some hfd), List.find?_some hfd, by simp⟩
  obtain ⟨x, hx, hp, hxl⟩ := hex
  have hp2 : x.From = f ∧ times xs x.To x.Arrive t.toNat ≤ y := by simpa [lateB] using hp
  have hask : ∀ m : Int, 0 ≤ m → m ≤ 9999 → askM xs f m = true := fun m h1 h2 => by simp [askM, hok, inB_iff.2 hf, inB_iff.2 (show 0 ≤ m ∧ m ≤ 9999 from ⟨h1, h2⟩)]
  have hle := times_nohit (m := lateV xs f t y) hok hx (by omega) hp2.1 ht.1 (by omega)
  have hE := hasE_mk (hask (lateV xs f t y) (by omega) (by omega)) ht (by omega)
  refine ⟨⟨hE, ?_⟩, fun hE2 => ?_, by omega, by omega⟩
  · rw [(hasE_all hE).2.2.2]; omega
  · obtain ⟨_, _, hn, he⟩ := hasE_all hE2
    rw [he]
    rcases Int.lt_or_le y (times xs f (lateV xs f t y + 1) t.toNat) with hc | hc
    · exact hc
    · exfalso
      have hw := times_sound (m := lateV xs f t y + 1) hg hf.1 (by omega) t.toNat hn
      rw [show ((t.toNat : Nat) : Int) = t by omega] at hw
      rcases hw.first with ⟨e, _⟩ | ⟨z, hz, hzf, hzl, hw2⟩
      · exact hne e.symm
      · have c1 := times_complete hs hg hw2
        have := hbig z hz (by simp [lateB, hzf]; omega)
        omega
/-- A missed mail is in no route. -/
theorem miss_law {xs : List Mail} {f m : Int} {v : Int} (h : v ∈ missR xs f m) : ∃ (k : Nat) (x : Mail), v = k ∧ k < xs.length ∧ xs[k]? = some x ∧ (hasE xs f m x.From = true → x.Leave < earlR xs f m x.From) := by
  unfold missR at h
  by_cases ha : askM xs f m = true
  · rw [if_pos ha] at h
    obtain ⟨k, h1, h2, rfl⟩ := mem_idxs.1 h
    have hx : xs[k]? = some xs[k] := List.getElem?_eq_getElem h1
    refine ⟨k, xs[k], rfl, h1, hx, fun hE => ?_⟩
    rw [missAt_at hx] at h2
    rw [(hasE_all hE).2.2.2]
    simpa using h2
  · rw [if_neg ha] at h; cases h
theorem reach_self {xs : List Mail} {f m y : Int} (h : askR xs f m y = true) : f ∈ reachR xs f m y := by
  have h0 : askM xs f m = true ∧ inB y m 9999 = true := by simpa [askR] using h
  obtain ⟨hok, hf, hm⟩ := askM_all h0.1
  rw [mem_reach h hf, times_self (MailsOk_good hok) hm.1 hm.2]
  exact (inB_iff.1 h0.2).1
end Go.Proofs.YtmgpdenofkloeaaDoor
