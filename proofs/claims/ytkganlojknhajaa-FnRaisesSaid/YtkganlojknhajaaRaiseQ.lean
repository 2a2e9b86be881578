/- FnRaises: the plain laws. -/
import Derived.Test.YtkganlojknhajaaRaiseP
import Derived.Test.YtkganlojknhajaaRateG
import Derived.Test.YtkganlojknhajaaRateK
namespace Go.Proofs.Ytkganlojknhajaa
open Go.RowKit
set_option linter.unusedVariables false
set_option linter.unusedSimpArgs false

theorem rate_of {xs : List Rate} {d z : Int} {r : Rate} (h : RatesOk xs = true) (hm : r ∈ xs) (ho : onDay d z r = true) (hd : 0 ≤ d ∧ d ≤ 4000) : rateForR xs d z r.Grams = r.Cents ∧ rateForOk xs d z r.Grams = true := by
  have hgood := RatesOk_good h r hm
  obtain ⟨⟨z1, z2⟩, ⟨g1, g2⟩, _, _, _⟩ := rtOk_all (show rtOk r.Zone r.Grams r.From r.Until r.Cents = true from hgood)
  have hoz : r.Zone = z ∧ inB d r.From r.Until = true := by simpa [onDay] using ho
  have ha : askRate xs d z r.Grams = true := by
    simp only [askRate, Bool.and_eq_true]
    exact ⟨h, inB_iff.2 hd, inB_iff.2 (by omega), inB_iff.2 ⟨g1, g2⟩⟩
  have hf : xs.find? (fits d z r.Grams) = some r := by
    rw [find_onDay]
    exact find_self Rate.Grams _ (onDay_sorted d z h) r (List.mem_filter.2 ⟨hm, ho⟩)
  have hr : hasRate xs d z r.Grams = true := List.any_eq_true.2 ⟨r, hm, List.find?_some hf⟩
  refine ⟨?_, by simp [rateForOk, ha, hr]⟩
  unfold rateForR rateAt
  rw [if_pos ha, hf]
  rfl
theorem raise_law {xs out : List Rate} {z g d c : Int} (h : raiseO xs z g d c = some out) :
    RatesOk out = true ∧ out.length = xs.length + 1 ∧ rateForR out d z g = c ∧ rateForOk out d z g = true ∧ rateForR out (d - 1) z g = rateForR xs (d - 1) z g ∧ rateForOk out (d - 1) z g = true ∧ rateForOk xs (d - 1) z g = true ∧ 1 ≤ d ∧ d ≤ 4000 := by
  unfold raiseO at h
  by_cases ha : askA xs d c = true
  · rw [if_pos ha] at h
    simp only [askA, Bool.and_eq_true] at ha
    obtain ⟨hok, hd, hc⟩ := ha
    have hd := inB_iff.1 hd
    cases hfi : xs.findIdx? (hitR z g d) with
    | none => rw [hfi] at h; cases h
    | some i =>
      obtain ⟨hi, hp, _⟩ := List.findIdx?_eq_some_iff_getElem.1 hfi
      have hx : xs[i]? = some xs[i] := List.getElem?_eq_getElem hi
      rw [hfi] at h
      simp only [hx] at h
      have hm : xs[i] ∈ xs := List.getElem_mem hi
      have hgood := RatesOk_good hok _ hm
      generalize xs[i] = r at *
      obtain ⟨rfl, rfl, p3, p4⟩ := hitR_iff.1 hp
      obtain ⟨_, _, ⟨f1, f2⟩, _, _⟩ := rtOk_all (show rtOk r.Zone r.Grams r.From r.Until r.Cents = true from hgood)
      unfold raiseAt at h
      by_cases hcc : r.Cents = c
      · rw [if_pos hcc] at h; cases h
      · rw [if_neg hcc] at h
        by_cases hro : RatesOk (raiseL xs i r d c) = true
        · rw [if_pos hro] at h
          injection h with h
          subst h
          have hold : oldR d r ∈ raiseL xs i r d c := by simp [raiseL]
          have hnew : newR d c r ∈ raiseL xs i r d c := by simp [raiseL]
          have o1 : onDay d r.Zone (newR d c r) = true := by show ((r.Zone == r.Zone) && inB d d r.Until) = true; rw [Bool.and_eq_true]; exact ⟨by simp, inB_iff.2 ⟨by omega, by omega⟩⟩
          have o2 : onDay (d - 1) r.Zone (oldR d r) = true := by show ((r.Zone == r.Zone) && inB (d - 1) r.From (d - 1)) = true; rw [Bool.and_eq_true]; exact ⟨by simp, inB_iff.2 ⟨by omega, by omega⟩⟩
          have o3 : onDay (d - 1) r.Zone r = true := by show ((r.Zone == r.Zone) && inB (d - 1) r.From r.Until) = true; rw [Bool.and_eq_true]; exact ⟨by simp, inB_iff.2 ⟨by omega, by omega⟩⟩
          obtain ⟨a1, a2⟩ := rate_of hro hnew o1 hd
          obtain ⟨b1, b2⟩ := rate_of hro hold o2 ⟨by omega, by omega⟩
          obtain ⟨c1, c2⟩ := rate_of hok hm o3 ⟨by omega, by omega⟩
          exact ⟨hro, raiseL_len hi, a1, a2, b1.trans c1.symm, b2, c2, by omega, by omega⟩
        · rw [if_neg hro] at h; cases h
  · rw [if_neg ha] at h; cases h
theorem heavy_law {xs : List Rate} {d z c : Int} (h : heavyOk xs d z c = true) : rateForOk xs d z (heavyR xs d z c) = true ∧ rateForR xs d z (heavyR xs d z c) ≤ c ∧ 1 ≤ heavyR xs d z c ∧ heavyR xs d z c ≤ 2000 := by
  have h0 : askH xs d z c = true ∧ 0 < lastG xs d z c := by simpa [heavyOk] using h
  obtain ⟨ha, hp⟩ := h0
  have e : heavyR xs d z c = lastG xs d z c := by rw [heavyR, if_pos ha]
  simp only [askH, Bool.and_eq_true] at ha
  obtain ⟨hok, hd, hz, hc⟩ := ha
  obtain ⟨hh, hl⟩ := hit_last (d := d) (z := z) (c := c) hok (by omega)
  rw [e]
  have h2 : hasRate xs d z (lastG xs d z c) = true ∧ rateAt xs d z (lastG xs d z c) ≤ c := by simpa [hit] using hh
  have hA : askRate xs d z (lastG xs d z c) = true := by
    simp only [askRate, Bool.and_eq_true]
    exact ⟨hok, hd, hz, inB_iff.2 ⟨by omega, hl⟩⟩
  refine ⟨by simp [rateForOk, hA, h2.1], ?_, by omega, hl⟩
  rw [rateForR, if_pos hA]
  exact h2.2
theorem cheap_mem {xs : List Rate} {d g : Int} (h : RatesOk xs = true) : ∀ k, ∀ z ∈ (cheap xs d g k).2, 0 ≤ z ∧ z < k ∧ rateAt xs d z g = (cheap xs d g k).1 ∧ 0 < (cheap xs d g k).1
  | 0, z, hz => by simp [cheap] at hz
  | k + 1, z, hz => by
    have ih := cheap_mem (d := d) (g := g) h k
    obtain ⟨r1, _, _⟩ := rateAt_pos (d := d) (z := (k : Int)) (g := g) h
    by_cases h0 : rateAt xs d k g = 0
    · rw [cheap_skip h0] at hz ⊢
      obtain ⟨a, b, c⟩ := ih z hz
      exact ⟨a, by omega, c⟩
    · by_cases h1 : (cheap xs d g k).2 = [] ∨ rateAt xs d k g < (cheap xs d g k).1
      · rw [cheap_new h0 h1] at hz ⊢
        simp only [List.mem_singleton] at hz
        subst hz
        exact ⟨by omega, by omega, rfl, by show 0 < rateAt xs d k g; omega⟩
      · by_cases h2 : rateAt xs d k g = (cheap xs d g k).1
        · rw [cheap_more h0 h1 h2] at hz ⊢
          rcases List.mem_append.1 hz with hz | hz
          · obtain ⟨a, b, c, e⟩ := ih z hz
            exact ⟨a, by omega, c, e⟩
          · simp only [List.mem_singleton] at hz
            subst hz
            exact ⟨by omega, by omega, h2, by show 0 < (cheap xs d g k).1; omega⟩
        · rw [cheap_same h0 h1 h2] at hz ⊢
          obtain ⟨a, b, c⟩ := ih z hz
          exact ⟨a, by omega, c⟩
theorem cheap_law {xs : List Rate} {d g z : Int} (hz : z ∈ cheapR xs d g) : rateForOk xs d z g = true ∧ rateForR xs d z g = (cheap xs d g 10).1 ∧ 0 ≤ z ∧ z ≤ 9 := by
  unfold cheapR at hz
  by_cases ha : askC xs d g = true
  · rw [if_pos ha] at hz
    simp only [askC, Bool.and_eq_true] at ha
    obtain ⟨hok, hd, hg⟩ := ha
    obtain ⟨a, b, c, e⟩ := cheap_mem hok 10 z hz
    have hA : askRate xs d z g = true := by
      simp only [askRate, Bool.and_eq_true]
      exact ⟨hok, hd, inB_iff.2 ⟨a, by omega⟩, hg⟩
    have hp := (rateAt_pos (d := d) (z := z) (g := g) hok).2.2
    have hr : hasRate xs d z g = true := by rw [← hp]; simp; omega
    refine ⟨by simp [rateForOk, hA, hr], ?_, a, by omega⟩
    rw [rateForR, if_pos hA, c]
  · rw [if_neg ha] at hz; cases hz
end Go.Proofs.Ytkganlojknhajaa
