/- FnRates: the plain laws. -/
import Derived.Test.YtkganlojknhajaaDoorSpanP
import Derived.Test.YtkganlojknhajaaDoorRateG
import Derived.Test.YtkganlojknhajaaDoorRateH
import Derived.Test.YtkganlojknhajaaDoorRateI
namespace Go.Proofs.YtkganlojknhajaaDoor
open Go.RowKit
set_option linter.unusedVariables false
set_option linter.unusedSimpArgs false

theorem told_heavy {xs : List Rate} {d z g : Int} (h : rateForOk xs d z g = true) : heavyOk xs d z (rateForR xs d z g) = true ∧ g ≤ heavyR xs d z (rateForR xs d z g) := by
  simp only [rateForOk, Bool.and_eq_true] at h
  obtain ⟨ha, hr⟩ := h
  have e : rateForR xs d z g = rateAt xs d z g := by rw [rateForR, if_pos ha]
  simp only [askRate, Bool.and_eq_true] at ha
  obtain ⟨hok, hd, hz, hg⟩ := ha
  obtain ⟨p1, p2, p3⟩ := rateAt_pos (d := d) (z := z) (g := g) hok
  rw [hr] at p3
  have p4 : 0 < rateAt xs d z g := of_decide_eq_true p3
  rw [e]
  have hh : hit xs d z (rateAt xs d z g) g = true := by
    simp only [hit, Bool.and_eq_true]
    exact ⟨hr, by simp⟩
  obtain ⟨l1, l2⟩ := hit_le hok hh
  have hH : askH xs d z (rateAt xs d z g) = true := by
    simp only [askH, Bool.and_eq_true]
    exact ⟨hok, hd, hz, inB_iff.2 ⟨by omega, p2⟩⟩
  refine ⟨?_, ?_⟩
  · simp only [heavyOk, Bool.and_eq_true]
    exact ⟨hH, by simp; omega⟩
  · rw [heavyR, if_pos hH]; exact l1
theorem free_law {xs : List Rate} {z g f : Int} (h : freeOk xs z g f = true) : rateForOk xs (freeR xs z g f) z g = false ∧ f ≤ freeR xs z g f ∧ 0 ≤ freeR xs z g f ∧ freeR xs z g f ≤ 4000 := by
  simp only [freeOk, Bool.and_eq_true] at h
  obtain ⟨ha, hb⟩ := h
  rw [freeR, if_pos ha]
  cases hf : (List.range 4001).find? (freeP xs z g f) with
  | none =>
    obtain ⟨j, hj, hp⟩ := List.any_eq_true.1 hb
    exact absurd hp (List.find?_eq_none.1 hf j hj)
  | some k =>
    have hp := List.find?_some hf
    have hk := List.mem_range.1 (List.mem_of_find?_eq_some hf)
    have e : freeAt xs z g f = (k : Int) := by rw [freeAt, hf]; rfl
    rw [e]
    simp only [freeP, Bool.and_eq_true, Bool.not_eq_true', decide_eq_true_eq] at hp
    refine ⟨?_, hp.1, by omega, by omega⟩
    rw [rateForOk, hp.2, Bool.and_false]

def flatT (T : List (Int × Int × Int)) : List Int := T.flatMap fun t => [t.1, t.2.1, t.2.2]
/-- A span that is at its end before day k, or that the next day may still make longer. -/
def Opn (xs : List Rate) (z g : Int) (k : Nat) (t : Int × Int × Int) : Prop :=
  0 ≤ t.1 ∧ t.1 ≤ t.2.1 ∧ t.2.1 < k ∧ t.2.2 ≠ 0 ∧ rateAt xs t.1 z g = t.2.2 ∧ rateAt xs t.2.1 z g = t.2.2 ∧ (t.1 = 0 ∨ rateAt xs (t.1 - 1) z g ≠ t.2.2) ∧ (t.2.1 + 1 = k ∨ rateAt xs (t.2.1 + 1) z g ≠ t.2.2)
def Shut (xs : List Rate) (z g : Int) (k : Nat) (t : Int × Int × Int) : Prop := Opn xs z g k t ∧ rateAt xs (t.2.1 + 1) z g ≠ t.2.2
theorem Shut.next {xs : List Rate} {z g : Int} {k : Nat} {t : Int × Int × Int} (h : Shut xs z g k t) : Shut xs z g (k + 1) t := by
  obtain ⟨⟨h1, h2, h3, h4, h5, h6, h7, h8⟩, h9⟩ := h
  exact ⟨⟨h1, h2, by omega, h4, h5, h6, h7, .inr h9⟩, h9⟩
def SpanT (xs : List Rate) (z g : Int) (k : Nat) (s : List Int × List Int) : Prop :=
  ∃ T, s.1 = flatT T ∧ (∀ t ∈ T, Shut xs z g k t) ∧ ((s.2 = [] ∧ T = []) ∨ ∃ t : Int × Int × Int, s.2 = [t.1, t.2.1, t.2.2] ∧ Opn xs z g k t)
theorem spanT_step {xs : List Rate} {z g : Int} {k q : Nat} {s : List Int × List Int} (h : SpanT xs z g k s) (hi : SpanI (prevR xs z g k) k s q) : SpanT xs z g (k + 1) (spanStep (rateAt xs k z g) k s) := by
  obtain ⟨T, hT, hS, hL⟩ := h
  have hS' : ∀ t ∈ T, Shut xs z g (k + 1) t := fun t ht => (hS t ht).next
  have hprev : ∀ c, c ≠ 0 → prevR xs z g k ≠ c → ((k : Int) = 0 ∨ rateAt xs ((k : Int) - 1) z g ≠ c) := by
    intro c hc hp
    cases k with
    | zero => exact .inl rfl
    | succ j => right; rw [show ((j + 1 : Nat) : Int) - 1 = (j : Int) by omega]; exact hp
  by_cases hc : rateAt xs k z g = 0
  · rw [hc, span_skip]
    refine ⟨T, hT, hS', ?_⟩
    rcases hL with ⟨h1, h2⟩ | ⟨t, h1, o1, o2, o3, o4, o5, o6, o7, o8⟩
    · exact .inl ⟨h1, h2⟩
    · refine .inr ⟨t, h1, o1, o2, by omega, o4, o5, o6, o7, .inr ?_⟩
      rcases o8 with o8 | o8
      · rw [o8, hc]; exact fun e => o4 e.symm
      · exact o8
  · rcases hL with ⟨h1, rfl⟩ | ⟨t, h1, o1, o2, o3, o4, o5, o6, o7, o8⟩
    · have hs : s = ([], []) := by
        obtain ⟨s1, s2⟩ := s
        simp only at hT h1
        rw [hT, h1]; rfl
      have hp0 : prevR xs z g k = 0 := by
        rcases hi with ⟨_, _, h0⟩ | ⟨p, a, b, d, _, e2, _⟩
        · exact h0
        · rw [h1] at e2; cases e2
      rw [hs, span_first hc]
      refine ⟨[], rfl, (fun t ht => by cases ht), .inr ⟨(k, k, rateAt xs k z g), rfl, by show (0 : Int) ≤ k; omega, Int.le_refl _, by show (k : Int) < ((k + 1 : Nat) : Int); omega, hc, rfl, rfl, hprev _ hc (by rw [hp0]; exact fun e => hc e.symm), .inl (by show (k : Int) + 1 = ((k + 1 : Nat) : Int); omega)⟩⟩
    · obtain ⟨a, b, d⟩ := t
      simp only at h1 o1 o2 o3 o4 o5 o6 o7 o8
      by_cases hb : b + 1 = (k : Int) ∧ d = rateAt xs k z g
      · obtain ⟨hb, hd⟩ := hb
        have hh := span_more (c := rateAt xs k z g) hc (k := k) (s := s) (a := a) (b := b) (by rw [h1, hd]) hb
        rw [hh]
        exact ⟨T, hT, hS', .inr ⟨(a, k, rateAt xs k z g), rfl, o1, by show a ≤ (k : Int); omega, by show (k : Int) < ((k + 1 : Nat) : Int); omega, hc, by show rateAt xs a z g = _; rw [o5, hd], rfl, by show a = 0 ∨ rateAt xs (a - 1) z g ≠ _; rw [← hd]; exact o7, .inl (by show (k : Int) + 1 = ((k + 1 : Nat) : Int); omega)⟩⟩
      · rw [span_new hc h1 hb]
        have hcl : rateAt xs (b + 1) z g ≠ d := by
          rcases o8 with o8 | o8
          · rw [o8]; exact fun e => hb ⟨o8, e.symm⟩
          · exact o8
        have hpn : prevR xs z g k ≠ rateAt xs k z g := by
          intro e
          rcases hi with ⟨he, _⟩ | ⟨p, a', b', d', _, e2, _, _, _, _, _, _, _, _, _, e12⟩
          · rw [he] at h1; cases h1
          · rw [h1] at e2
            injection e2 with e2a e2
            injection e2 with e2b e2
            injection e2 with e2c _
            obtain ⟨f1, f2⟩ := e12 (by rw [e]; exact hc)
            exact hb ⟨by omega, by rw [e2c, f2, e]⟩
        refine ⟨T ++ [(a, b, d)], by rw [hT, h1]; simp [flatT], fun t ht => ?_, .inr ⟨(k, k, rateAt xs k z g), rfl, by show (0 : Int) ≤ k; omega, Int.le_refl _, by show (k : Int) < ((k + 1 : Nat) : Int); omega, hc, rfl, rfl, hprev _ hc hpn, .inl (by show (k : Int) + 1 = ((k + 1 : Nat) : Int); omega)⟩⟩
        rcases List.mem_append.1 ht with ht | ht
        · exact hS' t ht
        · simp at ht; subst ht
          exact ⟨⟨o1, o2, by show b < ((k + 1 : Nat) : Int); omega, o4, o5, o6, o7, .inr hcl⟩, hcl⟩
theorem spanT_inv {xs : List Rate} {z g : Int} (h : RatesOk xs = true) : ∀ k, SpanT xs z g k (spans xs z g k)
  | 0 => ⟨[], rfl, fun t ht => (by cases ht), .inl ⟨rfl, rfl⟩⟩
  | k + 1 => by
    obtain ⟨q, hq, _⟩ := spans_inv (z := z) (g := g) h k
    exact spanT_step (spanT_inv h k) hq
/-- What FnRates asks of a told span. -/
def SpanLaw (xs : List Rate) (z g : Int) (t : Int × Int × Int) : Prop :=
  0 ≤ t.1 ∧ t.1 ≤ 4000 ∧ 0 ≤ t.2.1 ∧ t.2.1 ≤ 4000 ∧ rateForR xs t.1 z g = t.2.2 ∧ rateForOk xs t.1 z g = true ∧ rateForR xs t.2.1 z g = t.2.2 ∧ rateForOk xs t.2.1 z g = true ∧ rateForR xs (t.1 - 1) z g ≠ t.2.2 ∧ rateForR xs (t.2.1 + 1) z g ≠ t.2.2
theorem opn_law {xs : List Rate} {z g : Int} {t : Int × Int × Int} (ha : askS xs z g = true) (h : Opn xs z g 4001 t) : SpanLaw xs z g t := by
  obtain ⟨o1, o2, o3, o4, o5, o6, o7, o8⟩ := h
  simp only [askS, Bool.and_eq_true] at ha
  obtain ⟨hok, hz, hg⟩ := ha
  have ask : ∀ d : Int, 0 ≤ d → d ≤ 4000 → askRate xs d z g = true := fun d h0 h1 => by
    simp only [askRate, Bool.and_eq_true]
    exact ⟨hok, inB_iff.2 ⟨h0, h1⟩, hz, hg⟩
  have noask : ∀ d : Int, d < 0 ∨ 4000 < d → askRate xs d z g = false := fun d h0 => by
    simp only [askRate, Bool.and_eq_false_iff]
    exact .inr (.inl (inB_no.2 (by omega)))
  have yes : ∀ d : Int, 0 ≤ d → d ≤ 4000 → rateForR xs d z g = rateAt xs d z g := fun d h0 h1 => by rw [rateForR, if_pos (ask d h0 h1)]
  have no : ∀ d : Int, d < 0 ∨ 4000 < d → rateForR xs d z g = 0 := fun d h0 => by rw [rateForR, if_neg (by rw [noask d h0]; decide)]
  have has : ∀ d : Int, rateAt xs d z g ≠ 0 → hasRate xs d z g = true := fun d hd => by
    obtain ⟨p1, _, p3⟩ := rateAt_pos (d := d) (z := z) (g := g) hok
    rw [← p3]; simp; omega
  have o3' : t.2.1 ≤ 4000 := by omega
  refine ⟨o1, by omega, by omega, o3', by rw [yes _ o1 (by omega), o5], ?_, by rw [yes _ (by omega) o3', o6], ?_, ?_, ?_⟩
  · rw [rateForOk, ask _ o1 (by omega), has _ (by rw [o5]; exact o4)]; rfl
  · rw [rateForOk, ask _ (by omega) o3', has _ (by rw [o6]; exact o4)]; rfl
  · rcases o7 with o7 | o7
    · rw [no _ (by omega)]; exact fun e => o4 e.symm
    · by_cases hn : t.1 = 0
      · rw [no _ (by omega)]; exact fun e => o4 e.symm
      · rw [yes _ (by omega) (by omega)]; exact o7
  · rcases o8 with o8 | o8
    · rw [no _ (by omega)]; exact fun e => o4 e.symm
    · by_cases hn : t.2.1 = 4000
      · rw [no _ (by omega)]; exact fun e => o4 e.symm
      · rw [yes _ (by omega) (by omega)]; exact o8
theorem span_law (xs : List Rate) (z g : Int) : ∃ T, spanR xs z g = flatT T ∧ ∀ t ∈ T, SpanLaw xs z g t := by
  cases h : askS xs z g
  · exact ⟨[], spanR_no h, fun t ht => by cases ht⟩
  · have hok : RatesOk xs = true := by
      simp only [askS, Bool.and_eq_true] at h; exact h.1
    obtain ⟨T, hT, hS, hL⟩ := spanT_inv (z := z) (g := g) hok 4001
    rw [spanR_yes h]
    rcases hL with ⟨h1, h2⟩ | ⟨t, h1, ho⟩
    · exact ⟨T, by rw [flat2, h1, hT, List.append_nil], fun t ht => opn_law h (hS t ht).1⟩
    · refine ⟨T ++ [t], by rw [flat2, h1, hT]; simp [flatT], fun u hu => ?_⟩
      rcases List.mem_append.1 hu with hu | hu
      · exact opn_law h (hS u hu).1
      · simp at hu; subst hu; exact opn_law h ho
end Go.Proofs.YtkganlojknhajaaDoor
