/- RateSpans: the plain law. -/
import Derived.Test.YtkganlojknhajaaDoorRateF
import Derived.Test.YtkganlojknhajaaDoorIdx
namespace Go.Proofs.YtkganlojknhajaaDoor
open Go.RowKit
set_option linter.unusedVariables false
set_option linter.unusedSimpArgs false

/-- The rate on the day before day k, 0 where there is none. -/
def prevR (xs : List Rate) (z g : Int) : Nat → Int
  | 0 => 0
  | k + 1 => rateAt xs k z g
/-- One day more: all spans but the last one, and the last one. -/
def spanStep (c : Int) (k : Nat) (s : List Int × List Int) : List Int × List Int :=
  if c = 0 then s else match s.2 with
    | [a, b, d] => if b + 1 = (k : Int) ∧ d = c then (s.1, [a, (k : Int), c]) else (s.1 ++ s.2, [(k : Int), (k : Int), c])
    | _ => (s.1 ++ s.2, [(k : Int), (k : Int), c])
def spans (xs : List Rate) (z g : Int) : Nat → List Int × List Int
  | 0 => ([], [])
  | k + 1 => spanStep (rateAt xs k z g) k (spans xs z g k)
def flat2 (s : List Int × List Int) : List Int := s.1 ++ s.2
/-- The state before day k: q spans. -/
def SpanI (prev : Int) (k : Nat) (s : List Int × List Int) (q : Nat) : Prop :=
  (s = ([], []) ∧ q = 0 ∧ prev = 0) ∨ ∃ (p : Nat) (a b d : Int), q = p + 1 ∧ s.2 = [a, b, d] ∧ s.1.length = p * 3 ∧ 0 ≤ a ∧ 0 ≤ b ∧ a ≤ b ∧ b < k ∧ 1 ≤ d ∧ d ≤ 9999 ∧ p < k ∧ (prev = 0 → b + 1 < k) ∧ (prev ≠ 0 → b + 1 = k ∧ d = prev)
theorem span_skip (k : Nat) (s : List Int × List Int) : spanStep 0 k s = s := by simp [spanStep]
theorem span_first {c : Int} (h : c ≠ 0) (k : Nat) : spanStep c k ([], []) = ([], [(k : Int), (k : Int), c]) := by simp [spanStep, h]
theorem span_more {c : Int} (h : c ≠ 0) {k : Nat} {s : List Int × List Int} {a b : Int} (hs : s.2 = [a, b, c]) (hb : b + 1 = (k : Int)) : spanStep c k s = (s.1, [a, (k : Int), c]) := by
  simp [spanStep, h, hs, hb]
theorem span_new {c : Int} (h : c ≠ 0) {k : Nat} {s : List Int × List Int} {a b d : Int} (hs : s.2 = [a, b, d]) (hb : ¬ (b + 1 = (k : Int) ∧ d = c)) : spanStep c k s = (s.1 ++ s.2, [(k : Int), (k : Int), c]) := by
  unfold spanStep
  rw [if_neg h, hs]
  simp only [if_neg hb]
theorem spanI_step {prev c : Int} {k : Nat} {s : List Int × List Int} {q : Nat} (h : SpanI prev k s q) (h1 : 0 ≤ c) (h2 : c ≤ 9999) :
    ∃ q', SpanI c (k + 1) (spanStep c k s) q' ∧ (q' = q ∨ q' = q + 1) := by
  by_cases hc : c = 0
  · subst hc
    rw [span_skip]
    refine ⟨q, ?_, .inl rfl⟩
    rcases h with ⟨e1, e2, e3⟩ | ⟨p, a, b, d, e1, e2, e3, e4, e5, e6, e7, e8, e9, e10, e11, e12⟩
    · exact .inl ⟨e1, e2, rfl⟩
    · exact .inr ⟨p, a, b, d, e1, e2, e3, e4, e5, e6, by omega, e8, e9, by omega, fun _ => by omega, fun h => absurd rfl h⟩
  · rcases h with ⟨rfl, rfl, e3⟩ | ⟨p, a, b, d, rfl, e2, e3, e4, e5, e6, e7, e8, e9, e10, e11, e12⟩
    · rw [span_first hc]
      exact ⟨1, .inr ⟨0, k, k, c, rfl, rfl, rfl, by omega, by omega, by omega, by omega, by omega, h2, by omega, fun h => absurd h hc, fun _ => ⟨by omega, rfl⟩⟩, .inr rfl⟩
    · by_cases hb : b + 1 = (k : Int) ∧ d = c
      · obtain ⟨hb, rfl⟩ := hb
        rw [span_more hc e2 hb]
        exact ⟨p + 1, .inr ⟨p, a, k, d, rfl, rfl, e3, e4, by omega, by omega, by omega, e8, e9, by omega, fun h => absurd h hc, fun _ => ⟨by omega, rfl⟩⟩, .inl rfl⟩
      · rw [span_new hc e2 hb]
        refine ⟨p + 1 + 1, .inr ⟨p + 1, k, k, c, rfl, rfl, ?_, by omega, by omega, by omega, by omega, by omega, h2, by omega, fun h => absurd h hc, fun _ => ⟨by omega, rfl⟩⟩, .inr rfl⟩
        rw [List.length_append, e2, e3]
        simp; omega
theorem spans_inv {xs : List Rate} {z g : Int} (h : RatesOk xs = true) : ∀ k, ∃ q, SpanI (prevR xs z g k) k (spans xs z g k) q ∧ q ≤ k
  | 0 => ⟨0, .inl ⟨rfl, rfl, rfl⟩, Nat.le_refl _⟩
  | k + 1 => by
    obtain ⟨q, hq, hl⟩ := spans_inv (z := z) (g := g) h k
    obtain ⟨r1, r2, _⟩ := rateAt_pos (d := (k : Int)) (z := z) (g := g) h
    obtain ⟨q', hq', hc⟩ := spanI_step hq r1 r2
    exact ⟨q', hq', by omega⟩
theorem spanI_len {prev : Int} {k q : Nat} {s : List Int × List Int} (h : SpanI prev k s q) : (flat2 s).length = q * 3 := by
  rcases h with ⟨rfl, rfl, _⟩ | ⟨p, a, b, d, rfl, e2, e3, _⟩
  · rfl
  · unfold flat2
    rw [List.length_append, e2, e3]
    simp; omega
def askS (xs : List Rate) (z g : Int) : Bool := RatesOk xs && (inB z 0 9 && inB g 1 2000)
def spanR (xs : List Rate) (z g : Int) : List Int := if askS xs z g then flat2 (spans xs z g 4001) else []
theorem spanR_no {xs : List Rate} {z g : Int} (h : askS xs z g = false) : spanR xs z g = [] := by unfold spanR; rw [h]; rfl
theorem spanR_yes {xs : List Rate} {z g : Int} (h : askS xs z g = true) : spanR xs z g = flat2 (spans xs z g 4001) := by unfold spanR; rw [if_pos h]
theorem spanR_len (xs : List Rate) (z g : Int) : (spanR xs z g).length ≤ 20000 := by
  cases h : askS xs z g
  · rw [spanR_no h]; exact Nat.zero_le _
  · rw [spanR_yes h]
    simp only [askS, Bool.and_eq_true] at h
    obtain ⟨q, hq, hl⟩ := spans_inv (z := z) (g := g) h.1 4001
    rw [spanI_len hq]; omega
end Go.Proofs.YtkganlojknhajaaDoor
