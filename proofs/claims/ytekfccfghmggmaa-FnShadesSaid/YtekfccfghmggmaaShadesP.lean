/- FnShades: the plain laws. -/
import Derived.Test.YtekfccfghmggmaaPairs
import Derived.Test.YtekfccfghmggmaaShadeH
import Derived.Test.YtekfccfghmggmaaShadeO
import Derived.Test.YtekfccfghmggmaaVsR
namespace Go.Proofs.Ytekfccfghmggmaa
open Go.RowKit
set_option linter.unusedVariables false
set_option linter.unusedSimpArgs false

/-- What the best index means: nothing takes the color in so far, or the shade told is among the nearest. -/
def BestI (xs : List Shade) (hue light : Int) (k : Nat) : Prop :=
  (bestTo xs hue light k = -1 ∧ ∀ y ∈ xs.take k, takes hue light y = false) ∨
  ∃ (j : Nat) (x : Shade), bestTo xs hue light k = j ∧ xs[j]? = some x ∧ takes hue light x = true ∧ ∀ y ∈ xs.take k, takes hue light y = true → hueDist x.Hue hue ≤ hueDist y.Hue hue
theorem mem_take_succ {xs : List Shade} {k : Nat} {x y : Shade} (hx : xs[k]? = some x) (hy : y ∈ xs.take (k + 1)) : y ∈ xs.take k ∨ y = x := by
  obtain ⟨hk, e⟩ := List.getElem?_eq_some_iff.1 hx
  rw [List.take_succ_eq_append_getElem hk, List.mem_append, List.mem_singleton, e] at hy
  exact hy
theorem bestI {xs : List Shade} {hue light : Int} : ∀ k, BestI xs hue light k
  | 0 => .inl ⟨rfl, fun y hy => by simp at hy⟩
  | k + 1 => by
    cases hx : xs[k]? with
    | none =>
      have hb : bestTo xs hue light (k + 1) = bestTo xs hue light k := by rw [bestTo, hx]
      have ht : xs.take (k + 1) = xs.take k := by
        have := List.getElem?_eq_none_iff.1 hx
        rw [List.take_of_length_le (by omega), List.take_of_length_le (by omega)]
      have ih := bestI (xs := xs) (hue := hue) (light := light) k
      unfold BestI at *
      rw [hb, ht]; exact ih
    | some x =>
      have ih := bestI (xs := xs) (hue := hue) (light := light) k
      cases ht : takes hue light x with
      | false =>
        have hb := best_skip hx ht (hue := hue)
        rcases ih with ⟨h1, h2⟩ | ⟨j, z, h1, h2, h3, h4⟩
        · refine .inl ⟨by rw [hb, h1], fun y hy => ?_⟩
          rcases mem_take_succ hx hy with hy | rfl
          · exact h2 y hy
          · exact ht
        · refine .inr ⟨j, z, by rw [hb, h1], h2, h3, fun y hy hty => ?_⟩
          rcases mem_take_succ hx hy with hy | rfl
          · exact h4 y hy hty
          · rw [ht] at hty; cases hty
      | true =>
        rcases ih with ⟨h1, h2⟩ | ⟨j, z, h1, h2, h3, h4⟩
        · refine .inr ⟨k, x, best_first hx ht (by rw [h1]; decide), hx, ht, fun y hy hty => ?_⟩
          rcases mem_take_succ hx hy with hy | rfl
          · rw [h2 y hy] at hty; cases hty
          · exact Int.le_refl _
        · have hj : 0 ≤ bestTo xs hue light k := by rw [h1]; omega
          have hz : xs[(bestTo xs hue light k).toNat]? = some z := by rw [h1]; exact h2
          cases hc : closer hue x z with
          | true =>
            have hc2 : hueDist x.Hue hue ≤ hueDist z.Hue hue := by
              simp only [closer, Bool.or_eq_true, Bool.and_eq_true, decide_eq_true_eq] at hc
              omega
            refine .inr ⟨k, x, best_new hx ht hj hz hc, hx, ht, fun y hy hty => ?_⟩
            rcases mem_take_succ hx hy with hy | rfl
            · exact Int.le_trans hc2 (h4 y hy hty)
            · exact Int.le_refl _
          | false =>
            have hc2 : hueDist z.Hue hue ≤ hueDist x.Hue hue := by
              simp only [closer, Bool.or_eq_false_iff, decide_eq_false_iff_not] at hc
              omega
            refine .inr ⟨j, z, by rw [best_old hx ht hj hz hc, h1], h2, h3, fun y hy hty => ?_⟩
            rcases mem_take_succ hx hy with hy | rfl
            · exact h4 y hy hty
            · exact hc2
theorem names_mem {xs : List Shade} {hue light : Int} {s : ByteArray} (ha : bestAsk xs hue light = true) : s ∈ namesR xs hue light ↔ ∃ y ∈ xs, takes hue light y = true ∧ y.Name = s := by
  unfold namesR namesOf
  rw [if_pos ha]
  simp [List.mem_map, List.mem_filter, and_assoc]
theorem ask_good {xs : List Shade} {hue light : Int} (ha : bestAsk xs hue light = true) : shadesOk xs = true ∧ inB hue 0 359 = true := by
  simp only [bestAsk, Bool.and_eq_true] at ha
  exact ⟨ha.1, ha.2.1⟩
/-- Some shade takes the color in if and only if there are names. -/
theorem best_some (xs : List Shade) (hue light : Int) : bestOk xs hue light = (bestAsk xs hue light && decide (0 < ((namesR xs hue light).length : Int))) := by
  cases ha : bestAsk xs hue light with
  | false => simp [bestOk, ha]
  | true =>
    simp only [bestOk, ha, Bool.true_and]
    rw [Bool.eq_iff_iff, decide_eq_true_eq, decide_eq_true_eq]
    have hI := bestI (xs := xs) (hue := hue) (light := light) xs.length
    unfold BestI at hI
    rw [List.take_of_length_le (Nat.le_refl _)] at hI
    constructor
    · intro h0
      rcases hI with ⟨h1, _⟩ | ⟨j, x, _, h2, h3, _⟩
      · omega
      · have : x.Name ∈ namesR xs hue light := (names_mem ha).2 ⟨x, List.mem_of_getElem? h2, h3, rfl⟩
        have := List.length_pos_of_mem this
        omega
    · intro h0
      rcases hI with ⟨_, h2⟩ | ⟨j, x, h1, _⟩
      · obtain ⟨s, hs⟩ := List.exists_mem_of_length_pos (show 0 < (namesR xs hue light).length by omega)
        obtain ⟨y, hy, ht, _⟩ := (names_mem ha).1 hs
        rw [h2 y hy] at ht; cases ht
      · rw [h1]; omega
theorem apart_eq {xs : List Shade} (hv : shadesOk xs = true) {x y : Shade} (hx : x ∈ xs) (hy : y ∈ xs) (h : x.Name.toList = y.Name.toList) : x = y := by
  have hp := shades_apart hv
  obtain ⟨i, hi, ei⟩ := List.mem_iff_getElem.1 hx
  obtain ⟨j, hj, ej⟩ := List.mem_iff_getElem.1 hy
  rcases Nat.lt_trichotomy i j with hl | rfl | hl
  · have := (List.pairwise_iff_getElem.1 hp) i j hi hj hl
    rw [ei, ej, h] at this; exact absurd rfl this
  · rw [← ei, ← ej]
  · have := (List.pairwise_iff_getElem.1 hp) j i hj hi hl
    rw [ei, ej, h] at this; exact absurd rfl this
/-- The best shade takes the color in; none that does is nearer; its name is its own. -/
theorem best_law {xs : List Shade} {hue light : Int} (h : bestOk xs hue light = true) : ∃ d : Int, hasT (namesR xs hue light) (bestR xs hue light) = true ∧ (∃ x ∈ xs, x.Name = bestR xs hue light) ∧
    (∀ y ∈ xs, y.Name.toList = (bestR xs hue light).toList → hueDist y.Hue hue = d) ∧ (∀ y ∈ xs, hasT (namesR xs hue light) y.Name = true → d ≤ hueDist y.Hue hue) ∧ (∀ y ∈ xs, hues y.Hue hue = true ∧ hueDistR y.Hue hue = hueDist y.Hue hue) := by
  have h0 := h
  simp only [bestOk, Bool.and_eq_true, decide_eq_true_eq] at h0
  obtain ⟨ha, hb⟩ := h0
  obtain ⟨hv, hh⟩ := ask_good ha
  have hI := bestI (xs := xs) (hue := hue) (light := light) xs.length
  unfold BestI at hI
  rw [List.take_of_length_le (Nat.le_refl _)] at hI
  rcases hI with ⟨h1, _⟩ | ⟨j, x, h1, h2, h3, h4⟩
  · omega
  · have hR : bestR xs hue light = x.Name := by
      unfold bestR
      rw [if_pos h, h1, Int.toNat_natCast, h2]
    have hx := List.mem_of_getElem? h2
    refine ⟨hueDist x.Hue hue, hasT_mem ((names_mem ha).2 ⟨x, hx, h3, hR.symm⟩), ⟨x, hx, hR.symm⟩, fun y hy e => ?_, fun y hy hn => ?_, fun y hy => ?_⟩
    · rw [apart_eq hv hy hx (by rw [e, hR])]
    · obtain ⟨s, hs, es⟩ := hasT_some hn
      obtain ⟨z, hz, hzt, hzn⟩ := (names_mem ha).1 hs
      rw [apart_eq hv hy hz (by rw [hzn, es])]
      exact h4 z hz hzt
    · have hg := shadesOk_good hv y hy
      obtain ⟨_, ⟨b1, b2⟩, _⟩ := shOk_all (show shOk y.Name y.Hue y.Width y.Dark y.Light = true from hg)
      have hq := hues_yes (inB_iff.2 ⟨b1, b2⟩) hh
      exact ⟨hq, by rw [hueDistR, if_pos hq]⟩
theorem hueDist_sym (a b : Int) : hueDist a b = hueDist b a := by unfold hueDist; omega
theorem overlap_sym (nm1 nm2 : ByteArray) (h1 w1 d1 l1 h2 w2 d2 l2 : Int) : overlapOk nm1 nm2 h1 w1 d1 l1 h2 w2 d2 l2 = overlapOk nm2 nm1 h2 w2 d2 l2 h1 w1 d1 l1 ∧ overlapR nm1 nm2 h1 w1 d1 l1 h2 w2 d2 l2 = overlapR nm2 nm1 h2 w2 d2 l2 h1 w1 d1 l1 := by
  have ho : overlapOk nm1 nm2 h1 w1 d1 l1 h2 w2 d2 l2 = overlapOk nm2 nm1 h2 w2 d2 l2 h1 w1 d1 l1 := by unfold overlapOk; exact Bool.and_comm _ _
  refine ⟨ho, ?_⟩
  have hm : meet h1 w1 d1 l1 h2 w2 d2 l2 = meet h2 w2 d2 l2 h1 w1 d1 l1 := by
    unfold meet
    rw [hueDist_sym h1 h2, Int.add_comm w1 w2, Bool.and_comm (decide (d1 ≤ l2))]
  unfold overlapR
  rw [ho, hm]
end Go.Proofs.Ytekfccfghmggmaa
