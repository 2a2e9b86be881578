/- Plain: the first element with a property, counts, the last one (the same lemmas as in XShadeF and XShadeI, for seats without shades). -/
import Derived.Test.YtoafaejhabjlnaaDoorMem
namespace Go.Proofs.YtoafaejhabjlnaaDoor
open Go.RowKit
set_option linter.unusedVariables false
set_option linter.unusedSimpArgs false

def firstAt {α : Type} (p : α → Bool) (xs : List α) : Int := match xs.findIdx? p with
  | some i => (i : Int)
  | none => -1
def noneTo {α : Type} (p : α → Bool) (xs : List α) (k : Nat) : Prop := ∀ x ∈ xs.take k, p x = false
theorem noneTo_zero {α : Type} (p : α → Bool) (xs : List α) : noneTo p xs 0 := by simp [noneTo]
theorem noneTo_succ {α : Type} {p : α → Bool} {xs : List α} {k : Nat} {x : α} (h : noneTo p xs k) (hx : xs[k]? = some x) (hp : p x = false) : noneTo p xs (k + 1) := by
  obtain ⟨hk, e⟩ := List.getElem?_eq_some_iff.1 hx
  intro y hy
  rw [List.take_succ_eq_append_getElem hk] at hy
  rcases List.mem_append.1 hy with hy | hy
  · exact h y hy
  · simp only [List.mem_singleton] at hy
    rw [hy, e]; exact hp
theorem firstAt_hit {α : Type} {p : α → Bool} {xs : List α} {k : Nat} {x : α} (h : noneTo p xs k) (hx : xs[k]? = some x) (hp : p x = true) : firstAt p xs = k := by
  obtain ⟨hk, e⟩ := List.getElem?_eq_some_iff.1 hx
  have : xs.findIdx? p = some k := by
    rw [List.findIdx?_eq_some_iff_getElem]
    refine ⟨hk, by rw [e]; exact hp, fun j hj => ?_⟩
    have := h xs[j] (by rw [List.mem_take_iff_getElem]; exact ⟨j, by omega, rfl⟩)
    simp [this]
  unfold firstAt; rw [this]
theorem firstAt_miss {α : Type} {p : α → Bool} {xs : List α} {n : Nat} (hn : xs.length ≤ n) (h : noneTo p xs n) : firstAt p xs = -1 := by
  have : xs.findIdx? p = none := by
    rw [List.findIdx?_eq_none_iff]
    intro x hx
    exact h x (by rw [List.take_of_length_le hn]; exact hx)
  unfold firstAt; rw [this]
theorem firstAt_any {α : Type} (p : α → Bool) (xs : List α) : decide (0 ≤ firstAt p xs) = xs.any p := by
  unfold firstAt
  cases h : xs.findIdx? p with
  | none =>
    rw [List.findIdx?_eq_none_iff] at h
    have : xs.any p = false := by rw [List.any_eq_false]; intro x hx; simp [h x hx]
    rw [this]; simp
  | some i =>
    rw [List.findIdx?_eq_some_iff_getElem] at h
    obtain ⟨hi, hp, _⟩ := h
    have : xs.any p = true := List.any_eq_true.2 ⟨xs[i], List.getElem_mem hi, hp⟩
    rw [this]; simp
theorem firstAt_lo {α : Type} (p : α → Bool) (xs : List α) : -1 ≤ firstAt p xs := by
  unfold firstAt; split <;> omega
def cnt (p : Nat → Bool) : Nat → Nat
  | 0 => 0
  | h + 1 => cnt p h + if p h then 1 else 0
theorem cnt_le (p : Nat → Bool) : ∀ h, cnt p h ≤ h
  | 0 => Nat.le_refl _
  | h + 1 => by have := cnt_le p h; unfold cnt; split <;> omega
theorem cnt_yes {p : Nat → Bool} {h : Nat} (hp : p h = true) : cnt p (h + 1) = cnt p h + 1 := by simp [cnt, hp]
theorem cnt_no {p : Nat → Bool} {h : Nat} (hp : p h = false) : cnt p (h + 1) = cnt p h := by simp [cnt, hp]
theorem cnt_congr {p q : Nat → Bool} : ∀ h, (∀ i, i < h → p i = q i) → cnt p h = cnt q h
  | 0, _ => rfl
  | h + 1, e => by unfold cnt; rw [cnt_congr h (fun i hi => e i (by omega)), e h (by omega)]
def LastAt {α : Type} (p : α → Bool) (xs : List α) (k : Nat) (a : Int) : Prop := (a = -1 ∧ noneTo p xs k) ∨ ∃ (j : Nat) (x : α), j < k ∧ a = j ∧ xs[j]? = some x ∧ p x = true
theorem LastAt.zero {α : Type} (p : α → Bool) (xs : List α) : LastAt p xs 0 (-1) := .inl ⟨rfl, noneTo_zero _ _⟩
theorem LastAt.no {α : Type} {p : α → Bool} {xs : List α} {k : Nat} {a : Int} {x : α} (h : LastAt p xs k a) (hx : xs[k]? = some x) (hp : p x = false) : LastAt p xs (k + 1) a := by
  rcases h with ⟨e, h⟩ | ⟨j, y, hj, e, hy, hpy⟩
  · exact .inl ⟨e, noneTo_succ h hx hp⟩
  · exact .inr ⟨j, y, by omega, e, hy, hpy⟩
theorem LastAt.yes {α : Type} {p : α → Bool} {xs : List α} {k : Nat} {x : α} (hx : xs[k]? = some x) (hp : p x = true) : LastAt p xs (k + 1) k := .inr ⟨k, x, by omega, rfl, hx, hp⟩
theorem LastAt.bound {α : Type} {p : α → Bool} {xs : List α} {k : Nat} {a : Int} (h : LastAt p xs k a) : -1 ≤ a ∧ a < k := by
  rcases h with ⟨e, h⟩ | ⟨j, y, hj, e, hy, hpy⟩ <;> omega
theorem any_of_none {α : Type} {p : α → Bool} {xs : List α} {n : Nat} (hn : xs.length ≤ n) (h : noneTo p xs n) : xs.any p = false := by
  rw [List.any_eq_false]
  intro x hx
  have := h x (by rw [List.take_of_length_le hn]; exact hx)
  simp [this]
theorem find_hit {α : Type} {p : α → Bool} {xs : List α} {k : Nat} {x : α} (h : noneTo p xs k) (hx : xs[k]? = some x) (hp : p x = true) : xs.find? p = some x := by
  have hk : k < xs.length := by rcases Nat.lt_or_ge k xs.length with h | h; exact h; rw [List.getElem?_eq_none h] at hx; cases hx
  have he : xs = xs.take k ++ x :: xs.drop (k + 1) := by
    have := List.getElem?_eq_getElem hk
    rw [this] at hx; injection hx with hx
    rw [← hx, ← List.drop_eq_getElem_cons hk, List.take_append_drop]
  rw [he, List.find?_append, List.find?_cons_of_pos hp]
  have : (xs.take k).find? p = none := List.find?_eq_none.2 (fun y hy => by rw [h y hy]; simp)
  rw [this]; rfl
theorem find_miss {α : Type} {p : α → Bool} {xs : List α} {n : Nat} (hn : xs.length ≤ n) (h : noneTo p xs n) : xs.find? p = none := by
  rw [List.find?_eq_none]
  intro y hy
  rw [h y (by rw [List.take_of_length_le hn]; exact hy)]; simp
theorem any_hit {α : Type} {p : α → Bool} {xs : List α} {k : Nat} {x : α} (hx : xs[k]? = some x) (hp : p x = true) : xs.any p = true :=
  List.any_eq_true.2 ⟨x, List.mem_of_getElem? hx, hp⟩
end Go.Proofs.YtoafaejhabjlnaaDoor
