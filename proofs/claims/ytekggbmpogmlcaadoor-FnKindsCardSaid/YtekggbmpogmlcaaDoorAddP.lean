/- AddBan: the plain law of the place of a ban; slices.Insert joined; the binary search. -/
import Derived.Test.YtekggbmpogmlcaaDoorInsBan
namespace Go.Proofs.YtekggbmpogmlcaaDoor
open Go.RowKit
set_option linter.unusedVariables false
set_option linter.unusedSimpArgs false
attribute [local go_sem] ExtOf.cell

/-- Ban y stands ahead of ban x. -/
def blt (y x : Ban) : Prop := y.A < x.A ∨ (y.A = x.A ∧ (y.X < x.X ∨ (y.X = x.X ∧ (y.B < x.B ∨ (y.B = x.B ∧ y.Y < x.Y)))))
theorem banOr_cases (y x : Ban) : (banOr y x < 0 ∧ blt y x) ∨ (banOr y x = 0 ∧ y = x) ∨ (0 < banOr y x ∧ blt x y) := by
  obtain ⟨a, b, c, d⟩ := y
  obtain ⟨a', b', c', d'⟩ := x
  simp only [banOr, orI, blt, cmpI, Ban.mk.injEq]
  omega
theorem banLess_blt {y x : Ban} : banLess y x = true ↔ blt y x := by
  unfold banLess
  rw [decide_eq_true_eq]
  rcases banOr_cases y x with ⟨h1, h2⟩ | ⟨h1, h2⟩ | ⟨h1, h2⟩
  · exact ⟨fun _ => h2, fun _ => h1⟩
  · subst h2
    refine ⟨fun h => by omega, fun h => ?_⟩
    simp [blt] at h
  · refine ⟨fun h => by omega, fun h => ?_⟩
    simp only [blt] at h h2
    omega
theorem blt_trans {x y z : Ban} (h : blt x y) (k : blt y z) : blt x z := by
  simp only [blt] at *
  omega
theorem blt_irrefl {x : Ban} : ¬ blt x x := by simp [blt]
/-- at is the place of b in bs. -/
structure IsAt (bs : List Ban) (b : Ban) (k : Nat) : Prop where
  le : k ≤ bs.length
  lo : ∀ j y, j < k → bs[j]? = some y → banLess y b = true
  hi : ∀ y, bs[k]? = some y → banLess y b = false
theorem IsAt.unique {bs : List Ban} {b : Ban} {k k' : Nat} (h : IsAt bs b k) (h' : IsAt bs b k') : k = k' := by
  rcases Nat.lt_trichotomy k k' with hl | hl | hl
  · obtain ⟨z, hx⟩ : ∃ z, bs[k]? = some z := ⟨_, List.getElem?_eq_getElem (by have := h'.le; omega)⟩
    have := h'.lo k _ hl hx
    rw [h.hi _ hx] at this; cases this
  · exact hl
  · obtain ⟨z, hx⟩ : ∃ z, bs[k']? = some z := ⟨_, List.getElem?_eq_getElem (by have := h.le; omega)⟩
    have := h.lo k' _ hl hx
    rw [h'.hi _ hx] at this; cases this
def placeOf (bs : List Ban) (b : Ban) : Nat := bs.findIdx fun y => !(banLess y b)
theorem placeOf_at (bs : List Ban) (b : Ban) : IsAt bs b (placeOf bs b) := by
  refine ⟨List.findIdx_le_length, fun j y hj hy => ?_, fun y hy => ?_⟩
  · obtain ⟨hl, rfl⟩ := List.getElem?_eq_some_iff.1 hy
    have := List.not_of_lt_findIdx hj
    simpa using this
  · obtain ⟨hl, rfl⟩ := List.getElem?_eq_some_iff.1 hy
    have h2 : (fun y => !(banLess y b)) bs[placeOf bs b] = true := List.findIdx_getElem (w := hl)
    exact (Bool.not_eq_true' _).mp h2
def insB (bs : List Ban) (b : Ban) : List Ban := bs.take (placeOf bs b) ++ b :: bs.drop (placeOf bs b)
theorem insB_len (bs : List Ban) (b : Ban) : (insB bs b).length = bs.length + 1 := by
  have := (placeOf_at bs b).le
  simp [insB, List.length_take]; omega
theorem insB_mem (bs : List Ban) (b : Ban) : b ∈ insB bs b := by simp [insB]
def foundB (bs : List Ban) (b : Ban) : Bool := match bs[placeOf bs b]? with
  | some y => decide (banOr y b = 0)
  | none => false
/-- Neighbours in order. -/
theorem adj_get {α : Type} {p : Option α → α → Bool} : ∀ {q : Option α} {xs : List α} {k : Nat} {x y : α}, adj p q xs = true → xs[k]? = some x → xs[k + 1]? = some y → p (some x) y = true
  | q, [], k, x, y, h, hx, hy => by simp at hx
  | q, a :: l, 0, x, y, h, hx, hy => by
    simp only [adj, Bool.and_eq_true] at h
    simp at hx hy
    subst hx
    cases l with
    | nil => simp at hy
    | cons c l => simp at hy; subst hy; simp only [adj, Bool.and_eq_true] at h; exact h.2.1
  | q, a :: l, k + 1, x, y, h, hx, hy => by
    simp only [adj, Bool.and_eq_true] at h
    simp at hx hy
    exact adj_get h.2 hx hy
theorem TabOk_next {ss : List Int} {bs : List Ban} (h : TabOk ss bs = true) {k : Nat} {x y : Ban} (hx : bs[k]? = some x) (hy : bs[k + 1]? = some y) : blt x y := by
  simp only [TabOk, Bool.and_eq_true] at h
  have := adj_get h.2.2.2 hx hy
  simp only [BanP, Bool.and_eq_true] at this
  exact banLess_blt.1 this.2
theorem TabOk_sorted {ss : List Int} {bs : List Ban} (h : TabOk ss bs = true) : ∀ (d j : Nat) (x y : Ban), bs[j]? = some x → bs[j + d + 1]? = some y → blt x y
  | 0, j, x, y, hx, hy => TabOk_next h hx hy
  | d + 1, j, x, y, hx, hy => by
    have hl := (List.getElem?_eq_some_iff.1 hy).1
    have hz : bs[j + d + 1]? = some bs[j + d + 1] := List.getElem?_eq_getElem (by omega)
    exact blt_trans (TabOk_sorted h d j x _ hx hz) (TabOk_next h hz hy)
/-- A ban that is there already makes the longer table invalid. -/
theorem found_bad {ss : List Int} {bs : List Ban} {b : Ban} (h : foundB bs b = true) : TabOk ss (insB bs b) = false := by
  cases hT : TabOk ss (insB bs b) with
  | false => rfl
  | true =>
    unfold foundB at h
    have hp := placeOf_at bs b
    cases hy : bs[placeOf bs b]? with
    | none => rw [hy] at h; cases h
    | some y =>
      rw [hy] at h
      have h0 : banOr y b = 0 := by simpa using h
      have e : y = b := by
        rcases banOr_cases y b with ⟨h1, _⟩ | ⟨_, h2⟩ | ⟨h1, _⟩
        · omega
        · exact h2
        · omega
      subst e
      have hl : ((bs.take (placeOf bs y)).length) = placeOf bs y := by rw [List.length_take]; have := hp.le; omega
      have h1 : (insB bs y)[placeOf bs y]? = some y := by
        unfold insB; rw [List.getElem?_append_right (by omega), hl]; simp
      have h2 : (insB bs y)[placeOf bs y + 1]? = some y := by
        unfold insB; rw [List.getElem?_append_right (by omega), hl]; simp [hy]
      exact absurd (TabOk_next hT h1 h2) blt_irrefl
theorem unfit_bad {ss : List Int} {bs : List Ban} {b : Ban} (h : banFits ss b = false) : TabOk ss (insB bs b) = false := by
  cases hT : TabOk ss (insB bs b) with
  | false => rfl
  | true =>
    obtain ⟨_, _, _, h4⟩ := TabOk_all hT
    rw [h4 b (insB_mem bs b)] at h; cases h
end Go.Proofs.YtekggbmpogmlcaaDoor
