/- Lists of arrays of 2 numbers: equality, marks (made by wip/arrs.py). -/
import Derived.Test.YtekggbmpogmlcaaIntS
import Derived.Test.YtekggbmpogmlcaaIdx
namespace Go.Proofs.Ytekggbmpogmlcaa
open Go.RowKit
set_option linter.unusedVariables false
set_option linter.unusedSimpArgs false
attribute [local go_sem] ExtOf.cell

theorem Rd.arr2 {w : World} {A : Option Addr} {n k : Nat} {l : List Int} (h : Rd w A n 2 (ints l)) (hk : k < n) :
    ∃ b off x0 x1, A = some ⟨b, off, none⟩ ∧ b < w.heap.size ∧ Hid (l[k * 2]? = some x0 ∧ l[k * 2 + 1]? = some x1) ∧ w.cell? ⟨b, off + k * 2, none⟩ = some (.int .i64 x0) ∧ w.cell? ⟨b, off + k * 2 + 1, none⟩ = some (.int .i64 x1) := by
  obtain ⟨b, off, e, hb, hc⟩ := h.2 (by omega)
  have hl : l.length = n * 2 := by have := h.1; rw [ints_length] at this; exact this
  have l0 : k * 2 + 0 < l.length := by omega
  have l1 : k * 2 + 1 < l.length := by omega
  have hcell : ∀ {i : Nat} (hi : i < l.length), w.cell? ⟨b, off + i, none⟩ = some (.int .i64 l[i]) := fun hi => hc _ _ (ints_get (List.getElem?_eq_getElem hi))
  exact ⟨b, off, l[k * 2 + 0], l[k * 2 + 1], e, hb, ⟨List.getElem?_eq_getElem l0, List.getElem?_eq_getElem l1⟩, hcell l0, hcell l1⟩
end Go.Proofs.Ytekggbmpogmlcaa
