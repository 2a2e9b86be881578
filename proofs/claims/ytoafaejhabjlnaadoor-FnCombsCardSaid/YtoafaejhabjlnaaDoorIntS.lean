/- Lists of numbers: equality, marks (made by wip/lists.py). -/
import Derived.Test.YtoafaejhabjlnaaDoorMark2
import Derived.Test.YtoafaejhabjlnaaDoorAdj
namespace Go.Proofs.YtoafaejhabjlnaaDoor
open Go.RowKit
set_option linter.unusedVariables false
set_option linter.unusedSimpArgs false
attribute [local go_sem] ExtOf.cell

def ints (l : List Int) : List Value := l.map (Value.int .i64)
theorem ints_get {l : List Int} {k : Nat} {a : Int} (h : l[k]? = some a) : (ints l)[k]? = some (.int .i64 a) := by simp [ints, h]
theorem ints_length (l : List Int) : (ints l).length = l.length := by simp [ints]
theorem Rd.int {w : World} {A : Option Addr} {n k : Nat} {l : List Int} (h : Rd w A n 1 (ints l)) (hk : k < n) :
    ∃ b off x, A = some ⟨b, off, none⟩ ∧ b < w.heap.size ∧ Hid (l[k]? = some x) ∧ w.cell? ⟨b, off + k, none⟩ = some (.int .i64 x) := by
  obtain ⟨b, off, e, hb, hc⟩ := h.2 (by omega)
  have hl : k < l.length := by have := h.1; rw [ints_length] at this; omega
  have hx : l[k]? = some l[k] := List.getElem?_eq_getElem hl
  exact ⟨b, off, l[k], e, hb, hx, hc k _ (ints_get hx)⟩
def marksI (k : Int) (n : Nat) : List Int := (List.range n).map fun (i : Nat) => k + (i : Int)
theorem marksI_length (k : Int) (n : Nat) : (marksI k n).length = n := by simp [marksI]
theorem marksI_get (k : Int) {n i : Nat} (h : i < n) : (marksI k n)[i]? = some (k + i) := by simp [marksI, h]
end Go.Proofs.YtoafaejhabjlnaaDoor
