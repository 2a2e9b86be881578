/- Plain: the numbers with a property (made by wip/rates3.py). -/
import Derived.Test.YtoafaejhabjlnaaDoorIntS
import Derived.Test.YtoafaejhabjlnaaDoorRows2
namespace Go.Proofs.YtoafaejhabjlnaaDoor
open Go.RowKit
set_option linter.unusedVariables false
set_option linter.unusedSimpArgs false
attribute [local go_sem] ExtOf.cell

/-- The numbers below n with a property, in order. -/
def idxs (p : Nat → Bool) (n : Nat) : List Int := ((List.range n).filter p).map Int.ofNat
theorem idxs_zero (p : Nat → Bool) : idxs p 0 = [] := rfl
theorem idxs_no {p : Nat → Bool} {k : Nat} (h : p k = false) : idxs p (k + 1) = idxs p k := by
  simp [idxs, List.range_succ, List.filter_append, h]
theorem idxs_yes {p : Nat → Bool} {k : Nat} (h : p k = true) : ints (idxs p (k + 1)) = ints (idxs p k) ++ [.int .i64 (k : Int)] := by
  simp [ints, idxs, List.range_succ, List.filter_append, h]
theorem idxs_len (p : Nat → Bool) (n : Nat) : (idxs p n).length ≤ n := by
  unfold idxs
  rw [List.length_map]
  have := List.length_filter_le p (List.range n)
  simpa using this
theorem idxs_congr {p q : Nat → Bool} {n : Nat} (h : ∀ i, i < n → p i = q i) : idxs p n = idxs q n := by
  unfold idxs
  rw [List.filter_congr (fun i hi => h i (List.mem_range.1 hi))]
theorem new_cell (w : World) (cs : Array Value) (T : TypeId) (j : Nat) (v : Value) (h : cs[j]? = some v) : (w.alloc (.cells cs T)).cell? ⟨w.heap.size, j, none⟩ = some v := by
  rw [cell_of_row _ _ _ _ _ _ (heap_alloc_new w _)]
  exact h
theorem intInfo : (Tryd.prog.info? 3).map (fun i => (i.zero, i.size, i.bytes)) = some (some (.int .i64 0), 1, 8) := by kernel_rfl

end Go.Proofs.YtoafaejhabjlnaaDoor
