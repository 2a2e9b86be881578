/- The names of the shades that take in a color. -/
import Derived.Test.YtekfccfghmggmaaDoorShadeB
import Derived.Test.YtekfccfghmggmaaDoorRows2
namespace Go.Proofs.YtekfccfghmggmaaDoor
open Go.RowKit
set_option linter.unusedVariables false
set_option linter.unusedSimpArgs false
attribute [local go_sem] ExtOf.cell
def namesOf (hue light : Int) (xs : List Shade) : List ByteArray := (xs.filter (takes hue light)).map (·.Name)
def namesR (xs : List Shade) (hue light : Int) : List ByteArray := if bestAsk xs hue light then namesOf hue light xs else []
theorem names_no {hue light : Int} {xs : List Shade} {k : Nat} {x : Shade} (hx : xs[k]? = some x) (ht : takes hue light x = false) : namesOf hue light (xs.take (k + 1)) = namesOf hue light (xs.take k) := by
  obtain ⟨hk, e⟩ := List.getElem?_eq_some_iff.1 hx
  simp [namesOf, List.take_succ_eq_append_getElem hk, List.filter_append, e, ht]
theorem names_yes {hue light : Int} {xs : List Shade} {k : Nat} {x : Shade} (hx : xs[k]? = some x) (ht : takes hue light x = true) : strs (namesOf hue light (xs.take (k + 1))) = strs (namesOf hue light (xs.take k)) ++ [.string x.Name] := by
  obtain ⟨hk, e⟩ := List.getElem?_eq_some_iff.1 hx
  simp [strs, namesOf, List.take_succ_eq_append_getElem hk, List.filter_append, e, ht]
theorem names_len {xs : List Shade} {n : Nat} {hue light : Int} (hn : xs.length = n) : (namesR xs hue light).length ≤ n := by
  unfold namesR namesOf
  split
  · rw [List.length_map]; have := List.length_filter_le (takes hue light) xs; omega
  · simp
theorem stringInfo : (Tryd.prog.info? 9).map (fun i => (i.zero, i.size, i.bytes)) = some (some (.string ByteArray.empty), 1, 16) := by kernel_rfl

end Go.Proofs.YtekfccfghmggmaaDoor
