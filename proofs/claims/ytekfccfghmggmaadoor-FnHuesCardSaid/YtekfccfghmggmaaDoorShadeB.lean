/- The best shade. -/
import Derived.Test.YtekfccfghmggmaaDoorShadeN
import Derived.Test.YtekfccfghmggmaaDoorCmp
import Derived.Test.YtekfccfghmggmaaDoorTail
namespace Go.Proofs.YtekfccfghmggmaaDoor
open Go.RowKit
set_option linter.unusedVariables false
set_option linter.unusedSimpArgs false
attribute [local go_sem] ExtOf.cell

def closer (hue : Int) (x y : Shade) : Bool := decide (hueDist x.Hue hue < hueDist y.Hue hue) || (decide (hueDist x.Hue hue = hueDist y.Hue hue) && decide (x.Width < y.Width))
def bestStep (xs : List Shade) (hue light : Int) (k : Nat) (b : Int) (x : Shade) : Int :=
  if takes hue light x then (if b < 0 then k else match xs[b.toNat]? with
    | some y => if closer hue x y then k else b
    | none => b) else b
def bestTo (xs : List Shade) (hue light : Int) : Nat → Int
  | 0 => -1
  | k + 1 => match xs[k]? with
    | some x => bestStep xs hue light k (bestTo xs hue light k) x
    | none => bestTo xs hue light k
theorem bestTo_bd (xs : List Shade) (hue light : Int) : ∀ k, -1 ≤ bestTo xs hue light k ∧ bestTo xs hue light k < k
  | 0 => by simp [bestTo]
  | k + 1 => by
    have ih := bestTo_bd xs hue light k
    unfold bestTo
    split
    · unfold bestStep; split <;> (try split) <;> (try split) <;> (try split) <;> omega
    · omega
theorem best_skip {xs : List Shade} {hue light : Int} {k : Nat} {x : Shade} (hx : xs[k]? = some x) (ht : takes hue light x = false) : bestTo xs hue light (k + 1) = bestTo xs hue light k := by
  rw [bestTo, hx]; simp [bestStep, ht]
theorem best_first {xs : List Shade} {hue light : Int} {k : Nat} {x : Shade} (hx : xs[k]? = some x) (ht : takes hue light x = true) (hb : bestTo xs hue light k < 0) : bestTo xs hue light (k + 1) = k := by
  rw [bestTo, hx]; simp [bestStep, ht, hb]
theorem best_new {xs : List Shade} {hue light : Int} {k : Nat} {x y : Shade} (hx : xs[k]? = some x) (ht : takes hue light x = true) (hb : 0 ≤ bestTo xs hue light k) (hy : xs[(bestTo xs hue light k).toNat]? = some y) (hc : closer hue x y = true) : bestTo xs hue light (k + 1) = k := by
  rw [bestTo, hx]; simp only [bestStep, ht, hy, hc, if_true]; rw [if_neg (by omega)]
theorem best_old {xs : List Shade} {hue light : Int} {k : Nat} {x y : Shade} (hx : xs[k]? = some x) (ht : takes hue light x = true) (hb : 0 ≤ bestTo xs hue light k) (hy : xs[(bestTo xs hue light k).toNat]? = some y) (hc : closer hue x y = false) : bestTo xs hue light (k + 1) = bestTo xs hue light k := by
  rw [bestTo, hx]; simp only [bestStep, ht, hy, hc, if_true]; rw [if_neg (by omega)]; simp
def bestAsk (xs : List Shade) (hue light : Int) : Bool := shadesOk xs && (inB hue 0 359 && inB light 0 100)
def bestOk (xs : List Shade) (hue light : Int) : Bool := bestAsk xs hue light && decide (0 ≤ bestTo xs hue light xs.length)
def bestR (xs : List Shade) (hue light : Int) : ByteArray := if bestOk xs hue light then (match xs[(bestTo xs hue light xs.length).toNat]? with
  | some y => y.Name
  | none => ByteArray.empty) else ByteArray.empty
theorem closer_or (hue : Int) (x y : Shade) : closer hue x y = decide (orI [cmpI (hueDist x.Hue hue) (hueDist y.Hue hue), cmpI x.Width y.Width] < 0) := by
  rw [Bool.eq_iff_iff]
  simp only [closer, orI, Bool.or_eq_true, Bool.and_eq_true, decide_eq_true_eq]
  generalize hueDist x.Hue hue = a
  generalize hueDist y.Hue hue = b
  generalize x.Width = c
  generalize y.Width = d
  rcases Int.lt_trichotomy a b with h | h | h
  · rw [cmpI_of_lt h]; simp [h]
  · rw [cmpI_of_eq h]
    rcases Int.lt_trichotomy c d with h' | h' | h'
    · rw [cmpI_of_lt h']; simp [h, h']
    · rw [cmpI_of_eq h']; simp; omega
    · rw [cmpI_of_gt h']; simp; omega
  · rw [cmpI_of_gt h]; simp; omega
theorem ret_str_bool {a b : ByteArray} {p q : Bool} (h : a = b) (h' : p = q) : Ending.returned (.tuple #[.string a, .bool p]) = .returned (.tuple #[.string b, .bool q]) := by rw [h, h']

end Go.Proofs.YtekfccfghmggmaaDoor
