/- ReachedBy, MissedMails. -/
import Derived.Test.YtopjomkjdmcljaaEarl
import Derived.Test.YtopjomkjdmcljaaApp
namespace Go.Proofs.Ytopjomkjdmcljaa
open Go.RowKit
set_option linter.unusedVariables false
set_option linter.unusedSimpArgs false
attribute [local go_sem] ExtOf.cell

theorem idxs_more {p : Nat → Bool} {k : Nat} (h : p k = true) : idxs p (k + 1) = idxs p k ++ [(k : Int)] := by
  simp [idxs, List.range_succ, List.filter_append, h]
def reachAt (xs : List Mail) (f m y : Int) (k : Nat) : Bool := decide (times xs f m k ≤ y)
def askR (xs : List Mail) (f m y : Int) : Bool := askM xs f m && inB y m 9999
def reachR (xs : List Mail) (f m y : Int) : List Int := if askR xs f m y then idxs (reachAt xs f m y) 10 else []
theorem reach_len {xs : List Mail} {f m y : Int} : (reachR xs f m y).length ≤ 10 := by
  unfold reachR
  split
  · exact idxs_len _ _
  · simp
def missAt (xs : List Mail) (f m : Int) (k : Nat) : Bool := match xs[k]? with
  | some x => decide (x.Leave < times xs f m x.From.toNat)
  | none => false
def missR (xs : List Mail) (f m : Int) : List Int := if askM xs f m then idxs (missAt xs f m) xs.length else []
theorem miss_len {xs : List Mail} {f m : Int} {n : Nat} (h : xs.length = n) : (missR xs f m).length ≤ n := by
  unfold missR
  split
  · rw [← h]; exact idxs_len _ _
  · simp
theorem missAt_at {xs : List Mail} {f m : Int} {k : Nat} {x : Mail} (h : xs[k]? = some x) : missAt xs f m k = decide (x.Leave < times xs f m x.From.toNat) := by simp [missAt, h]




end Go.Proofs.Ytopjomkjdmcljaa
