/- The first compatible kind from a number on: the reference's. -/
import Derived.Test.YtekggbmpogmlcaaWith
namespace Go.Proofs.Ytekggbmpogmlcaa
open Go.RowKit
set_option linter.unusedVariables false
set_option linter.unusedSimpArgs false
attribute [local go_sem] ExtOf.cell

theorem firstFrom_hit {ss : List Int} {bs : List Ban} {n0 k : Nat} (h0 : n0 ≤ k) (hk : k < allN ss) (hp : freeOf bs (kindAt ss k) = true) (hno : ∀ i, n0 ≤ i → i < k → freeOf bs (kindAt ss i) = false) : firstFrom ss bs n0 = some (kindAt ss k) := by
  unfold firstFrom; rw [nxt_hit h0 hk hp hno]; rfl
theorem firstFrom_miss {ss : List Int} {bs : List Ban} {n0 : Nat} (hno : ∀ i, n0 ≤ i → i < allN ss → freeOf bs (kindAt ss i) = false) : firstFrom ss bs n0 = none := by
  unfold firstFrom; rw [nxt_miss hno]; rfl
end Go.Proofs.Ytekggbmpogmlcaa
