/- FirstKind, NextKind: the program's and the reference's entries. -/
import Derived.Test.YtekggbmpogmlcaaCount
namespace Go.Proofs.Ytekggbmpogmlcaa
open Go.RowKit
set_option linter.unusedVariables false
set_option linter.unusedSimpArgs false
attribute [local go_sem] ExtOf.cell

def firstK (ss : List Int) (bs : List Ban) : Option (List Int) := if TabOk ss bs then firstFrom ss bs 0 else none
theorem firstK_yes {ss : List Int} {bs : List Ban} (h : TabOk ss bs = true) : firstK ss bs = firstFrom ss bs 0 := by unfold firstK; rw [if_pos h]
theorem firstK_no {ss : List Int} {bs : List Ban} (h : TabOk ss bs = false) : firstK ss bs = none := by unfold firstK; rw [h]; rfl
theorem firstFrom_len (ss : List Int) (bs : List Ban) (n0 : Nat) : ((firstFrom ss bs n0).getD []).length ≤ ss.length := by
  unfold firstFrom
  cases nxt (fun i => freeOf bs (kindAt ss i)) n0 (allN ss) with
  | none => exact Nat.zero_le _
  | some i => exact Nat.le_of_eq (kindAt_len ss i)
theorem firstK_len (ss : List Int) (bs : List Ban) : ((firstK ss bs).getD []).length ≤ 10000 := by
  cases h : TabOk ss bs
  · rw [firstK_no h]; exact Nat.zero_le _
  · obtain ⟨⟨_, t2⟩, _⟩ := TabOk_all h
    rw [firstK_yes h]; have := firstFrom_len ss bs 0; omega
def OptPost (R : Option (List Int)) (w : World) : Ending → World → Prop := RowPost 3 1 (ints (R.getD [])) R.isSome w
theorem OptPost.none {w w' : World} (he : Ext w w') : OptPost none w (.returned (.tuple #[.slice none 0 0, .bool false])) w' := ⟨Option.none, 0, 0, rfl, own_nil _ _ _ _, he⟩
theorem OptPost.empty {w w' : World} (he : Ext w w') : OptPost Option.none w (.returned (.tuple #[.slice (some ⟨w'.heap.size, 0, Option.none⟩) 0 0, .bool false])) (w'.alloc (.cells #[] 3)) := ⟨_, 0, 0, rfl, own_empty _ _ _ _ he.size, he.alloc _⟩
theorem OptPost.some {w w' : World} {A : Option Addr} {n c : Nat} {l : List Int} (ho : w'.ownsRow w.heap.size 3 1 (.slice A n c) n (ints l)) (he : Ext w w') : OptPost (some l) w (.returned (.tuple #[.slice A n c, .bool true])) w' := ⟨A, n, c, rfl, ho, he⟩
theorem OptPost.row {w w0 w' : World} {R : Option (List Int)} {e : Ending} (h : OptPost R w0 e w') (he : Ext w w0) : OptPost R w e w' := by
  obtain ⟨A, m, c, h1, h2, h3⟩ := h
  exact ⟨A, m, c, h1, own_low' h2 he.size, he.trans h3⟩
end Go.Proofs.Ytekggbmpogmlcaa
