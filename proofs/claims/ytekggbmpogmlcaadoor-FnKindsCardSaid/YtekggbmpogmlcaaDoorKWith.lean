/- KindsWith: the program's and the reference's entries. -/
import Derived.Test.YtekggbmpogmlcaaDoorCount
namespace Go.Proofs.YtekggbmpogmlcaaDoor
open Go.RowKit
set_option linter.unusedVariables false
set_option linter.unusedSimpArgs false
attribute [local go_sem] ExtOf.cell

def traitOk (ss : List Int) (tr v : Int) : Bool := inB tr 0 ((ss.length : Int) - 1) && inB v 0 (sizeAt ss tr - 1)
def askW (ss : List Int) (bs : List Ban) (tr v : Int) : Bool := TabOk ss bs && traitOk ss tr v
def withR (ss : List Int) (bs : List Ban) (tr v : Int) : Int := if askW ss bs tr v then (((frees ss bs).filter (withQ tr v)).length : Nat) else 0
theorem withR_yes {ss : List Int} {bs : List Ban} {tr v : Int} (h : askW ss bs tr v = true) : withR ss bs tr v = (((frees ss bs).filter (withQ tr v)).length : Nat) := by unfold withR; rw [if_pos h]
theorem withR_no {ss : List Int} {bs : List Ban} {tr v : Int} (h : askW ss bs tr v = false) : withR ss bs tr v = 0 := by unfold withR; rw [h]; rfl
end Go.Proofs.YtekggbmpogmlcaaDoor
