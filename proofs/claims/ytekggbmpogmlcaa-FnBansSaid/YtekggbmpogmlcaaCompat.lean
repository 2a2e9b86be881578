/- IsCompatible: the program's and the reference's entry. -/
import Derived.Test.YtekggbmpogmlcaaFreeI
import Derived.Test.YtekggbmpogmlcaaTabLaw1
namespace Go.Proofs.Ytekggbmpogmlcaa
open Go.RowKit
set_option linter.unusedVariables false
set_option linter.unusedSimpArgs false
attribute [local go_sem] ExtOf.cell

def compP (ss : List Int) (bs : List Ban) (ks : List Int) : Bool := TabOk ss bs && KindOk ss ks
def compQ (ss : List Int) (bs : List Ban) (ks : List Int) : Bool := compP ss bs ks && freeOf bs ks
end Go.Proofs.Ytekggbmpogmlcaa
