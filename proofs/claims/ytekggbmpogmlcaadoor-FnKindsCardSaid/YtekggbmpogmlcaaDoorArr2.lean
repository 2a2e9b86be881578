/- Lists of arrays of 2 numbers: equality, marks (made by wip/arrs.py). -/
import Derived.Test.YtekggbmpogmlcaaDoorIntS
import Derived.Test.YtekggbmpogmlcaaDoorIdx
namespace Go.Proofs.YtekggbmpogmlcaaDoor
open Go.RowKit
set_option linter.unusedVariables false
set_option linter.unusedSimpArgs false
attribute [local go_sem] ExtOf.cell

end Go.Proofs.YtekggbmpogmlcaaDoor
