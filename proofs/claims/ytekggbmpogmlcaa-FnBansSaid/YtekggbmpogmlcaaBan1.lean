/- A Ban by value (made by wip/lists.py). -/
import Derived.Test.YtekggbmpogmlcaaSmall
import Derived.Test.YtekggbmpogmlcaaStructs
namespace Go.Proofs.Ytekggbmpogmlcaa
open Go.RowKit
set_option linter.unusedVariables false
set_option linter.unusedSimpArgs false
attribute [local go_sem] ExtOf.cell

end Go.Proofs.Ytekggbmpogmlcaa
