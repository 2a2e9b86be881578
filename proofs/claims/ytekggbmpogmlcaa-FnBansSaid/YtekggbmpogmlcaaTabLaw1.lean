/- The law of IsKindTable. -/
import Derived.Test.YtekggbmpogmlcaaTabY
import Derived.Deep.RegionHeld3
namespace Go.Proofs.Ytekggbmpogmlcaa
open Go.RowKit
set_option linter.unusedVariables false
set_option linter.unusedSimpArgs false
attribute [local go_sem] ExtOf.cell

end Go.Proofs.Ytekggbmpogmlcaa
