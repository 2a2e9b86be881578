/- slices.BinarySearchFunc at bans. -/
import Derived.Test.YtekggbmpogmlcaaDoorAddP
namespace Go.Proofs.YtekggbmpogmlcaaDoor
open Go.RowKit
set_option linter.unusedVariables false
set_option linter.unusedSimpArgs false
attribute [local go_sem] ExtOf.cell

end Go.Proofs.YtekggbmpogmlcaaDoor
