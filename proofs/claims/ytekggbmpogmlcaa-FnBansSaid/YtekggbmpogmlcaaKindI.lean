/- A kind of a table: the program's check. -/
import Derived.Test.YtekggbmpogmlcaaKind
namespace Go.Proofs.Ytekggbmpogmlcaa
open Go.RowKit
set_option linter.unusedVariables false
set_option linter.unusedSimpArgs false
attribute [local go_sem] ExtOf.cell

end Go.Proofs.Ytekggbmpogmlcaa
