/- Free colors: a closure handed to the library's search. -/
import Derived.Test.YtekfccfghmggmaaShadeN
import Derived.Test.YtekfccfghmggmaaFirst
namespace Go.Proofs.Ytekfccfghmggmaa
open Go.RowKit
set_option linter.unusedVariables false
set_option linter.unusedSimpArgs false
attribute [local go_sem] ExtOf.cell


end Go.Proofs.Ytekfccfghmggmaa
