/- The law of AreRates. -/
import Derived.Test.YtopjomkjdmcljaaRateW
namespace Go.Proofs.Ytopjomkjdmcljaa
open Go.RowKit
set_option linter.unusedVariables false
set_option linter.unusedSimpArgs false
attribute [local go_sem] ExtOf.cell



end Go.Proofs.Ytopjomkjdmcljaa
