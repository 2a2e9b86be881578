/- The law of IsTimetable (made by wip/mailsv.py). -/
import Derived.Test.YtmgpdenofkloeaaDoorMailW
namespace Go.Proofs.YtmgpdenofkloeaaDoor
open Go.RowKit
set_option linter.unusedVariables false
set_option linter.unusedSimpArgs false
attribute [local go_sem] ExtOf.cell



end Go.Proofs.YtmgpdenofkloeaaDoor
