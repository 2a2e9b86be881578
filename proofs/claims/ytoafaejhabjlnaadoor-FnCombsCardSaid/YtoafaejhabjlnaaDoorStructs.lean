/- Structs of one-cell fields: made by wip/structs.py. -/
import Derived.Test.YtoafaejhabjlnaaDoorOpen
import Derived.Test.YtoafaejhabjlnaaDoorProg
namespace Go.Proofs.YtoafaejhabjlnaaDoor
open Go.ChangeShapes Go.WideShapes Go.RowKit Go.Deep
set_option linter.unusedVariables false
set_option linter.unusedSimpArgs false
set_option maxRecDepth 100000
section
variable {H : Type} {enc : TypeId × Value → H} {w : World} {base : Nat} {spare : Nat → Bool} {held : Bool}






end
end Go.Proofs.YtoafaejhabjlnaaDoor
