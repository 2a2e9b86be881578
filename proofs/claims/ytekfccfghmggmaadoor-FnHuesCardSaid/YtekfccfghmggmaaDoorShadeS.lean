/- Lists of shades: their size, their copy, whether they are valid, whether two are the same. -/
import Derived.Test.YtekfccfghmggmaaDoorShade2
import Derived.Test.YtekfccfghmggmaaDoorMem2
namespace Go.Proofs.YtekfccfghmggmaaDoor
open Go.RowKit
set_option linter.unusedVariables false
set_option linter.unusedSimpArgs false

theorem shadeInfo : (Tryd.prog.info? 33).map (fun i => (i.zero, i.size, i.bytes)) = some (some (.agg #[.string ByteArray.empty, .int .i64 0, .int .i64 0, .int .i64 0, .int .i64 0]), 5, 48) := by kernel_rfl
theorem shadeSize : (Tryd.prog.info? 33).map (·.size) = some 5 := by kernel_rfl

end Go.Proofs.YtekfccfghmggmaaDoor
