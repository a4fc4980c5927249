/-
  PROVED: the size of a Rule, by computation.
-/
import Derived.Test.YtefgjjmnjanleaaDoorData
import Derived.Test.YtefgjjmnjanleaaDoorChecked
namespace Go.Proofs.YtefgjjmnjanleaaDoor
open Go.RowKit

theorem info_Rule : (Tryd.prog.info? 92).map (fun i => (i.zero, i.size, i.bytes)) = some (some (.agg #[.int .i64 0, .int .i64 0, .int .i64 0]), 3, 24) := by kernel_rfl

end Go.Proofs.YtefgjjmnjanleaaDoor
