/-
  PROVED: the size of a Rule, by computation.
-/
import Derived.Test.YthffgbhphjkdeaaDoorData
import Derived.Test.YthffgbhphjkdeaaDoorChecked
namespace Go.Proofs.YthffgbhphjkdeaaDoor
open Go.RowKit

theorem info_Rule : (Tryd.prog.info? 127).map (fun i => (i.zero, i.size, i.bytes)) = some (some (.agg #[.int .i64 0, .int .i64 0, .int .i64 0]), 3, 24) := by kernel_rfl

end Go.Proofs.YthffgbhphjkdeaaDoor
