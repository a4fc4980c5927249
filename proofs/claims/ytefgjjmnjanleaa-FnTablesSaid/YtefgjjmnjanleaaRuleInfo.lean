/-
  PROVED: the size of a Rule, by computation.
-/
import Derived.Test.YtefgjjmnjanleaaData
import Derived.Test.YtefgjjmnjanleaaChecked
namespace Go.Proofs.Ytefgjjmnjanleaa
open Go.RowKit

theorem info_Rule : (Try.prog.info? 32).map (fun i => (i.zero, i.size, i.bytes)) = some (some (.agg #[.int .i64 0, .int .i64 0, .int .i64 0]), 3, 24) := by kernel_rfl

end Go.Proofs.Ytefgjjmnjanleaa
