/-
  PROVED: the size of a Rule, by computation.
-/
import Derived.Test.YtcolkidnjojlmaaData
import Derived.Test.YtcolkidnjojlmaaChecked
namespace Go.Proofs.Ytcolkidnjojlmaa
open Go.RowKit

theorem info_Rule : (Try.prog.info? 208).map (fun i => (i.zero, i.size, i.bytes)) = some (some (.agg #[.int .i64 0, .int .i64 0, .int .i64 0]), 3, 24) := by kernel_rfl

end Go.Proofs.Ytcolkidnjojlmaa
