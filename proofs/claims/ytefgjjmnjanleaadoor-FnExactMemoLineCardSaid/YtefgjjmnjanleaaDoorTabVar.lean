/-
  PROVED: closed facts on the library's table of powers in this seat's program.
-/
import Derived.Test.YtefgjjmnjanleaaDoorText
namespace Go.Proofs.YtefgjjmnjanleaaDoor
theorem tab_global : Tryd.prog.globalNamed "internal/strconv.uint64pow10" = some 1 := by kernel_rfl
theorem tab_type : (Tryd.prog.globals[1]?).map (·.type) = some 162 := by kernel_rfl
end Go.Proofs.YtefgjjmnjanleaaDoor
