/-
  PROVED: closed facts on the library's table of powers in this seat's program.
-/
import Derived.Test.YthffgbhphjkdeaaDoorText
namespace Go.Proofs.YthffgbhphjkdeaaDoor
theorem tab_global : Tryd.prog.globalNamed "internal/strconv.uint64pow10" = some 5 := by kernel_rfl
theorem tab_type : (Tryd.prog.globals[5]?).map (·.type) = some 239 := by kernel_rfl
end Go.Proofs.YthffgbhphjkdeaaDoor
