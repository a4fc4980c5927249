/-
  PROVED: closed facts on the library's table of powers in this seat's program.
-/
import Derived.Test.YtcolkidnjojlmaaDoorText
namespace Go.Proofs.YtcolkidnjojlmaaDoor
theorem tab_global : Tryd.prog.globalNamed "internal/strconv.uint64pow10" = some 3 := by kernel_rfl
theorem tab_type : (Tryd.prog.globals[3]?).map (·.type) = some 203 := by kernel_rfl
end Go.Proofs.YtcolkidnjojlmaaDoor
