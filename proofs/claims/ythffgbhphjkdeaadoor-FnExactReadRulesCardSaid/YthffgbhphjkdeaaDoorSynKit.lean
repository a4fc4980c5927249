/-
  PROVED: where the library's syntax error lies, as a door's frame asks it. No condition.
-/
import Derived.Test.YthffgbhphjkdeaaDoorDoorKit
import Derived.Test.YthffgbhphjkdeaaDoorReadDec
namespace Go.Proofs.YthffgbhphjkdeaaDoor
open Go.RowKit

theorem syn_global : Tryd.prog.globalNamed "strconv.ErrSyntax" = some 1 := by kernel_rfl
theorem syn_type : (Tryd.prog.globals[1]?).map (·.type) = some 166 := by kernel_rfl
theorem syn_star : "*" ++ "errors.errorString" = "*errors.errorString" := by decide
theorem syn_row (u : TypeId) (h : Tryd.prog.typeName? 3 u = some "*errors.errorString") : u = 236 :=
  typeName_ptr_named (nm := "errors.errorString") (by rw [syn_star]; kernel_rfl) (by kernel_rfl) (by decide) u (by rw [syn_star]; exact h)
theorem syn_cells : Tryd.prog.cellsOf 238 = 1 := by kernel_rfl
theorem syn_cell : Tryd.prog.cellsOf 9 = 1 := by kernel_rfl
end Go.Proofs.YthffgbhphjkdeaaDoor
