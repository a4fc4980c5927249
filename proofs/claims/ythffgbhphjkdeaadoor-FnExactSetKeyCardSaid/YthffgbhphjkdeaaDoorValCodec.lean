/-
  PROVED: contracts of the exact laws' functions at one Value: copy, comparison. No condition.
-/
import Derived.Test.YthffgbhphjkdeaaDoorData
import Derived.Test.YthffgbhphjkdeaaDoorChecked
import Derived.Deep.RegionHeld3
import Derived.Deep.QuietTactic
import Derived.BigQuiet
import Derived.Outline
import Derived.StillTailTactics
import Derived.WalkLawsBesides
namespace Go.Proofs.YthffgbhphjkdeaaDoor
open Go.RowKit

theorem toValue_any (x : Val) (w : World) : Calls Tryd.prog 16 #[.agg #[.int .i64 x.kind, .int .i64 x.n]] w fun e w' => e = .returned (.agg #[.int .i64 x.kind, .int .i64 x.n]) ∧ Mod (fun _ => False) w w' := by
  go_enter Tryd.func16, Tryd.ntmps16
  go_wp2
  refine bodyPost_ret (v := .agg #[.int .i64 x.kind, .int .i64 x.n]) (by simp [results, Tryd.results16, go_sem]) rfl ⟨rfl, by (repeat (first | with_reducible exact Mod.refl _ _ | with_reducible refine Mod.drewN ?_ _ | with_reducible refine Mod.drew ?_ | with_reducible refine Mod.alloc ?_ _ | ((with_reducible refine Mod.setNew ?_ ?_ _ _ _); (rotate_left; omega)) | with_reducible refine Mod.setAt ?_ _ _ _ ))⟩

set_option maxHeartbeats 1000000 in
theorem eqValue_any (x y : Val) (w : World) : Calls Tryd.prog 66 #[.agg #[.int .i64 x.kind, .int .i64 x.n], .agg #[.int .i64 y.kind, .int .i64 y.n]] w fun e w' => e = .returned (.bool (decide (x = y))) ∧ Mod (fun _ => False) w w' := by
  obtain ⟨x0, x1⟩ := x
  obtain ⟨y0, y1⟩ := y
  go_enter Tryd.func66, Tryd.ntmps66
  go_wp2
  all_goals
    go_ret
    refine ⟨ret_bool ?_, by (repeat (first | with_reducible exact Mod.refl _ _ | with_reducible refine Mod.drewN ?_ _ | with_reducible refine Mod.drew ?_ | with_reducible refine Mod.alloc ?_ _ | ((with_reducible refine Mod.setNew ?_ ?_ _ _ _); (rotate_left; omega)) | with_reducible refine Mod.setAt ?_ _ _ _ ))⟩
    simp_all

theorem info_Val : (Tryd.prog.info? 32).map (fun i => (i.zero, i.size, i.bytes)) = some (some (.agg #[.int .i64 0, .int .i64 0]), 2, 16) := by kernel_rfl

end Go.Proofs.YthffgbhphjkdeaaDoor
