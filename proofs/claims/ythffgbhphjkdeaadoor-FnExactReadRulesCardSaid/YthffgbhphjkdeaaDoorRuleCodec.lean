/-
  PROVED: contracts of the exact laws' functions at one Rule: copy, comparison. No condition.
-/
import Derived.Test.YthffgbhphjkdeaaDoorRuleInfo
import Derived.Test.YthffgbhphjkdeaaDoorChecked
import Derived.Deep.RegionHeld3
import Derived.Deep.QuietTactic
import Derived.BigQuiet
import Derived.Outline
import Derived.StillTailTactics
import Derived.WalkLawsBesides
namespace Go.Proofs.YthffgbhphjkdeaaDoor
open Go.RowKit

theorem toRule_any (x : Rule) (w : World) : Calls Tryd.prog 164 #[.agg #[.int .i64 x.room, .int .i64 x.wide, .int .i64 x.high]] w fun e w' => e = .returned (.agg #[.int .i64 x.room, .int .i64 x.wide, .int .i64 x.high]) ∧ Mod (fun _ => False) w w' := by
  go_enter Tryd.func164, Tryd.ntmps164
  go_wp2
  refine bodyPost_ret (v := .agg #[.int .i64 x.room, .int .i64 x.wide, .int .i64 x.high]) (by simp [results, Tryd.results164, go_sem]) rfl ⟨rfl, by (repeat (first | with_reducible exact Mod.refl _ _ | with_reducible refine Mod.drewN ?_ _ | with_reducible refine Mod.drew ?_ | with_reducible refine Mod.alloc ?_ _ | ((with_reducible refine Mod.setNew ?_ ?_ _ _ _); (rotate_left; omega)) | with_reducible refine Mod.setAt ?_ _ _ _ ))⟩

set_option maxHeartbeats 1000000 in
theorem eqRule_any (x y : Rule) (w : World) : Calls Tryd.prog 138 #[.agg #[.int .i64 x.room, .int .i64 x.wide, .int .i64 x.high], .agg #[.int .i64 y.room, .int .i64 y.wide, .int .i64 y.high]] w fun e w' => e = .returned (.bool (decide (x = y))) ∧ Mod (fun _ => False) w w' := by
  obtain ⟨x0, x1, x2⟩ := x
  obtain ⟨y0, y1, y2⟩ := y
  go_enter Tryd.func138, Tryd.ntmps138
  go_wp2
  all_goals
    go_ret
    refine ⟨ret_bool ?_, by (repeat (first | with_reducible exact Mod.refl _ _ | with_reducible refine Mod.drewN ?_ _ | with_reducible refine Mod.drew ?_ | with_reducible refine Mod.alloc ?_ _ | ((with_reducible refine Mod.setNew ?_ ?_ _ _ _); (rotate_left; omega)) | with_reducible refine Mod.setAt ?_ _ _ _ ))⟩
    simp_all


end Go.Proofs.YthffgbhphjkdeaaDoor
