/-
  PROVED: contracts of the exact laws' own functions at Asked: toAskedS copies, eqAskedS compares, szAskedS counts. No condition.
-/
import Derived.Test.YtcolkidnjojlmaaDoorSpaceCodec
import Derived.Test.YtcolkidnjojlmaaDoorChecked
import Derived.Deep.RegionHeld3
import Derived.Deep.QuietTactic
import Derived.BigQuiet
import Derived.Outline
import Derived.StillTailTactics
import Derived.WalkLawsBesides
namespace Go.Proofs.YtcolkidnjojlmaaDoor
open Go.RowKit

theorem toAsked_any (x : Asked) (w : World) : Calls Tryd.prog 90 #[.agg #[.int .i64 x.node, .int .i64 x.wide.mode, .int .i64 x.wide.n, .int .i64 x.high.mode, .int .i64 x.high.n, .bool x.rtl]] w fun e w' => e = .returned (.agg #[.int .i64 x.node, .int .i64 x.wide.mode, .int .i64 x.wide.n, .int .i64 x.high.mode, .int .i64 x.high.n, .bool x.rtl]) ∧ Mod (fun _ => False) w w' := by
  go_enter Tryd.func90, Tryd.ntmps90
  go_wp2_with fail
  refine (toSpace_any ⟨_, _⟩ _).mono ?_
  rintro e w1 ⟨rfl, hm1⟩
  obtain ⟨hq1, hz1⟩ := mcell hm1
  have hs1 := hm1.size
  simp only [World.size_alloc] at hs1
  have hr0 : w.heap.size < w1.heap.size := by omega
  have hr1 : w.heap.size + 1 < w1.heap.size := by omega
  have hr2 : w.heap.size + 1 + 1 < w1.heap.size := by omega
  go_wp2_with fail
  refine (toSpace_any ⟨_, _⟩ _).mono ?_
  rintro e w2 ⟨rfl, hm2⟩
  obtain ⟨hq2, hz2⟩ := mcell hm2
  go_wp2
  refine bodyPost_ret (v := .agg #[.int .i64 x.node, .int .i64 x.wide.mode, .int .i64 x.wide.n, .int .i64 x.high.mode, .int .i64 x.high.n, .bool x.rtl]) ?_ rfl ⟨rfl, ?_⟩
  · simp [results, Tryd.results90, go_sem, *]
  · (repeat (first | with_reducible exact Mod.refl _ _ | with_reducible refine Mod.drewN ?_ _ | with_reducible refine Mod.drew ?_ | with_reducible refine Mod.alloc ?_ _ | ((with_reducible refine Mod.setNew ?_ ?_ _ _ _); (rotate_left; omega)) | with_reducible refine Mod.setAt ?_ _ _ _ | with_reducible exact hm2 | with_reducible refine Mod.thenNone ?_ hm2 | with_reducible exact hm1 | with_reducible refine Mod.thenNone ?_ hm1 ))

set_option maxHeartbeats 1000000 in
theorem eqAsked_any (x y : Asked) (w : World) : Calls Tryd.prog 97 #[.agg #[.int .i64 x.node, .int .i64 x.wide.mode, .int .i64 x.wide.n, .int .i64 x.high.mode, .int .i64 x.high.n, .bool x.rtl], .agg #[.int .i64 y.node, .int .i64 y.wide.mode, .int .i64 y.wide.n, .int .i64 y.high.mode, .int .i64 y.high.n, .bool y.rtl]] w fun e w' => e = .returned (.bool (decide (x = y))) ∧ Mod (fun _ => False) w w' := by
  obtain ⟨x0, ⟨x1, x2⟩, ⟨x3, x4⟩, x5⟩ := x
  obtain ⟨y0, ⟨y1, y2⟩, ⟨y3, y4⟩, y5⟩ := y
  go_enter Tryd.func97, Tryd.ntmps97
  go_wp2
  all_goals
    go_ret
    refine ⟨ret_bool ?_, by (repeat (first | with_reducible exact Mod.refl _ _ | with_reducible refine Mod.drewN ?_ _ | with_reducible refine Mod.drew ?_ | with_reducible refine Mod.alloc ?_ _ | ((with_reducible refine Mod.setNew ?_ ?_ _ _ _); (rotate_left; omega)) | with_reducible refine Mod.setAt ?_ _ _ _ ))⟩
    simp_all

theorem info_Asked : (Tryd.prog.info? 135).map (fun i => (i.zero, i.size, i.bytes)) = some (some (.agg #[.int .i64 0, .int .i64 0, .int .i64 0, .int .i64 0, .int .i64 0, .bool false]), 6, 48) := by kernel_rfl

end Go.Proofs.YtcolkidnjojlmaaDoor
