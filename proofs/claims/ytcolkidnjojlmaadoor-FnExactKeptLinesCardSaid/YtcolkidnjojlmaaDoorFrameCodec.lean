/-
  PROVED: contracts of the exact laws' functions at one Frame: copy, comparison, reading. No condition.
-/
import Derived.Test.YtcolkidnjojlmaaDoorData
import Derived.Test.YtcolkidnjojlmaaDoorChecked
import Derived.Test.YtcolkidnjojlmaaDoorRd
import Derived.Deep.RegionHeld3
import Derived.Deep.QuietTactic
import Derived.BigQuiet
import Derived.Outline
import Derived.StillTailTactics
import Derived.WalkLawsBesides
namespace Go.Proofs.YtcolkidnjojlmaaDoor
open Go.RowKit

theorem info_Frame : (Tryd.prog.info? 161).map (fun i => (i.zero, i.size, i.bytes)) = some (some (.agg #[.int .i64 0, .int .i64 0, .int .i64 0, .int .i64 0, .int .i64 0]), 5, 40) := by kernel_rfl
set_option maxRecDepth 100000 in
theorem toFrame_any (x : Frame) (w : World) :
    Calls Tryd.prog 136 #[.agg #[.int .i64 x.node, .int .i64 x.x, .int .i64 x.y, .int .i64 x.wide, .int .i64 x.high]] w fun e w' => e = .returned (.agg #[.int .i64 x.node, .int .i64 x.x, .int .i64 x.y, .int .i64 x.wide, .int .i64 x.high]) ∧ Mod (fun _ => False) w w' := by
  go_enter Tryd.func136, Tryd.ntmps136
  go_wp2
  exact bodyPost_ret (v := .agg #[.int .i64 x.node, .int .i64 x.x, .int .i64 x.y, .int .i64 x.wide, .int .i64 x.high]) (by simp [results, Tryd.results136, go_sem]) rfl ⟨rfl, by (repeat (first | with_reducible exact Mod.refl _ _ | with_reducible refine Mod.drewN ?_ _ | with_reducible refine Mod.drew ?_ | with_reducible refine Mod.alloc ?_ _ | ((with_reducible refine Mod.setNew ?_ ?_ _ _ _); (rotate_left; omega)) | with_reducible refine Mod.setAt ?_ _ _ _ ))⟩

set_option maxHeartbeats 1000000 in
theorem eqFrame_any (x y : Frame) (w : World) : Calls Tryd.prog 143 #[.agg #[.int .i64 x.node, .int .i64 x.x, .int .i64 x.y, .int .i64 x.wide, .int .i64 x.high], .agg #[.int .i64 y.node, .int .i64 y.x, .int .i64 y.y, .int .i64 y.wide, .int .i64 y.high]] w fun e w' => e = .returned (.bool (decide (x = y))) ∧ Mod (fun _ => False) w w' := by
  obtain ⟨x0, x1, x2, x3, x4⟩ := x
  obtain ⟨y0, y1, y2, y3, y4⟩ := y
  go_enter Tryd.func143, Tryd.ntmps143
  go_wp2
  all_goals
    go_ret
    refine ⟨ret_bool ?_, by (repeat (first | with_reducible exact Mod.refl _ _ | with_reducible refine Mod.drewN ?_ _ | with_reducible refine Mod.drew ?_ | with_reducible refine Mod.alloc ?_ _ | ((with_reducible refine Mod.setNew ?_ ?_ _ _ _); (rotate_left; omega)) | with_reducible refine Mod.setAt ?_ _ _ _ ))⟩
    simp_all

/-- A frame of machine numbers. -/
def Frame.ok (x : Frame) : Prop := I64 x.node ∧ I64 x.x ∧ I64 x.y ∧ I64 x.wide ∧ I64 x.high
set_option maxRecDepth 100000 in
theorem rd_Frame {w : World} {cs : List Value} (h : Rd Tryd.prog w 188 cs) : ∃ x : Frame, cs = x.cells ∧ x.ok := by
  obtain ⟨hl, hf⟩ := h.struct Tryd.underlying188
  have hl2 : cs.length = 5 := hl.trans (by kernel_rfl)
  have c1 : Tryd.prog.cellsOf 3 = 1 := by kernel_rfl
  match cs, hl2 with
  | [q0, q1, q2, q3, q4], _ =>
    obtain ⟨n0, e0, w0⟩ := (hf 0 _ rfl).int Tryd.underlying3
    obtain ⟨n1, e1, w1⟩ := (hf 1 _ rfl).int Tryd.underlying3
    obtain ⟨n2, e2, w2⟩ := (hf 2 _ rfl).int Tryd.underlying3
    obtain ⟨n3, e3, w3⟩ := (hf 3 _ rfl).int Tryd.underlying3
    obtain ⟨n4, e4, w4⟩ := (hf 4 _ rfl).int Tryd.underlying3
    simp [c1] at e0 e1 e2 e3 e4
    exact ⟨⟨n0, n1, n2, n3, n4⟩, by simp [Frame.cells, e0, e1, e2, e3, e4], wf_i64 w0, wf_i64 w1, wf_i64 w2, wf_i64 w3, wf_i64 w4⟩

end Go.Proofs.YtcolkidnjojlmaaDoor
