/-
  PROVED: the exact laws' copy of a style. No condition.
-/
import Derived.Test.YthffgbhphjkdeaaDoorStyleRow
namespace Go.Proofs.YthffgbhphjkdeaaDoor
open Go.RowKit

set_option maxRecDepth 100000 in
set_option maxHeartbeats 8000000 in
theorem toStyle_any (x : Style) (w : World) : Calls Tryd.prog 10 #[.agg #[.int .i64 x.dir, .int .i64 x.wrap, .int .i64 x.justify, .int .i64 x.items, .int .i64 x.self, .int .i64 x.content, .bool x.apart, .bool x.hidden, .int .i64 x.order, .int .i64 x.grow, .int .i64 x.shrink, .int .i64 x.basis.kind, .int .i64 x.basis.n, .int .i64 x.width.kind, .int .i64 x.width.n, .int .i64 x.height.kind, .int .i64 x.height.n, .int .i64 x.minWidth.kind, .int .i64 x.minWidth.n, .int .i64 x.minHeight.kind, .int .i64 x.minHeight.n, .int .i64 x.maxWidth.kind, .int .i64 x.maxWidth.n, .int .i64 x.maxHeight.kind, .int .i64 x.maxHeight.n, .int .i64 x.ratio, .int .i64 x.margin.left.kind, .int .i64 x.margin.left.n, .int .i64 x.margin.top.kind, .int .i64 x.margin.top.n, .int .i64 x.margin.right.kind, .int .i64 x.margin.right.n, .int .i64 x.margin.bottom.kind, .int .i64 x.margin.bottom.n, .int .i64 x.margin.start.kind, .int .i64 x.margin.start.n, .int .i64 x.margin.stop.kind, .int .i64 x.margin.stop.n, .int .i64 x.inset.left.kind, .int .i64 x.inset.left.n, .int .i64 x.inset.top.kind, .int .i64 x.inset.top.n, .int .i64 x.inset.right.kind, .int .i64 x.inset.right.n, .int .i64 x.inset.bottom.kind, .int .i64 x.inset.bottom.n, .int .i64 x.inset.start.kind, .int .i64 x.inset.start.n, .int .i64 x.inset.stop.kind, .int .i64 x.inset.stop.n, .int .i64 x.pad.left, .int .i64 x.pad.top, .int .i64 x.pad.right, .int .i64 x.pad.bottom, .int .i64 x.border.left, .int .i64 x.border.top, .int .i64 x.border.right, .int .i64 x.border.bottom, .int .i64 x.rowGap, .int .i64 x.colGap]] w fun e w' => e = .returned (.agg #[.int .i64 x.dir, .int .i64 x.wrap, .int .i64 x.justify, .int .i64 x.items, .int .i64 x.self, .int .i64 x.content, .bool x.apart, .bool x.hidden, .int .i64 x.order, .int .i64 x.grow, .int .i64 x.shrink, .int .i64 x.basis.kind, .int .i64 x.basis.n, .int .i64 x.width.kind, .int .i64 x.width.n, .int .i64 x.height.kind, .int .i64 x.height.n, .int .i64 x.minWidth.kind, .int .i64 x.minWidth.n, .int .i64 x.minHeight.kind, .int .i64 x.minHeight.n, .int .i64 x.maxWidth.kind, .int .i64 x.maxWidth.n, .int .i64 x.maxHeight.kind, .int .i64 x.maxHeight.n, .int .i64 x.ratio, .int .i64 x.margin.left.kind, .int .i64 x.margin.left.n, .int .i64 x.margin.top.kind, .int .i64 x.margin.top.n, .int .i64 x.margin.right.kind, .int .i64 x.margin.right.n, .int .i64 x.margin.bottom.kind, .int .i64 x.margin.bottom.n, .int .i64 x.margin.start.kind, .int .i64 x.margin.start.n, .int .i64 x.margin.stop.kind, .int .i64 x.margin.stop.n, .int .i64 x.inset.left.kind, .int .i64 x.inset.left.n, .int .i64 x.inset.top.kind, .int .i64 x.inset.top.n, .int .i64 x.inset.right.kind, .int .i64 x.inset.right.n, .int .i64 x.inset.bottom.kind, .int .i64 x.inset.bottom.n, .int .i64 x.inset.start.kind, .int .i64 x.inset.start.n, .int .i64 x.inset.stop.kind, .int .i64 x.inset.stop.n, .int .i64 x.pad.left, .int .i64 x.pad.top, .int .i64 x.pad.right, .int .i64 x.pad.bottom, .int .i64 x.border.left, .int .i64 x.border.top, .int .i64 x.border.right, .int .i64 x.border.bottom, .int .i64 x.rowGap, .int .i64 x.colGap]) ∧ Mod (fun _ => False) w w' := by
  go_enter Tryd.func10, Tryd.ntmps10
  go_wp2_with fail
  refine (toValue_any x.basis _).mono ?_
  rintro e w1 ⟨rfl, hm1⟩
  have hM1 : Mod (fun _ => False) w w1 := by (repeat (first | with_reducible exact Mod.refl _ _ | with_reducible refine Mod.drewN ?_ _ | with_reducible refine Mod.drew ?_ | with_reducible refine Mod.alloc ?_ _ | ((with_reducible refine Mod.setNew ?_ ?_ _ _ _); (rotate_left; omega)) | with_reducible refine Mod.setAt ?_ _ _ _ | with_reducible exact hm1 | with_reducible refine Mod.thenNone ?_ hm1 ))
  have hS1 := hm1.blk (al3a _ _ _ _) (fun f => f)
  have hR1 := hm1.blk (al3b _ _ _ _) (fun f => f)
  have hD1 := hm1.blk (al3c _ _ _ _) (fun f => f)
  have c1_13 := blk_cell hS1 (j := 13) rfl
  have c1_14 := blk_cell hS1 (j := 14) rfl
  have d1_11 := blk_cell hD1 (j := 11) rfl
  have d1_12 := blk_cell hD1 (j := 12) rfl
  have z1_11 := blk_free hD1 11
  have z1_12 := blk_free hD1 12
  have hr1_0 : w.heap.size < w1.heap.size := (Array.getElem?_eq_some_iff.1 hS1).1
  have hr1_1 : w.heap.size + 1 < w1.heap.size := (Array.getElem?_eq_some_iff.1 hR1).1
  have hr1_2 : w.heap.size + 1 + 1 < w1.heap.size := (Array.getElem?_eq_some_iff.1 hD1).1
  clear hm1
  go_wp2_with fail
  refine (toValue_any x.width _).mono ?_
  rintro e w2 ⟨rfl, hm2⟩
  have hM2 : Mod (fun _ => False) w w2 := by (repeat (first | with_reducible exact Mod.refl _ _ | with_reducible refine Mod.drewN ?_ _ | with_reducible refine Mod.drew ?_ | with_reducible refine Mod.alloc ?_ _ | ((with_reducible refine Mod.setNew ?_ ?_ _ _ _); (rotate_left; omega)) | with_reducible refine Mod.setAt ?_ _ _ _ | with_reducible exact hm2 | with_reducible refine Mod.thenNone ?_ hm2 | with_reducible exact hM1 | with_reducible refine Mod.thenNone ?_ hM1 ))
  have hS2 := hm2.blk (set_far (set_far hS1 (by omega)) (by omega)) (fun f => f)
  have hR2 := hm2.blk (set_far (set_far hR1 (by omega)) (by omega)) (fun f => f)
  have hD2 : w2.heap[w.heap.size + 1 + 1]? = some (.cells #[.int .i64 x.dir, .int .i64 x.wrap, .int .i64 x.justify, .int .i64 x.items, .int .i64 x.self, .int .i64 x.content, .bool x.apart, .bool x.hidden, .int .i64 x.order, .int .i64 x.grow, .int .i64 x.shrink, .int .i64 x.basis.kind, .int .i64 x.basis.n, .int .i64 0, .int .i64 0, .int .i64 0, .int .i64 0, .int .i64 0, .int .i64 0, .int .i64 0, .int .i64 0, .int .i64 0, .int .i64 0, .int .i64 0, .int .i64 0, .int .i64 0, .int .i64 0, .int .i64 0, .int .i64 0, .int .i64 0, .int .i64 0, .int .i64 0, .int .i64 0, .int .i64 0, .int .i64 0, .int .i64 0, .int .i64 0, .int .i64 0, .int .i64 0, .int .i64 0, .int .i64 0, .int .i64 0, .int .i64 0, .int .i64 0, .int .i64 0, .int .i64 0, .int .i64 0, .int .i64 0, .int .i64 0, .int .i64 0, .int .i64 0, .int .i64 0, .int .i64 0, .int .i64 0, .int .i64 0, .int .i64 0, .int .i64 0, .int .i64 0, .int .i64 0, .int .i64 0] 37 (0, 0)) := hm2.blk (set_in (set_in hD1)) (fun f => f)
  have c2_15 := blk_cell hS2 (j := 15) rfl
  have c2_16 := blk_cell hS2 (j := 16) rfl
  have d2_13 := blk_cell hD2 (j := 13) rfl
  have d2_14 := blk_cell hD2 (j := 14) rfl
  have z2_13 := blk_free hD2 13
  have z2_14 := blk_free hD2 14
  have hr2_0 : w.heap.size < w2.heap.size := (Array.getElem?_eq_some_iff.1 hS2).1
  have hr2_1 : w.heap.size + 1 < w2.heap.size := (Array.getElem?_eq_some_iff.1 hR2).1
  have hr2_2 : w.heap.size + 1 + 1 < w2.heap.size := (Array.getElem?_eq_some_iff.1 hD2).1
  clear hm2 hS1 hR1 hD1 hM1 hr1_0 hr1_1 hr1_2 c1_13 c1_14 d1_11 z1_11 d1_12 z1_12
  go_wp2_with fail
  refine (toValue_any x.height _).mono ?_
  rintro e w3 ⟨rfl, hm3⟩
  have hM3 : Mod (fun _ => False) w w3 := by (repeat (first | with_reducible exact Mod.refl _ _ | with_reducible refine Mod.drewN ?_ _ | with_reducible refine Mod.drew ?_ | with_reducible refine Mod.alloc ?_ _ | ((with_reducible refine Mod.setNew ?_ ?_ _ _ _); (rotate_left; omega)) | with_reducible refine Mod.setAt ?_ _ _ _ | with_reducible exact hm3 | with_reducible refine Mod.thenNone ?_ hm3 | with_reducible exact hM2 | with_reducible refine Mod.thenNone ?_ hM2 ))
  have hS3 := hm3.blk (set_far (set_far hS2 (by omega)) (by omega)) (fun f => f)
  have hR3 := hm3.blk (set_far (set_far hR2 (by omega)) (by omega)) (fun f => f)
  have hD3 : w3.heap[w.heap.size + 1 + 1]? = some (.cells #[.int .i64 x.dir, .int .i64 x.wrap, .int .i64 x.justify, .int .i64 x.items, .int .i64 x.self, .int .i64 x.content, .bool x.apart, .bool x.hidden, .int .i64 x.order, .int .i64 x.grow, .int .i64 x.shrink, .int .i64 x.basis.kind, .int .i64 x.basis.n, .int .i64 x.width.kind, .int .i64 x.width.n, .int .i64 0, .int .i64 0, .int .i64 0, .int .i64 0, .int .i64 0, .int .i64 0, .int .i64 0, .int .i64 0, .int .i64 0, .int .i64 0, .int .i64 0, .int .i64 0, .int .i64 0, .int .i64 0, .int .i64 0, .int .i64 0, .int .i64 0, .int .i64 0, .int .i64 0, .int .i64 0, .int .i64 0, .int .i64 0, .int .i64 0, .int .i64 0, .int .i64 0, .int .i64 0, .int .i64 0, .int .i64 0, .int .i64 0, .int .i64 0, .int .i64 0, .int .i64 0, .int .i64 0, .int .i64 0, .int .i64 0, .int .i64 0, .int .i64 0, .int .i64 0, .int .i64 0, .int .i64 0, .int .i64 0, .int .i64 0, .int .i64 0, .int .i64 0, .int .i64 0] 37 (0, 0)) := hm3.blk (set_in (set_in hD2)) (fun f => f)
  have c3_17 := blk_cell hS3 (j := 17) rfl
  have c3_18 := blk_cell hS3 (j := 18) rfl
  have d3_15 := blk_cell hD3 (j := 15) rfl
  have d3_16 := blk_cell hD3 (j := 16) rfl
  have z3_15 := blk_free hD3 15
  have z3_16 := blk_free hD3 16
  have hr3_0 : w.heap.size < w3.heap.size := (Array.getElem?_eq_some_iff.1 hS3).1
  have hr3_1 : w.heap.size + 1 < w3.heap.size := (Array.getElem?_eq_some_iff.1 hR3).1
  have hr3_2 : w.heap.size + 1 + 1 < w3.heap.size := (Array.getElem?_eq_some_iff.1 hD3).1
  clear hm3 hS2 hR2 hD2 hM2 hr2_0 hr2_1 hr2_2 c2_15 c2_16 d2_13 z2_13 d2_14 z2_14
  go_wp2_with fail
  refine (toValue_any x.minWidth _).mono ?_
  rintro e w4 ⟨rfl, hm4⟩
  have hM4 : Mod (fun _ => False) w w4 := by (repeat (first | with_reducible exact Mod.refl _ _ | with_reducible refine Mod.drewN ?_ _ | with_reducible refine Mod.drew ?_ | with_reducible refine Mod.alloc ?_ _ | ((with_reducible refine Mod.setNew ?_ ?_ _ _ _); (rotate_left; omega)) | with_reducible refine Mod.setAt ?_ _ _ _ | with_reducible exact hm4 | with_reducible refine Mod.thenNone ?_ hm4 | with_reducible exact hM3 | with_reducible refine Mod.thenNone ?_ hM3 ))
  have hS4 := hm4.blk (set_far (set_far hS3 (by omega)) (by omega)) (fun f => f)
  have hR4 := hm4.blk (set_far (set_far hR3 (by omega)) (by omega)) (fun f => f)
  have hD4 : w4.heap[w.heap.size + 1 + 1]? = some (.cells #[.int .i64 x.dir, .int .i64 x.wrap, .int .i64 x.justify, .int .i64 x.items, .int .i64 x.self, .int .i64 x.content, .bool x.apart, .bool x.hidden, .int .i64 x.order, .int .i64 x.grow, .int .i64 x.shrink, .int .i64 x.basis.kind, .int .i64 x.basis.n, .int .i64 x.width.kind, .int .i64 x.width.n, .int .i64 x.height.kind, .int .i64 x.height.n, .int .i64 0, .int .i64 0, .int .i64 0, .int .i64 0, .int .i64 0, .int .i64 0, .int .i64 0, .int .i64 0, .int .i64 0, .int .i64 0, .int .i64 0, .int .i64 0, .int .i64 0, .int .i64 0, .int .i64 0, .int .i64 0, .int .i64 0, .int .i64 0, .int .i64 0, .int .i64 0, .int .i64 0, .int .i64 0, .int .i64 0, .int .i64 0, .int .i64 0, .int .i64 0, .int .i64 0, .int .i64 0, .int .i64 0, .int .i64 0, .int .i64 0, .int .i64 0, .int .i64 0, .int .i64 0, .int .i64 0, .int .i64 0, .int .i64 0, .int .i64 0, .int .i64 0, .int .i64 0, .int .i64 0, .int .i64 0, .int .i64 0] 37 (0, 0)) := hm4.blk (set_in (set_in hD3)) (fun f => f)
  have c4_19 := blk_cell hS4 (j := 19) rfl
  have c4_20 := blk_cell hS4 (j := 20) rfl
  have d4_17 := blk_cell hD4 (j := 17) rfl
  have d4_18 := blk_cell hD4 (j := 18) rfl
  have z4_17 := blk_free hD4 17
  have z4_18 := blk_free hD4 18
  have hr4_0 : w.heap.size < w4.heap.size := (Array.getElem?_eq_some_iff.1 hS4).1
  have hr4_1 : w.heap.size + 1 < w4.heap.size := (Array.getElem?_eq_some_iff.1 hR4).1
  have hr4_2 : w.heap.size + 1 + 1 < w4.heap.size := (Array.getElem?_eq_some_iff.1 hD4).1
  clear hm4 hS3 hR3 hD3 hM3 hr3_0 hr3_1 hr3_2 c3_17 c3_18 d3_15 z3_15 d3_16 z3_16
  go_wp2_with fail
  refine (toValue_any x.minHeight _).mono ?_
  rintro e w5 ⟨rfl, hm5⟩
  have hM5 : Mod (fun _ => False) w w5 := by (repeat (first | with_reducible exact Mod.refl _ _ | with_reducible refine Mod.drewN ?_ _ | with_reducible refine Mod.drew ?_ | with_reducible refine Mod.alloc ?_ _ | ((with_reducible refine Mod.setNew ?_ ?_ _ _ _); (rotate_left; omega)) | with_reducible refine Mod.setAt ?_ _ _ _ | with_reducible exact hm5 | with_reducible refine Mod.thenNone ?_ hm5 | with_reducible exact hM4 | with_reducible refine Mod.thenNone ?_ hM4 ))
  have hS5 := hm5.blk (set_far (set_far hS4 (by omega)) (by omega)) (fun f => f)
  have hR5 := hm5.blk (set_far (set_far hR4 (by omega)) (by omega)) (fun f => f)
  have hD5 : w5.heap[w.heap.size + 1 + 1]? = some (.cells #[.int .i64 x.dir, .int .i64 x.wrap, .int .i64 x.justify, .int .i64 x.items, .int .i64 x.self, .int .i64 x.content, .bool x.apart, .bool x.hidden, .int .i64 x.order, .int .i64 x.grow, .int .i64 x.shrink, .int .i64 x.basis.kind, .int .i64 x.basis.n, .int .i64 x.width.kind, .int .i64 x.width.n, .int .i64 x.height.kind, .int .i64 x.height.n, .int .i64 x.minWidth.kind, .int .i64 x.minWidth.n, .int .i64 0, .int .i64 0, .int .i64 0, .int .i64 0, .int .i64 0, .int .i64 0, .int .i64 0, .int .i64 0, .int .i64 0, .int .i64 0, .int .i64 0, .int .i64 0, .int .i64 0, .int .i64 0, .int .i64 0, .int .i64 0, .int .i64 0, .int .i64 0, .int .i64 0, .int .i64 0, .int .i64 0, .int .i64 0, .int .i64 0, .int .i64 0, .int .i64 0, .int .i64 0, .int .i64 0, .int .i64 0, .int .i64 0, .int .i64 0, .int .i64 0, .int .i64 0, .int .i64 0, .int .i64 0, .int .i64 0, .int .i64 0, .int .i64 0, .int .i64 0, .int .i64 0, .int .i64 0, .int .i64 0] 37 (0, 0)) := hm5.blk (set_in (set_in hD4)) (fun f => f)
  have c5_21 := blk_cell hS5 (j := 21) rfl
  have c5_22 := blk_cell hS5 (j := 22) rfl
  have d5_19 := blk_cell hD5 (j := 19) rfl
  have d5_20 := blk_cell hD5 (j := 20) rfl
  have z5_19 := blk_free hD5 19
  have z5_20 := blk_free hD5 20
  have hr5_0 : w.heap.size < w5.heap.size := (Array.getElem?_eq_some_iff.1 hS5).1
  have hr5_1 : w.heap.size + 1 < w5.heap.size := (Array.getElem?_eq_some_iff.1 hR5).1
  have hr5_2 : w.heap.size + 1 + 1 < w5.heap.size := (Array.getElem?_eq_some_iff.1 hD5).1
  clear hm5 hS4 hR4 hD4 hM4 hr4_0 hr4_1 hr4_2 c4_19 c4_20 d4_17 z4_17 d4_18 z4_18
  go_wp2_with fail
  refine (toValue_any x.maxWidth _).mono ?_
  rintro e w6 ⟨rfl, hm6⟩
  have hM6 : Mod (fun _ => False) w w6 := by (repeat (first | with_reducible exact Mod.refl _ _ | with_reducible refine Mod.drewN ?_ _ | with_reducible refine Mod.drew ?_ | with_reducible refine Mod.alloc ?_ _ | ((with_reducible refine Mod.setNew ?_ ?_ _ _ _); (rotate_left; omega)) | with_reducible refine Mod.setAt ?_ _ _ _ | with_reducible exact hm6 | with_reducible refine Mod.thenNone ?_ hm6 | with_reducible exact hM5 | with_reducible refine Mod.thenNone ?_ hM5 ))
  have hS6 := hm6.blk (set_far (set_far hS5 (by omega)) (by omega)) (fun f => f)
  have hR6 := hm6.blk (set_far (set_far hR5 (by omega)) (by omega)) (fun f => f)
  have hD6 : w6.heap[w.heap.size + 1 + 1]? = some (.cells #[.int .i64 x.dir, .int .i64 x.wrap, .int .i64 x.justify, .int .i64 x.items, .int .i64 x.self, .int .i64 x.content, .bool x.apart, .bool x.hidden, .int .i64 x.order, .int .i64 x.grow, .int .i64 x.shrink, .int .i64 x.basis.kind, .int .i64 x.basis.n, .int .i64 x.width.kind, .int .i64 x.width.n, .int .i64 x.height.kind, .int .i64 x.height.n, .int .i64 x.minWidth.kind, .int .i64 x.minWidth.n, .int .i64 x.minHeight.kind, .int .i64 x.minHeight.n, .int .i64 0, .int .i64 0, .int .i64 0, .int .i64 0, .int .i64 0, .int .i64 0, .int .i64 0, .int .i64 0, .int .i64 0, .int .i64 0, .int .i64 0, .int .i64 0, .int .i64 0, .int .i64 0, .int .i64 0, .int .i64 0, .int .i64 0, .int .i64 0, .int .i64 0, .int .i64 0, .int .i64 0, .int .i64 0, .int .i64 0, .int .i64 0, .int .i64 0, .int .i64 0, .int .i64 0, .int .i64 0, .int .i64 0, .int .i64 0, .int .i64 0, .int .i64 0, .int .i64 0, .int .i64 0, .int .i64 0, .int .i64 0, .int .i64 0, .int .i64 0, .int .i64 0] 37 (0, 0)) := hm6.blk (set_in (set_in hD5)) (fun f => f)
  have c6_23 := blk_cell hS6 (j := 23) rfl
  have c6_24 := blk_cell hS6 (j := 24) rfl
  have d6_21 := blk_cell hD6 (j := 21) rfl
  have d6_22 := blk_cell hD6 (j := 22) rfl
  have z6_21 := blk_free hD6 21
  have z6_22 := blk_free hD6 22
  have hr6_0 : w.heap.size < w6.heap.size := (Array.getElem?_eq_some_iff.1 hS6).1
  have hr6_1 : w.heap.size + 1 < w6.heap.size := (Array.getElem?_eq_some_iff.1 hR6).1
  have hr6_2 : w.heap.size + 1 + 1 < w6.heap.size := (Array.getElem?_eq_some_iff.1 hD6).1
  clear hm6 hS5 hR5 hD5 hM5 hr5_0 hr5_1 hr5_2 c5_21 c5_22 d5_19 z5_19 d5_20 z5_20
  go_wp2_with fail
  refine (toValue_any x.maxHeight _).mono ?_
  rintro e w7 ⟨rfl, hm7⟩
  have hM7 : Mod (fun _ => False) w w7 := by (repeat (first | with_reducible exact Mod.refl _ _ | with_reducible refine Mod.drewN ?_ _ | with_reducible refine Mod.drew ?_ | with_reducible refine Mod.alloc ?_ _ | ((with_reducible refine Mod.setNew ?_ ?_ _ _ _); (rotate_left; omega)) | with_reducible refine Mod.setAt ?_ _ _ _ | with_reducible exact hm7 | with_reducible refine Mod.thenNone ?_ hm7 | with_reducible exact hM6 | with_reducible refine Mod.thenNone ?_ hM6 ))
  have hS7 := hm7.blk (set_far (set_far hS6 (by omega)) (by omega)) (fun f => f)
  have hR7 := hm7.blk (set_far (set_far hR6 (by omega)) (by omega)) (fun f => f)
  have hD7 : w7.heap[w.heap.size + 1 + 1]? = some (.cells #[.int .i64 x.dir, .int .i64 x.wrap, .int .i64 x.justify, .int .i64 x.items, .int .i64 x.self, .int .i64 x.content, .bool x.apart, .bool x.hidden, .int .i64 x.order, .int .i64 x.grow, .int .i64 x.shrink, .int .i64 x.basis.kind, .int .i64 x.basis.n, .int .i64 x.width.kind, .int .i64 x.width.n, .int .i64 x.height.kind, .int .i64 x.height.n, .int .i64 x.minWidth.kind, .int .i64 x.minWidth.n, .int .i64 x.minHeight.kind, .int .i64 x.minHeight.n, .int .i64 x.maxWidth.kind, .int .i64 x.maxWidth.n, .int .i64 0, .int .i64 0, .int .i64 0, .int .i64 0, .int .i64 0, .int .i64 0, .int .i64 0, .int .i64 0, .int .i64 0, .int .i64 0, .int .i64 0, .int .i64 0, .int .i64 0, .int .i64 0, .int .i64 0, .int .i64 0, .int .i64 0, .int .i64 0, .int .i64 0, .int .i64 0, .int .i64 0, .int .i64 0, .int .i64 0, .int .i64 0, .int .i64 0, .int .i64 0, .int .i64 0, .int .i64 0, .int .i64 0, .int .i64 0, .int .i64 0, .int .i64 0, .int .i64 0, .int .i64 0, .int .i64 0, .int .i64 0, .int .i64 0] 37 (0, 0)) := hm7.blk (set_in (set_in hD6)) (fun f => f)
  have c7_25 := blk_cell hS7 (j := 25) rfl
  have c7_26 := blk_cell hS7 (j := 26) rfl
  have c7_27 := blk_cell hS7 (j := 27) rfl
  have c7_28 := blk_cell hS7 (j := 28) rfl
  have c7_29 := blk_cell hS7 (j := 29) rfl
  have c7_30 := blk_cell hS7 (j := 30) rfl
  have c7_31 := blk_cell hS7 (j := 31) rfl
  have c7_32 := blk_cell hS7 (j := 32) rfl
  have c7_33 := blk_cell hS7 (j := 33) rfl
  have c7_34 := blk_cell hS7 (j := 34) rfl
  have c7_35 := blk_cell hS7 (j := 35) rfl
  have c7_36 := blk_cell hS7 (j := 36) rfl
  have c7_37 := blk_cell hS7 (j := 37) rfl
  have d7_23 := blk_cell hD7 (j := 23) rfl
  have d7_24 := blk_cell hD7 (j := 24) rfl
  have d7_25 := blk_cell hD7 (j := 25) rfl
  have z7_23 := blk_free hD7 23
  have z7_24 := blk_free hD7 24
  have z7_25 := blk_free hD7 25
  have hr7_0 : w.heap.size < w7.heap.size := (Array.getElem?_eq_some_iff.1 hS7).1
  have hr7_1 : w.heap.size + 1 < w7.heap.size := (Array.getElem?_eq_some_iff.1 hR7).1
  have hr7_2 : w.heap.size + 1 + 1 < w7.heap.size := (Array.getElem?_eq_some_iff.1 hD7).1
  clear hm7 hS6 hR6 hD6 hM6 hr6_0 hr6_1 hr6_2 c6_23 c6_24 d6_21 z6_21 d6_22 z6_22
  go_wp2_with fail
  refine (toSides_any x.margin _).mono ?_
  rintro e w8 ⟨rfl, hm8⟩
  have hM8 : Mod (fun _ => False) w w8 := by (repeat (first | with_reducible exact Mod.refl _ _ | with_reducible refine Mod.drewN ?_ _ | with_reducible refine Mod.drew ?_ | with_reducible refine Mod.alloc ?_ _ | ((with_reducible refine Mod.setNew ?_ ?_ _ _ _); (rotate_left; omega)) | with_reducible refine Mod.setAt ?_ _ _ _ | with_reducible exact hm8 | with_reducible refine Mod.thenNone ?_ hm8 | with_reducible exact hM7 | with_reducible refine Mod.thenNone ?_ hM7 ))
  have hS8 := hm8.blk (set_far (set_far (set_far hS7 (by omega)) (by omega)) (by omega)) (fun f => f)
  have hR8 := hm8.blk (set_far (set_far (set_far hR7 (by omega)) (by omega)) (by omega)) (fun f => f)
  have hD8 : w8.heap[w.heap.size + 1 + 1]? = some (.cells #[.int .i64 x.dir, .int .i64 x.wrap, .int .i64 x.justify, .int .i64 x.items, .int .i64 x.self, .int .i64 x.content, .bool x.apart, .bool x.hidden, .int .i64 x.order, .int .i64 x.grow, .int .i64 x.shrink, .int .i64 x.basis.kind, .int .i64 x.basis.n, .int .i64 x.width.kind, .int .i64 x.width.n, .int .i64 x.height.kind, .int .i64 x.height.n, .int .i64 x.minWidth.kind, .int .i64 x.minWidth.n, .int .i64 x.minHeight.kind, .int .i64 x.minHeight.n, .int .i64 x.maxWidth.kind, .int .i64 x.maxWidth.n, .int .i64 x.maxHeight.kind, .int .i64 x.maxHeight.n, .int .i64 x.ratio, .int .i64 0, .int .i64 0, .int .i64 0, .int .i64 0, .int .i64 0, .int .i64 0, .int .i64 0, .int .i64 0, .int .i64 0, .int .i64 0, .int .i64 0, .int .i64 0, .int .i64 0, .int .i64 0, .int .i64 0, .int .i64 0, .int .i64 0, .int .i64 0, .int .i64 0, .int .i64 0, .int .i64 0, .int .i64 0, .int .i64 0, .int .i64 0, .int .i64 0, .int .i64 0, .int .i64 0, .int .i64 0, .int .i64 0, .int .i64 0, .int .i64 0, .int .i64 0, .int .i64 0, .int .i64 0] 37 (0, 0)) := hm8.blk (set_in (set_in (set_in hD7))) (fun f => f)
  have c8_38 := blk_cell hS8 (j := 38) rfl
  have c8_39 := blk_cell hS8 (j := 39) rfl
  have c8_40 := blk_cell hS8 (j := 40) rfl
  have c8_41 := blk_cell hS8 (j := 41) rfl
  have c8_42 := blk_cell hS8 (j := 42) rfl
  have c8_43 := blk_cell hS8 (j := 43) rfl
  have c8_44 := blk_cell hS8 (j := 44) rfl
  have c8_45 := blk_cell hS8 (j := 45) rfl
  have c8_46 := blk_cell hS8 (j := 46) rfl
  have c8_47 := blk_cell hS8 (j := 47) rfl
  have c8_48 := blk_cell hS8 (j := 48) rfl
  have c8_49 := blk_cell hS8 (j := 49) rfl
  have d8_26 := blk_cell hD8 (j := 26) rfl
  have d8_27 := blk_cell hD8 (j := 27) rfl
  have d8_28 := blk_cell hD8 (j := 28) rfl
  have d8_29 := blk_cell hD8 (j := 29) rfl
  have d8_30 := blk_cell hD8 (j := 30) rfl
  have d8_31 := blk_cell hD8 (j := 31) rfl
  have d8_32 := blk_cell hD8 (j := 32) rfl
  have d8_33 := blk_cell hD8 (j := 33) rfl
  have d8_34 := blk_cell hD8 (j := 34) rfl
  have d8_35 := blk_cell hD8 (j := 35) rfl
  have d8_36 := blk_cell hD8 (j := 36) rfl
  have d8_37 := blk_cell hD8 (j := 37) rfl
  have z8_26 := blk_free hD8 26
  have z8_27 := blk_free hD8 27
  have z8_28 := blk_free hD8 28
  have z8_29 := blk_free hD8 29
  have z8_30 := blk_free hD8 30
  have z8_31 := blk_free hD8 31
  have z8_32 := blk_free hD8 32
  have z8_33 := blk_free hD8 33
  have z8_34 := blk_free hD8 34
  have z8_35 := blk_free hD8 35
  have z8_36 := blk_free hD8 36
  have z8_37 := blk_free hD8 37
  have hr8_0 : w.heap.size < w8.heap.size := (Array.getElem?_eq_some_iff.1 hS8).1
  have hr8_1 : w.heap.size + 1 < w8.heap.size := (Array.getElem?_eq_some_iff.1 hR8).1
  have hr8_2 : w.heap.size + 1 + 1 < w8.heap.size := (Array.getElem?_eq_some_iff.1 hD8).1
  clear hm8 hS7 hR7 hD7 hM7 hr7_0 hr7_1 hr7_2 c7_25 c7_26 c7_27 c7_28 c7_29 c7_30 c7_31 c7_32 c7_33 c7_34 c7_35 c7_36 c7_37 d7_23 z7_23 d7_24 z7_24 d7_25 z7_25
  go_wp2_with fail
  refine (toSides_any x.inset _).mono ?_
  rintro e w9 ⟨rfl, hm9⟩
  have hM9 : Mod (fun _ => False) w w9 := by (repeat (first | with_reducible exact Mod.refl _ _ | with_reducible refine Mod.drewN ?_ _ | with_reducible refine Mod.drew ?_ | with_reducible refine Mod.alloc ?_ _ | ((with_reducible refine Mod.setNew ?_ ?_ _ _ _); (rotate_left; omega)) | with_reducible refine Mod.setAt ?_ _ _ _ | with_reducible exact hm9 | with_reducible refine Mod.thenNone ?_ hm9 | with_reducible exact hM8 | with_reducible refine Mod.thenNone ?_ hM8 ))
  have hS9 := hm9.blk (set_far (set_far (set_far (set_far (set_far (set_far (set_far (set_far (set_far (set_far (set_far (set_far hS8 (by omega)) (by omega)) (by omega)) (by omega)) (by omega)) (by omega)) (by omega)) (by omega)) (by omega)) (by omega)) (by omega)) (by omega)) (fun f => f)
  have hR9 := hm9.blk (set_far (set_far (set_far (set_far (set_far (set_far (set_far (set_far (set_far (set_far (set_far (set_far hR8 (by omega)) (by omega)) (by omega)) (by omega)) (by omega)) (by omega)) (by omega)) (by omega)) (by omega)) (by omega)) (by omega)) (by omega)) (fun f => f)
  have hD9 : w9.heap[w.heap.size + 1 + 1]? = some (.cells #[.int .i64 x.dir, .int .i64 x.wrap, .int .i64 x.justify, .int .i64 x.items, .int .i64 x.self, .int .i64 x.content, .bool x.apart, .bool x.hidden, .int .i64 x.order, .int .i64 x.grow, .int .i64 x.shrink, .int .i64 x.basis.kind, .int .i64 x.basis.n, .int .i64 x.width.kind, .int .i64 x.width.n, .int .i64 x.height.kind, .int .i64 x.height.n, .int .i64 x.minWidth.kind, .int .i64 x.minWidth.n, .int .i64 x.minHeight.kind, .int .i64 x.minHeight.n, .int .i64 x.maxWidth.kind, .int .i64 x.maxWidth.n, .int .i64 x.maxHeight.kind, .int .i64 x.maxHeight.n, .int .i64 x.ratio, .int .i64 x.margin.left.kind, .int .i64 x.margin.left.n, .int .i64 x.margin.top.kind, .int .i64 x.margin.top.n, .int .i64 x.margin.right.kind, .int .i64 x.margin.right.n, .int .i64 x.margin.bottom.kind, .int .i64 x.margin.bottom.n, .int .i64 x.margin.start.kind, .int .i64 x.margin.start.n, .int .i64 x.margin.stop.kind, .int .i64 x.margin.stop.n, .int .i64 0, .int .i64 0, .int .i64 0, .int .i64 0, .int .i64 0, .int .i64 0, .int .i64 0, .int .i64 0, .int .i64 0, .int .i64 0, .int .i64 0, .int .i64 0, .int .i64 0, .int .i64 0, .int .i64 0, .int .i64 0, .int .i64 0, .int .i64 0, .int .i64 0, .int .i64 0, .int .i64 0, .int .i64 0] 37 (0, 0)) := hm9.blk (set_in (set_in (set_in (set_in (set_in (set_in (set_in (set_in (set_in (set_in (set_in (set_in hD8)))))))))))) (fun f => f)
  have c9_50 := blk_cell hS9 (j := 50) rfl
  have c9_51 := blk_cell hS9 (j := 51) rfl
  have c9_52 := blk_cell hS9 (j := 52) rfl
  have c9_53 := blk_cell hS9 (j := 53) rfl
  have d9_38 := blk_cell hD9 (j := 38) rfl
  have d9_39 := blk_cell hD9 (j := 39) rfl
  have d9_40 := blk_cell hD9 (j := 40) rfl
  have d9_41 := blk_cell hD9 (j := 41) rfl
  have d9_42 := blk_cell hD9 (j := 42) rfl
  have d9_43 := blk_cell hD9 (j := 43) rfl
  have d9_44 := blk_cell hD9 (j := 44) rfl
  have d9_45 := blk_cell hD9 (j := 45) rfl
  have d9_46 := blk_cell hD9 (j := 46) rfl
  have d9_47 := blk_cell hD9 (j := 47) rfl
  have d9_48 := blk_cell hD9 (j := 48) rfl
  have d9_49 := blk_cell hD9 (j := 49) rfl
  have z9_38 := blk_free hD9 38
  have z9_39 := blk_free hD9 39
  have z9_40 := blk_free hD9 40
  have z9_41 := blk_free hD9 41
  have z9_42 := blk_free hD9 42
  have z9_43 := blk_free hD9 43
  have z9_44 := blk_free hD9 44
  have z9_45 := blk_free hD9 45
  have z9_46 := blk_free hD9 46
  have z9_47 := blk_free hD9 47
  have z9_48 := blk_free hD9 48
  have z9_49 := blk_free hD9 49
  have hr9_0 : w.heap.size < w9.heap.size := (Array.getElem?_eq_some_iff.1 hS9).1
  have hr9_1 : w.heap.size + 1 < w9.heap.size := (Array.getElem?_eq_some_iff.1 hR9).1
  have hr9_2 : w.heap.size + 1 + 1 < w9.heap.size := (Array.getElem?_eq_some_iff.1 hD9).1
  clear hm9 hS8 hR8 hD8 hM8 hr8_0 hr8_1 hr8_2 c8_38 c8_39 c8_40 c8_41 c8_42 c8_43 c8_44 c8_45 c8_46 c8_47 c8_48 c8_49 d8_26 z8_26 d8_27 z8_27 d8_28 z8_28 d8_29 z8_29 d8_30 z8_30 d8_31 z8_31 d8_32 z8_32 d8_33 z8_33 d8_34 z8_34 d8_35 z8_35 d8_36 z8_36 d8_37 z8_37
  go_wp2_with fail
  refine (toEdges_any x.pad _).mono ?_
  rintro e w10 ⟨rfl, hm10⟩
  have hM10 : Mod (fun _ => False) w w10 := by (repeat (first | with_reducible exact Mod.refl _ _ | with_reducible refine Mod.drewN ?_ _ | with_reducible refine Mod.drew ?_ | with_reducible refine Mod.alloc ?_ _ | ((with_reducible refine Mod.setNew ?_ ?_ _ _ _); (rotate_left; omega)) | with_reducible refine Mod.setAt ?_ _ _ _ | with_reducible exact hm10 | with_reducible refine Mod.thenNone ?_ hm10 | with_reducible exact hM9 | with_reducible refine Mod.thenNone ?_ hM9 ))
  have hS10 := hm10.blk (set_far (set_far (set_far (set_far (set_far (set_far (set_far (set_far (set_far (set_far (set_far (set_far hS9 (by omega)) (by omega)) (by omega)) (by omega)) (by omega)) (by omega)) (by omega)) (by omega)) (by omega)) (by omega)) (by omega)) (by omega)) (fun f => f)
  have hR10 := hm10.blk (set_far (set_far (set_far (set_far (set_far (set_far (set_far (set_far (set_far (set_far (set_far (set_far hR9 (by omega)) (by omega)) (by omega)) (by omega)) (by omega)) (by omega)) (by omega)) (by omega)) (by omega)) (by omega)) (by omega)) (by omega)) (fun f => f)
  have hD10 : w10.heap[w.heap.size + 1 + 1]? = some (.cells #[.int .i64 x.dir, .int .i64 x.wrap, .int .i64 x.justify, .int .i64 x.items, .int .i64 x.self, .int .i64 x.content, .bool x.apart, .bool x.hidden, .int .i64 x.order, .int .i64 x.grow, .int .i64 x.shrink, .int .i64 x.basis.kind, .int .i64 x.basis.n, .int .i64 x.width.kind, .int .i64 x.width.n, .int .i64 x.height.kind, .int .i64 x.height.n, .int .i64 x.minWidth.kind, .int .i64 x.minWidth.n, .int .i64 x.minHeight.kind, .int .i64 x.minHeight.n, .int .i64 x.maxWidth.kind, .int .i64 x.maxWidth.n, .int .i64 x.maxHeight.kind, .int .i64 x.maxHeight.n, .int .i64 x.ratio, .int .i64 x.margin.left.kind, .int .i64 x.margin.left.n, .int .i64 x.margin.top.kind, .int .i64 x.margin.top.n, .int .i64 x.margin.right.kind, .int .i64 x.margin.right.n, .int .i64 x.margin.bottom.kind, .int .i64 x.margin.bottom.n, .int .i64 x.margin.start.kind, .int .i64 x.margin.start.n, .int .i64 x.margin.stop.kind, .int .i64 x.margin.stop.n, .int .i64 x.inset.left.kind, .int .i64 x.inset.left.n, .int .i64 x.inset.top.kind, .int .i64 x.inset.top.n, .int .i64 x.inset.right.kind, .int .i64 x.inset.right.n, .int .i64 x.inset.bottom.kind, .int .i64 x.inset.bottom.n, .int .i64 x.inset.start.kind, .int .i64 x.inset.start.n, .int .i64 x.inset.stop.kind, .int .i64 x.inset.stop.n, .int .i64 0, .int .i64 0, .int .i64 0, .int .i64 0, .int .i64 0, .int .i64 0, .int .i64 0, .int .i64 0, .int .i64 0, .int .i64 0] 37 (0, 0)) := hm10.blk (set_in (set_in (set_in (set_in (set_in (set_in (set_in (set_in (set_in (set_in (set_in (set_in hD9)))))))))))) (fun f => f)
  have c10_54 := blk_cell hS10 (j := 54) rfl
  have c10_55 := blk_cell hS10 (j := 55) rfl
  have c10_56 := blk_cell hS10 (j := 56) rfl
  have c10_57 := blk_cell hS10 (j := 57) rfl
  have d10_50 := blk_cell hD10 (j := 50) rfl
  have d10_51 := blk_cell hD10 (j := 51) rfl
  have d10_52 := blk_cell hD10 (j := 52) rfl
  have d10_53 := blk_cell hD10 (j := 53) rfl
  have z10_50 := blk_free hD10 50
  have z10_51 := blk_free hD10 51
  have z10_52 := blk_free hD10 52
  have z10_53 := blk_free hD10 53
  have hr10_0 : w.heap.size < w10.heap.size := (Array.getElem?_eq_some_iff.1 hS10).1
  have hr10_1 : w.heap.size + 1 < w10.heap.size := (Array.getElem?_eq_some_iff.1 hR10).1
  have hr10_2 : w.heap.size + 1 + 1 < w10.heap.size := (Array.getElem?_eq_some_iff.1 hD10).1
  clear hm10 hS9 hR9 hD9 hM9 hr9_0 hr9_1 hr9_2 c9_50 c9_51 c9_52 c9_53 d9_38 z9_38 d9_39 z9_39 d9_40 z9_40 d9_41 z9_41 d9_42 z9_42 d9_43 z9_43 d9_44 z9_44 d9_45 z9_45 d9_46 z9_46 d9_47 z9_47 d9_48 z9_48 d9_49 z9_49
  go_wp2_with fail
  refine (toEdges_any x.border _).mono ?_
  rintro e w11 ⟨rfl, hm11⟩
  have hM11 : Mod (fun _ => False) w w11 := by (repeat (first | with_reducible exact Mod.refl _ _ | with_reducible refine Mod.drewN ?_ _ | with_reducible refine Mod.drew ?_ | with_reducible refine Mod.alloc ?_ _ | ((with_reducible refine Mod.setNew ?_ ?_ _ _ _); (rotate_left; omega)) | with_reducible refine Mod.setAt ?_ _ _ _ | with_reducible exact hm11 | with_reducible refine Mod.thenNone ?_ hm11 | with_reducible exact hM10 | with_reducible refine Mod.thenNone ?_ hM10 ))
  have hS11 := hm11.blk (set_far (set_far (set_far (set_far hS10 (by omega)) (by omega)) (by omega)) (by omega)) (fun f => f)
  have hR11 := hm11.blk (set_far (set_far (set_far (set_far hR10 (by omega)) (by omega)) (by omega)) (by omega)) (fun f => f)
  have hD11 : w11.heap[w.heap.size + 1 + 1]? = some (.cells #[.int .i64 x.dir, .int .i64 x.wrap, .int .i64 x.justify, .int .i64 x.items, .int .i64 x.self, .int .i64 x.content, .bool x.apart, .bool x.hidden, .int .i64 x.order, .int .i64 x.grow, .int .i64 x.shrink, .int .i64 x.basis.kind, .int .i64 x.basis.n, .int .i64 x.width.kind, .int .i64 x.width.n, .int .i64 x.height.kind, .int .i64 x.height.n, .int .i64 x.minWidth.kind, .int .i64 x.minWidth.n, .int .i64 x.minHeight.kind, .int .i64 x.minHeight.n, .int .i64 x.maxWidth.kind, .int .i64 x.maxWidth.n, .int .i64 x.maxHeight.kind, .int .i64 x.maxHeight.n, .int .i64 x.ratio, .int .i64 x.margin.left.kind, .int .i64 x.margin.left.n, .int .i64 x.margin.top.kind, .int .i64 x.margin.top.n, .int .i64 x.margin.right.kind, .int .i64 x.margin.right.n, .int .i64 x.margin.bottom.kind, .int .i64 x.margin.bottom.n, .int .i64 x.margin.start.kind, .int .i64 x.margin.start.n, .int .i64 x.margin.stop.kind, .int .i64 x.margin.stop.n, .int .i64 x.inset.left.kind, .int .i64 x.inset.left.n, .int .i64 x.inset.top.kind, .int .i64 x.inset.top.n, .int .i64 x.inset.right.kind, .int .i64 x.inset.right.n, .int .i64 x.inset.bottom.kind, .int .i64 x.inset.bottom.n, .int .i64 x.inset.start.kind, .int .i64 x.inset.start.n, .int .i64 x.inset.stop.kind, .int .i64 x.inset.stop.n, .int .i64 x.pad.left, .int .i64 x.pad.top, .int .i64 x.pad.right, .int .i64 x.pad.bottom, .int .i64 0, .int .i64 0, .int .i64 0, .int .i64 0, .int .i64 0, .int .i64 0] 37 (0, 0)) := hm11.blk (set_in (set_in (set_in (set_in hD10)))) (fun f => f)
  have c11_58 := blk_cell hS11 (j := 58) rfl
  have c11_59 := blk_cell hS11 (j := 59) rfl
  have d11_54 := blk_cell hD11 (j := 54) rfl
  have d11_55 := blk_cell hD11 (j := 55) rfl
  have d11_56 := blk_cell hD11 (j := 56) rfl
  have d11_57 := blk_cell hD11 (j := 57) rfl
  have d11_58 := blk_cell hD11 (j := 58) rfl
  have d11_59 := blk_cell hD11 (j := 59) rfl
  have z11_54 := blk_free hD11 54
  have z11_55 := blk_free hD11 55
  have z11_56 := blk_free hD11 56
  have z11_57 := blk_free hD11 57
  have z11_58 := blk_free hD11 58
  have z11_59 := blk_free hD11 59
  have hY : w11.heap[w.heap.size + 1 + 1]? = some (.cells (Style.cells { x with border := ⟨0, 0, 0, 0⟩, rowGap := 0, colGap := 0 }).toArray 37 (0, 0)) := hD11
  obtain ⟨hq0, hq1, _⟩ := row_blk hY 0 60 (by rw [Style.len]; omega)
  obtain ⟨hq2, _, hq3⟩ := row_blk (l := Style.cells default) hR11 0 60 (by rw [Style.len]; omega)
  rw [List.drop_zero, List.take_of_length_le (by rw [Style.len]; omega)] at hq1
  clear hY
  have hr11_0 : w.heap.size < w11.heap.size := (Array.getElem?_eq_some_iff.1 hS11).1
  have hr11_1 : w.heap.size + 1 < w11.heap.size := (Array.getElem?_eq_some_iff.1 hR11).1
  have hr11_2 : w.heap.size + 1 + 1 < w11.heap.size := (Array.getElem?_eq_some_iff.1 hD11).1
  clear hm11 hS10 hR10 hD10 hM10 hr10_0 hr10_1 hr10_2 c10_54 c10_55 c10_56 c10_57 d10_50 z10_50 d10_51 z10_51 d10_52 z10_52 d10_53 z10_53
  clear hS11 hR11 hD11
  dsimp only
  repeat (first | go_values | go_skip | go_guarded | go_step | go_upon | go_back)
  refine bodyPost_ret (v := .agg (Style.cells x).toArray) ?_ ?_ ?_
  · refine results_row (r := Style.cells x) (b := w.heap.size + 1) Tryd.results10 ?_ Tryd.underlying37 rfl (by kernel_rfl) ?_
    · rfl
    · refine range_setCells (r := Style.cells x) ?_
      simp only [hasRow_setCell, Style.len, hq2]
  · rfl
  · refine ⟨rfl, ?_⟩
    refine Mod.setCellsNew ?_ (by omega) _ _
    iterate 6 refine Mod.setNew ?_ (by omega) _ _ _
    exact hM11

end Go.Proofs.YthffgbhphjkdeaaDoor
