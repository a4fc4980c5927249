/-
  PROVED: the exact laws' comparison of a style with itself. No condition.
-/
import Derived.Test.YthffgbhphjkdeaaDoorStyleT
namespace Go.Proofs.YthffgbhphjkdeaaDoor
open Go.RowKit

set_option maxRecDepth 100000 in
set_option maxHeartbeats 8000000 in
theorem eqStyle_same (x : Style) (w : World) : Calls Tryd.prog 18 #[.agg #[.int .i64 x.dir, .int .i64 x.wrap, .int .i64 x.justify, .int .i64 x.items, .int .i64 x.self, .int .i64 x.content, .bool x.apart, .bool x.hidden, .int .i64 x.order, .int .i64 x.grow, .int .i64 x.shrink, .int .i64 x.basis.kind, .int .i64 x.basis.n, .int .i64 x.width.kind, .int .i64 x.width.n, .int .i64 x.height.kind, .int .i64 x.height.n, .int .i64 x.minWidth.kind, .int .i64 x.minWidth.n, .int .i64 x.minHeight.kind, .int .i64 x.minHeight.n, .int .i64 x.maxWidth.kind, .int .i64 x.maxWidth.n, .int .i64 x.maxHeight.kind, .int .i64 x.maxHeight.n, .int .i64 x.ratio, .int .i64 x.margin.left.kind, .int .i64 x.margin.left.n, .int .i64 x.margin.top.kind, .int .i64 x.margin.top.n, .int .i64 x.margin.right.kind, .int .i64 x.margin.right.n, .int .i64 x.margin.bottom.kind, .int .i64 x.margin.bottom.n, .int .i64 x.margin.start.kind, .int .i64 x.margin.start.n, .int .i64 x.margin.stop.kind, .int .i64 x.margin.stop.n, .int .i64 x.inset.left.kind, .int .i64 x.inset.left.n, .int .i64 x.inset.top.kind, .int .i64 x.inset.top.n, .int .i64 x.inset.right.kind, .int .i64 x.inset.right.n, .int .i64 x.inset.bottom.kind, .int .i64 x.inset.bottom.n, .int .i64 x.inset.start.kind, .int .i64 x.inset.start.n, .int .i64 x.inset.stop.kind, .int .i64 x.inset.stop.n, .int .i64 x.pad.left, .int .i64 x.pad.top, .int .i64 x.pad.right, .int .i64 x.pad.bottom, .int .i64 x.border.left, .int .i64 x.border.top, .int .i64 x.border.right, .int .i64 x.border.bottom, .int .i64 x.rowGap, .int .i64 x.colGap], .agg #[.int .i64 x.dir, .int .i64 x.wrap, .int .i64 x.justify, .int .i64 x.items, .int .i64 x.self, .int .i64 x.content, .bool x.apart, .bool x.hidden, .int .i64 x.order, .int .i64 x.grow, .int .i64 x.shrink, .int .i64 x.basis.kind, .int .i64 x.basis.n, .int .i64 x.width.kind, .int .i64 x.width.n, .int .i64 x.height.kind, .int .i64 x.height.n, .int .i64 x.minWidth.kind, .int .i64 x.minWidth.n, .int .i64 x.minHeight.kind, .int .i64 x.minHeight.n, .int .i64 x.maxWidth.kind, .int .i64 x.maxWidth.n, .int .i64 x.maxHeight.kind, .int .i64 x.maxHeight.n, .int .i64 x.ratio, .int .i64 x.margin.left.kind, .int .i64 x.margin.left.n, .int .i64 x.margin.top.kind, .int .i64 x.margin.top.n, .int .i64 x.margin.right.kind, .int .i64 x.margin.right.n, .int .i64 x.margin.bottom.kind, .int .i64 x.margin.bottom.n, .int .i64 x.margin.start.kind, .int .i64 x.margin.start.n, .int .i64 x.margin.stop.kind, .int .i64 x.margin.stop.n, .int .i64 x.inset.left.kind, .int .i64 x.inset.left.n, .int .i64 x.inset.top.kind, .int .i64 x.inset.top.n, .int .i64 x.inset.right.kind, .int .i64 x.inset.right.n, .int .i64 x.inset.bottom.kind, .int .i64 x.inset.bottom.n, .int .i64 x.inset.start.kind, .int .i64 x.inset.start.n, .int .i64 x.inset.stop.kind, .int .i64 x.inset.stop.n, .int .i64 x.pad.left, .int .i64 x.pad.top, .int .i64 x.pad.right, .int .i64 x.pad.bottom, .int .i64 x.border.left, .int .i64 x.border.top, .int .i64 x.border.right, .int .i64 x.border.bottom, .int .i64 x.rowGap, .int .i64 x.colGap]] w fun e w' => e = .returned (.bool true) ∧ Mod (fun _ => False) w w' := by
  go_enter Tryd.func18, Tryd.ntmps18
  go_wp2_with fail
  refine (eqValue_any x.basis x.basis _).mono ?_
  rintro e w1 ⟨rfl, hm1⟩
  rw [decide_eq_true rfl]
  have hM1 : Mod (fun _ => False) w w1 := by (repeat (first | with_reducible exact Mod.refl _ _ | with_reducible refine Mod.drewN ?_ _ | with_reducible refine Mod.drew ?_ | with_reducible refine Mod.alloc ?_ _ | ((with_reducible refine Mod.setNew ?_ ?_ _ _ _); (rotate_left; omega)) | with_reducible refine Mod.setAt ?_ _ _ _ | with_reducible exact hm1 | with_reducible refine Mod.thenNone ?_ hm1 ))
  have hA1 := hm1.blk (al2a _ _ _) (fun f => f)
  have hB1 := hm1.blk (al2b _ _ _) (fun f => f)
  have c1_13 := blk_cell hA1 (j := 13) rfl
  have d1_13 := blk_cell hB1 (j := 13) rfl
  have c1_14 := blk_cell hA1 (j := 14) rfl
  have d1_14 := blk_cell hB1 (j := 14) rfl
  have hr1_0 : w.heap.size < w1.heap.size := (Array.getElem?_eq_some_iff.1 hA1).1
  have hr1_1 : w.heap.size + 1 < w1.heap.size := (Array.getElem?_eq_some_iff.1 hB1).1
  clear hm1
  go_wp2_with fail
  refine (eqValue_any x.width x.width _).mono ?_
  rintro e w2 ⟨rfl, hm2⟩
  rw [decide_eq_true rfl]
  have hM2 : Mod (fun _ => False) w w2 := hM1.thenNone hm2
  have hA2 := hm2.blk hA1 (fun f => f)
  have hB2 := hm2.blk hB1 (fun f => f)
  have c2_15 := blk_cell hA2 (j := 15) rfl
  have d2_15 := blk_cell hB2 (j := 15) rfl
  have c2_16 := blk_cell hA2 (j := 16) rfl
  have d2_16 := blk_cell hB2 (j := 16) rfl
  have hr2_0 : w.heap.size < w2.heap.size := (Array.getElem?_eq_some_iff.1 hA2).1
  have hr2_1 : w.heap.size + 1 < w2.heap.size := (Array.getElem?_eq_some_iff.1 hB2).1
  clear hm2 hA1 hB1 hM1 hr1_0 hr1_1 c1_13 d1_13 c1_14 d1_14
  go_wp2_with fail
  refine (eqValue_any x.height x.height _).mono ?_
  rintro e w3 ⟨rfl, hm3⟩
  rw [decide_eq_true rfl]
  have hM3 : Mod (fun _ => False) w w3 := hM2.thenNone hm3
  have hA3 := hm3.blk hA2 (fun f => f)
  have hB3 := hm3.blk hB2 (fun f => f)
  have c3_17 := blk_cell hA3 (j := 17) rfl
  have d3_17 := blk_cell hB3 (j := 17) rfl
  have c3_18 := blk_cell hA3 (j := 18) rfl
  have d3_18 := blk_cell hB3 (j := 18) rfl
  have hr3_0 : w.heap.size < w3.heap.size := (Array.getElem?_eq_some_iff.1 hA3).1
  have hr3_1 : w.heap.size + 1 < w3.heap.size := (Array.getElem?_eq_some_iff.1 hB3).1
  clear hm3 hA2 hB2 hM2 hr2_0 hr2_1 c2_15 d2_15 c2_16 d2_16
  go_wp2_with fail
  refine (eqValue_any x.minWidth x.minWidth _).mono ?_
  rintro e w4 ⟨rfl, hm4⟩
  rw [decide_eq_true rfl]
  have hM4 : Mod (fun _ => False) w w4 := hM3.thenNone hm4
  have hA4 := hm4.blk hA3 (fun f => f)
  have hB4 := hm4.blk hB3 (fun f => f)
  have c4_19 := blk_cell hA4 (j := 19) rfl
  have d4_19 := blk_cell hB4 (j := 19) rfl
  have c4_20 := blk_cell hA4 (j := 20) rfl
  have d4_20 := blk_cell hB4 (j := 20) rfl
  have hr4_0 : w.heap.size < w4.heap.size := (Array.getElem?_eq_some_iff.1 hA4).1
  have hr4_1 : w.heap.size + 1 < w4.heap.size := (Array.getElem?_eq_some_iff.1 hB4).1
  clear hm4 hA3 hB3 hM3 hr3_0 hr3_1 c3_17 d3_17 c3_18 d3_18
  go_wp2_with fail
  refine (eqValue_any x.minHeight x.minHeight _).mono ?_
  rintro e w5 ⟨rfl, hm5⟩
  rw [decide_eq_true rfl]
  have hM5 : Mod (fun _ => False) w w5 := hM4.thenNone hm5
  have hA5 := hm5.blk hA4 (fun f => f)
  have hB5 := hm5.blk hB4 (fun f => f)
  have c5_21 := blk_cell hA5 (j := 21) rfl
  have d5_21 := blk_cell hB5 (j := 21) rfl
  have c5_22 := blk_cell hA5 (j := 22) rfl
  have d5_22 := blk_cell hB5 (j := 22) rfl
  have hr5_0 : w.heap.size < w5.heap.size := (Array.getElem?_eq_some_iff.1 hA5).1
  have hr5_1 : w.heap.size + 1 < w5.heap.size := (Array.getElem?_eq_some_iff.1 hB5).1
  clear hm5 hA4 hB4 hM4 hr4_0 hr4_1 c4_19 d4_19 c4_20 d4_20
  go_wp2_with fail
  refine (eqValue_any x.maxWidth x.maxWidth _).mono ?_
  rintro e w6 ⟨rfl, hm6⟩
  rw [decide_eq_true rfl]
  have hM6 : Mod (fun _ => False) w w6 := hM5.thenNone hm6
  have hA6 := hm6.blk hA5 (fun f => f)
  have hB6 := hm6.blk hB5 (fun f => f)
  have c6_23 := blk_cell hA6 (j := 23) rfl
  have d6_23 := blk_cell hB6 (j := 23) rfl
  have c6_24 := blk_cell hA6 (j := 24) rfl
  have d6_24 := blk_cell hB6 (j := 24) rfl
  have hr6_0 : w.heap.size < w6.heap.size := (Array.getElem?_eq_some_iff.1 hA6).1
  have hr6_1 : w.heap.size + 1 < w6.heap.size := (Array.getElem?_eq_some_iff.1 hB6).1
  clear hm6 hA5 hB5 hM5 hr5_0 hr5_1 c5_21 d5_21 c5_22 d5_22
  go_wp2_with fail
  refine (eqValue_any x.maxHeight x.maxHeight _).mono ?_
  rintro e w7 ⟨rfl, hm7⟩
  rw [decide_eq_true rfl]
  have hM7 : Mod (fun _ => False) w w7 := hM6.thenNone hm7
  have hA7 := hm7.blk hA6 (fun f => f)
  have hB7 := hm7.blk hB6 (fun f => f)
  have c7_25 := blk_cell hA7 (j := 25) rfl
  have d7_25 := blk_cell hB7 (j := 25) rfl
  have c7_26 := blk_cell hA7 (j := 26) rfl
  have d7_26 := blk_cell hB7 (j := 26) rfl
  have c7_27 := blk_cell hA7 (j := 27) rfl
  have d7_27 := blk_cell hB7 (j := 27) rfl
  have c7_28 := blk_cell hA7 (j := 28) rfl
  have d7_28 := blk_cell hB7 (j := 28) rfl
  have c7_29 := blk_cell hA7 (j := 29) rfl
  have d7_29 := blk_cell hB7 (j := 29) rfl
  have c7_30 := blk_cell hA7 (j := 30) rfl
  have d7_30 := blk_cell hB7 (j := 30) rfl
  have c7_31 := blk_cell hA7 (j := 31) rfl
  have d7_31 := blk_cell hB7 (j := 31) rfl
  have c7_32 := blk_cell hA7 (j := 32) rfl
  have d7_32 := blk_cell hB7 (j := 32) rfl
  have c7_33 := blk_cell hA7 (j := 33) rfl
  have d7_33 := blk_cell hB7 (j := 33) rfl
  have c7_34 := blk_cell hA7 (j := 34) rfl
  have d7_34 := blk_cell hB7 (j := 34) rfl
  have c7_35 := blk_cell hA7 (j := 35) rfl
  have d7_35 := blk_cell hB7 (j := 35) rfl
  have c7_36 := blk_cell hA7 (j := 36) rfl
  have d7_36 := blk_cell hB7 (j := 36) rfl
  have c7_37 := blk_cell hA7 (j := 37) rfl
  have d7_37 := blk_cell hB7 (j := 37) rfl
  have hr7_0 : w.heap.size < w7.heap.size := (Array.getElem?_eq_some_iff.1 hA7).1
  have hr7_1 : w.heap.size + 1 < w7.heap.size := (Array.getElem?_eq_some_iff.1 hB7).1
  clear hm7 hA6 hB6 hM6 hr6_0 hr6_1 c6_23 d6_23 c6_24 d6_24
  go_wp2_with fail
  refine (eqSides_same x.margin _).mono ?_
  rintro e w8 ⟨rfl, hm8⟩
  have hM8 : Mod (fun _ => False) w w8 := hM7.thenNone hm8
  have hA8 := hm8.blk hA7 (fun f => f)
  have hB8 := hm8.blk hB7 (fun f => f)
  have c8_38 := blk_cell hA8 (j := 38) rfl
  have d8_38 := blk_cell hB8 (j := 38) rfl
  have c8_39 := blk_cell hA8 (j := 39) rfl
  have d8_39 := blk_cell hB8 (j := 39) rfl
  have c8_40 := blk_cell hA8 (j := 40) rfl
  have d8_40 := blk_cell hB8 (j := 40) rfl
  have c8_41 := blk_cell hA8 (j := 41) rfl
  have d8_41 := blk_cell hB8 (j := 41) rfl
  have c8_42 := blk_cell hA8 (j := 42) rfl
  have d8_42 := blk_cell hB8 (j := 42) rfl
  have c8_43 := blk_cell hA8 (j := 43) rfl
  have d8_43 := blk_cell hB8 (j := 43) rfl
  have c8_44 := blk_cell hA8 (j := 44) rfl
  have d8_44 := blk_cell hB8 (j := 44) rfl
  have c8_45 := blk_cell hA8 (j := 45) rfl
  have d8_45 := blk_cell hB8 (j := 45) rfl
  have c8_46 := blk_cell hA8 (j := 46) rfl
  have d8_46 := blk_cell hB8 (j := 46) rfl
  have c8_47 := blk_cell hA8 (j := 47) rfl
  have d8_47 := blk_cell hB8 (j := 47) rfl
  have c8_48 := blk_cell hA8 (j := 48) rfl
  have d8_48 := blk_cell hB8 (j := 48) rfl
  have c8_49 := blk_cell hA8 (j := 49) rfl
  have d8_49 := blk_cell hB8 (j := 49) rfl
  have hr8_0 : w.heap.size < w8.heap.size := (Array.getElem?_eq_some_iff.1 hA8).1
  have hr8_1 : w.heap.size + 1 < w8.heap.size := (Array.getElem?_eq_some_iff.1 hB8).1
  clear hm8 hA7 hB7 hM7 hr7_0 hr7_1 c7_25 d7_25 c7_26 d7_26 c7_27 d7_27 c7_28 d7_28 c7_29 d7_29 c7_30 d7_30 c7_31 d7_31 c7_32 d7_32 c7_33 d7_33 c7_34 d7_34 c7_35 d7_35 c7_36 d7_36 c7_37 d7_37
  go_wp2_with fail
  refine (eqSides_same x.inset _).mono ?_
  rintro e w9 ⟨rfl, hm9⟩
  have hM9 : Mod (fun _ => False) w w9 := hM8.thenNone hm9
  have hA9 := hm9.blk hA8 (fun f => f)
  have hB9 := hm9.blk hB8 (fun f => f)
  have c9_50 := blk_cell hA9 (j := 50) rfl
  have d9_50 := blk_cell hB9 (j := 50) rfl
  have c9_51 := blk_cell hA9 (j := 51) rfl
  have d9_51 := blk_cell hB9 (j := 51) rfl
  have c9_52 := blk_cell hA9 (j := 52) rfl
  have d9_52 := blk_cell hB9 (j := 52) rfl
  have c9_53 := blk_cell hA9 (j := 53) rfl
  have d9_53 := blk_cell hB9 (j := 53) rfl
  have hr9_0 : w.heap.size < w9.heap.size := (Array.getElem?_eq_some_iff.1 hA9).1
  have hr9_1 : w.heap.size + 1 < w9.heap.size := (Array.getElem?_eq_some_iff.1 hB9).1
  clear hm9 hA8 hB8 hM8 hr8_0 hr8_1 c8_38 d8_38 c8_39 d8_39 c8_40 d8_40 c8_41 d8_41 c8_42 d8_42 c8_43 d8_43 c8_44 d8_44 c8_45 d8_45 c8_46 d8_46 c8_47 d8_47 c8_48 d8_48 c8_49 d8_49
  go_wp2_with fail
  refine (eqEdges_same x.pad _).mono ?_
  rintro e w10 ⟨rfl, hm10⟩
  have hM10 : Mod (fun _ => False) w w10 := hM9.thenNone hm10
  have hA10 := hm10.blk hA9 (fun f => f)
  have hB10 := hm10.blk hB9 (fun f => f)
  have c10_54 := blk_cell hA10 (j := 54) rfl
  have d10_54 := blk_cell hB10 (j := 54) rfl
  have c10_55 := blk_cell hA10 (j := 55) rfl
  have d10_55 := blk_cell hB10 (j := 55) rfl
  have c10_56 := blk_cell hA10 (j := 56) rfl
  have d10_56 := blk_cell hB10 (j := 56) rfl
  have c10_57 := blk_cell hA10 (j := 57) rfl
  have d10_57 := blk_cell hB10 (j := 57) rfl
  have hr10_0 : w.heap.size < w10.heap.size := (Array.getElem?_eq_some_iff.1 hA10).1
  have hr10_1 : w.heap.size + 1 < w10.heap.size := (Array.getElem?_eq_some_iff.1 hB10).1
  clear hm10 hA9 hB9 hM9 hr9_0 hr9_1 c9_50 d9_50 c9_51 d9_51 c9_52 d9_52 c9_53 d9_53
  go_wp2_with fail
  refine (eqEdges_same x.border _).mono ?_
  rintro e w11 ⟨rfl, hm11⟩
  have hM11 : Mod (fun _ => False) w w11 := hM10.thenNone hm11
  have hA11 := hm11.blk hA10 (fun f => f)
  have hB11 := hm11.blk hB10 (fun f => f)
  have c11_58 := blk_cell hA11 (j := 58) rfl
  have d11_58 := blk_cell hB11 (j := 58) rfl
  have c11_59 := blk_cell hA11 (j := 59) rfl
  have d11_59 := blk_cell hB11 (j := 59) rfl
  have hr11_0 : w.heap.size < w11.heap.size := (Array.getElem?_eq_some_iff.1 hA11).1
  have hr11_1 : w.heap.size + 1 < w11.heap.size := (Array.getElem?_eq_some_iff.1 hB11).1
  clear hm11 hA10 hB10 hM10 hr10_0 hr10_1 c10_54 d10_54 c10_55 d10_55 c10_56 d10_56 c10_57 d10_57
  clear hA11 hB11
  go_wp2
  go_ret
  exact ⟨rfl, hM11⟩

end Go.Proofs.YthffgbhphjkdeaaDoor
