/-
  PROVED: Sides, Edges and Style as plain structures; the exact laws' copies of them. No condition.
-/
import Derived.Test.YthffgbhphjkdeaaDoorValCodec
import Derived.Test.YthffgbhphjkdeaaDoorRep2
namespace Go.Proofs.YthffgbhphjkdeaaDoor
open Go.RowKit

theorem al2a (w : World) (A B : Obj) : ((w.alloc A).alloc B).heap[w.heap.size]? = some A := heap_alloc_keep (heap_alloc_new w A)
theorem al2b (w : World) (A B : Obj) : ((w.alloc A).alloc B).heap[w.heap.size + 1]? = some B := by
  have h := heap_alloc_new (w.alloc A) B
  rwa [World.size_alloc] at h
theorem al3a (w : World) (A B C : Obj) : (((w.alloc A).alloc B).alloc C).heap[w.heap.size]? = some A := heap_alloc_keep (heap_alloc_keep (heap_alloc_new w A))
theorem al3b (w : World) (A B C : Obj) : (((w.alloc A).alloc B).alloc C).heap[w.heap.size + 1]? = some B := by
  have h := heap_alloc_new (w.alloc A) B
  rw [World.size_alloc] at h
  exact heap_alloc_keep h
theorem al3c (w : World) (A B C : Obj) : (((w.alloc A).alloc B).alloc C).heap[w.heap.size + 1 + 1]? = some C := by
  have h := heap_alloc_new ((w.alloc A).alloc B) C
  rwa [World.size_alloc, World.size_alloc] at h
theorem set_in {w : World} {b j : Nat} {l : List Value} {T : TypeId} {fr : Nat × Nat} {v : Value} (h : w.heap[b]? = some (.cells l.toArray T fr)) : (w.setCell ⟨b, j, none⟩ v).heap[b]? = some (.cells (l.set j v).toArray T fr) := by
  simp [World.setCell, Array.getElem?_modify, h]

structure Sides where
  left : Val
  top : Val
  right : Val
  bottom : Val
  start : Val
  stop : Val
  deriving DecidableEq, Inhabited
def Sides.cells (x : Sides) : List Value := [.int .i64 x.left.kind, .int .i64 x.left.n, .int .i64 x.top.kind, .int .i64 x.top.n, .int .i64 x.right.kind, .int .i64 x.right.n, .int .i64 x.bottom.kind, .int .i64 x.bottom.n, .int .i64 x.start.kind, .int .i64 x.start.n, .int .i64 x.stop.kind, .int .i64 x.stop.n]

set_option maxRecDepth 100000 in
set_option maxHeartbeats 8000000 in
theorem toSides_any (x : Sides) (w : World) : Calls Tryd.prog 46 #[.agg #[.int .i64 x.left.kind, .int .i64 x.left.n, .int .i64 x.top.kind, .int .i64 x.top.n, .int .i64 x.right.kind, .int .i64 x.right.n, .int .i64 x.bottom.kind, .int .i64 x.bottom.n, .int .i64 x.start.kind, .int .i64 x.start.n, .int .i64 x.stop.kind, .int .i64 x.stop.n]] w fun e w' => e = .returned (.agg #[.int .i64 x.left.kind, .int .i64 x.left.n, .int .i64 x.top.kind, .int .i64 x.top.n, .int .i64 x.right.kind, .int .i64 x.right.n, .int .i64 x.bottom.kind, .int .i64 x.bottom.n, .int .i64 x.start.kind, .int .i64 x.start.n, .int .i64 x.stop.kind, .int .i64 x.stop.n]) ∧ Mod (fun _ => False) w w' := by
  go_enter Tryd.func46, Tryd.ntmps46
  go_wp2_with fail
  refine (toValue_any x.left _).mono ?_
  rintro e w1 ⟨rfl, hm1⟩
  have hM1 : Mod (fun _ => False) w w1 := by (repeat (first | with_reducible exact Mod.refl _ _ | with_reducible refine Mod.drewN ?_ _ | with_reducible refine Mod.drew ?_ | with_reducible refine Mod.alloc ?_ _ | ((with_reducible refine Mod.setNew ?_ ?_ _ _ _); (rotate_left; omega)) | with_reducible refine Mod.setAt ?_ _ _ _ | with_reducible exact hm1 | with_reducible refine Mod.thenNone ?_ hm1 ))
  have hS1 := hm1.blk (al3a _ _ _ _) (fun f => f)
  have hR1 := hm1.blk (al3b _ _ _ _) (fun f => f)
  have hD1 := hm1.blk (al3c _ _ _ _) (fun f => f)
  have c1_2 := blk_cell hS1 (j := 2) rfl
  have c1_3 := blk_cell hS1 (j := 3) rfl
  have d1_0 := blk_cell hD1 (j := 0) rfl
  have d1_1 := blk_cell hD1 (j := 1) rfl
  have z1_0 := blk_free hD1 0
  have z1_1 := blk_free hD1 1
  have hr1_0 : w.heap.size < w1.heap.size := (Array.getElem?_eq_some_iff.1 hS1).1
  have hr1_1 : w.heap.size + 1 < w1.heap.size := (Array.getElem?_eq_some_iff.1 hR1).1
  have hr1_2 : w.heap.size + 1 + 1 < w1.heap.size := (Array.getElem?_eq_some_iff.1 hD1).1
  clear hm1
  go_wp2_with fail
  refine (toValue_any x.top _).mono ?_
  rintro e w2 ⟨rfl, hm2⟩
  have hM2 : Mod (fun _ => False) w w2 := by (repeat (first | with_reducible exact Mod.refl _ _ | with_reducible refine Mod.drewN ?_ _ | with_reducible refine Mod.drew ?_ | with_reducible refine Mod.alloc ?_ _ | ((with_reducible refine Mod.setNew ?_ ?_ _ _ _); (rotate_left; omega)) | with_reducible refine Mod.setAt ?_ _ _ _ | with_reducible exact hm2 | with_reducible refine Mod.thenNone ?_ hm2 | with_reducible exact hM1 | with_reducible refine Mod.thenNone ?_ hM1 ))
  have hS2 := hm2.blk (set_far (set_far hS1 (by omega)) (by omega)) (fun f => f)
  have hR2 := hm2.blk (set_far (set_far hR1 (by omega)) (by omega)) (fun f => f)
  have hD2 : w2.heap[w.heap.size + 1 + 1]? = some (.cells #[.int .i64 x.left.kind, .int .i64 x.left.n, .int .i64 0, .int .i64 0, .int .i64 0, .int .i64 0, .int .i64 0, .int .i64 0, .int .i64 0, .int .i64 0, .int .i64 0, .int .i64 0] 34 (0, 0)) := hm2.blk (set_in (set_in hD1)) (fun f => f)
  have c2_4 := blk_cell hS2 (j := 4) rfl
  have c2_5 := blk_cell hS2 (j := 5) rfl
  have d2_2 := blk_cell hD2 (j := 2) rfl
  have d2_3 := blk_cell hD2 (j := 3) rfl
  have z2_2 := blk_free hD2 2
  have z2_3 := blk_free hD2 3
  have hr2_0 : w.heap.size < w2.heap.size := (Array.getElem?_eq_some_iff.1 hS2).1
  have hr2_1 : w.heap.size + 1 < w2.heap.size := (Array.getElem?_eq_some_iff.1 hR2).1
  have hr2_2 : w.heap.size + 1 + 1 < w2.heap.size := (Array.getElem?_eq_some_iff.1 hD2).1
  clear hm2 hS1 hR1 hD1 hM1 hr1_0 hr1_1 hr1_2 c1_2 c1_3 d1_0 z1_0 d1_1 z1_1
  go_wp2_with fail
  refine (toValue_any x.right _).mono ?_
  rintro e w3 ⟨rfl, hm3⟩
  have hM3 : Mod (fun _ => False) w w3 := by (repeat (first | with_reducible exact Mod.refl _ _ | with_reducible refine Mod.drewN ?_ _ | with_reducible refine Mod.drew ?_ | with_reducible refine Mod.alloc ?_ _ | ((with_reducible refine Mod.setNew ?_ ?_ _ _ _); (rotate_left; omega)) | with_reducible refine Mod.setAt ?_ _ _ _ | with_reducible exact hm3 | with_reducible refine Mod.thenNone ?_ hm3 | with_reducible exact hM2 | with_reducible refine Mod.thenNone ?_ hM2 ))
  have hS3 := hm3.blk (set_far (set_far hS2 (by omega)) (by omega)) (fun f => f)
  have hR3 := hm3.blk (set_far (set_far hR2 (by omega)) (by omega)) (fun f => f)
  have hD3 : w3.heap[w.heap.size + 1 + 1]? = some (.cells #[.int .i64 x.left.kind, .int .i64 x.left.n, .int .i64 x.top.kind, .int .i64 x.top.n, .int .i64 0, .int .i64 0, .int .i64 0, .int .i64 0, .int .i64 0, .int .i64 0, .int .i64 0, .int .i64 0] 34 (0, 0)) := hm3.blk (set_in (set_in hD2)) (fun f => f)
  have c3_6 := blk_cell hS3 (j := 6) rfl
  have c3_7 := blk_cell hS3 (j := 7) rfl
  have d3_4 := blk_cell hD3 (j := 4) rfl
  have d3_5 := blk_cell hD3 (j := 5) rfl
  have z3_4 := blk_free hD3 4
  have z3_5 := blk_free hD3 5
  have hr3_0 : w.heap.size < w3.heap.size := (Array.getElem?_eq_some_iff.1 hS3).1
  have hr3_1 : w.heap.size + 1 < w3.heap.size := (Array.getElem?_eq_some_iff.1 hR3).1
  have hr3_2 : w.heap.size + 1 + 1 < w3.heap.size := (Array.getElem?_eq_some_iff.1 hD3).1
  clear hm3 hS2 hR2 hD2 hM2 hr2_0 hr2_1 hr2_2 c2_4 c2_5 d2_2 z2_2 d2_3 z2_3
  go_wp2_with fail
  refine (toValue_any x.bottom _).mono ?_
  rintro e w4 ⟨rfl, hm4⟩
  have hM4 : Mod (fun _ => False) w w4 := by (repeat (first | with_reducible exact Mod.refl _ _ | with_reducible refine Mod.drewN ?_ _ | with_reducible refine Mod.drew ?_ | with_reducible refine Mod.alloc ?_ _ | ((with_reducible refine Mod.setNew ?_ ?_ _ _ _); (rotate_left; omega)) | with_reducible refine Mod.setAt ?_ _ _ _ | with_reducible exact hm4 | with_reducible refine Mod.thenNone ?_ hm4 | with_reducible exact hM3 | with_reducible refine Mod.thenNone ?_ hM3 ))
  have hS4 := hm4.blk (set_far (set_far hS3 (by omega)) (by omega)) (fun f => f)
  have hR4 := hm4.blk (set_far (set_far hR3 (by omega)) (by omega)) (fun f => f)
  have hD4 : w4.heap[w.heap.size + 1 + 1]? = some (.cells #[.int .i64 x.left.kind, .int .i64 x.left.n, .int .i64 x.top.kind, .int .i64 x.top.n, .int .i64 x.right.kind, .int .i64 x.right.n, .int .i64 0, .int .i64 0, .int .i64 0, .int .i64 0, .int .i64 0, .int .i64 0] 34 (0, 0)) := hm4.blk (set_in (set_in hD3)) (fun f => f)
  have c4_8 := blk_cell hS4 (j := 8) rfl
  have c4_9 := blk_cell hS4 (j := 9) rfl
  have d4_6 := blk_cell hD4 (j := 6) rfl
  have d4_7 := blk_cell hD4 (j := 7) rfl
  have z4_6 := blk_free hD4 6
  have z4_7 := blk_free hD4 7
  have hr4_0 : w.heap.size < w4.heap.size := (Array.getElem?_eq_some_iff.1 hS4).1
  have hr4_1 : w.heap.size + 1 < w4.heap.size := (Array.getElem?_eq_some_iff.1 hR4).1
  have hr4_2 : w.heap.size + 1 + 1 < w4.heap.size := (Array.getElem?_eq_some_iff.1 hD4).1
  clear hm4 hS3 hR3 hD3 hM3 hr3_0 hr3_1 hr3_2 c3_6 c3_7 d3_4 z3_4 d3_5 z3_5
  go_wp2_with fail
  refine (toValue_any x.start _).mono ?_
  rintro e w5 ⟨rfl, hm5⟩
  have hM5 : Mod (fun _ => False) w w5 := by (repeat (first | with_reducible exact Mod.refl _ _ | with_reducible refine Mod.drewN ?_ _ | with_reducible refine Mod.drew ?_ | with_reducible refine Mod.alloc ?_ _ | ((with_reducible refine Mod.setNew ?_ ?_ _ _ _); (rotate_left; omega)) | with_reducible refine Mod.setAt ?_ _ _ _ | with_reducible exact hm5 | with_reducible refine Mod.thenNone ?_ hm5 | with_reducible exact hM4 | with_reducible refine Mod.thenNone ?_ hM4 ))
  have hS5 := hm5.blk (set_far (set_far hS4 (by omega)) (by omega)) (fun f => f)
  have hR5 := hm5.blk (set_far (set_far hR4 (by omega)) (by omega)) (fun f => f)
  have hD5 : w5.heap[w.heap.size + 1 + 1]? = some (.cells #[.int .i64 x.left.kind, .int .i64 x.left.n, .int .i64 x.top.kind, .int .i64 x.top.n, .int .i64 x.right.kind, .int .i64 x.right.n, .int .i64 x.bottom.kind, .int .i64 x.bottom.n, .int .i64 0, .int .i64 0, .int .i64 0, .int .i64 0] 34 (0, 0)) := hm5.blk (set_in (set_in hD4)) (fun f => f)
  have c5_10 := blk_cell hS5 (j := 10) rfl
  have c5_11 := blk_cell hS5 (j := 11) rfl
  have d5_8 := blk_cell hD5 (j := 8) rfl
  have d5_9 := blk_cell hD5 (j := 9) rfl
  have z5_8 := blk_free hD5 8
  have z5_9 := blk_free hD5 9
  have hr5_0 : w.heap.size < w5.heap.size := (Array.getElem?_eq_some_iff.1 hS5).1
  have hr5_1 : w.heap.size + 1 < w5.heap.size := (Array.getElem?_eq_some_iff.1 hR5).1
  have hr5_2 : w.heap.size + 1 + 1 < w5.heap.size := (Array.getElem?_eq_some_iff.1 hD5).1
  clear hm5 hS4 hR4 hD4 hM4 hr4_0 hr4_1 hr4_2 c4_8 c4_9 d4_6 z4_6 d4_7 z4_7
  go_wp2_with fail
  refine (toValue_any x.stop _).mono ?_
  rintro e w6 ⟨rfl, hm6⟩
  have hM6 : Mod (fun _ => False) w w6 := by (repeat (first | with_reducible exact Mod.refl _ _ | with_reducible refine Mod.drewN ?_ _ | with_reducible refine Mod.drew ?_ | with_reducible refine Mod.alloc ?_ _ | ((with_reducible refine Mod.setNew ?_ ?_ _ _ _); (rotate_left; omega)) | with_reducible refine Mod.setAt ?_ _ _ _ | with_reducible exact hm6 | with_reducible refine Mod.thenNone ?_ hm6 | with_reducible exact hM5 | with_reducible refine Mod.thenNone ?_ hM5 ))
  have hS6 := hm6.blk (set_far (set_far hS5 (by omega)) (by omega)) (fun f => f)
  have hR6 := hm6.blk (set_far (set_far hR5 (by omega)) (by omega)) (fun f => f)
  have hD6 : w6.heap[w.heap.size + 1 + 1]? = some (.cells #[.int .i64 x.left.kind, .int .i64 x.left.n, .int .i64 x.top.kind, .int .i64 x.top.n, .int .i64 x.right.kind, .int .i64 x.right.n, .int .i64 x.bottom.kind, .int .i64 x.bottom.n, .int .i64 x.start.kind, .int .i64 x.start.n, .int .i64 0, .int .i64 0] 34 (0, 0)) := hm6.blk (set_in (set_in hD5)) (fun f => f)
  have d6_0 := blk_cell hD6 (j := 0) rfl
  have d6_1 := blk_cell hD6 (j := 1) rfl
  have d6_2 := blk_cell hD6 (j := 2) rfl
  have d6_3 := blk_cell hD6 (j := 3) rfl
  have d6_4 := blk_cell hD6 (j := 4) rfl
  have d6_5 := blk_cell hD6 (j := 5) rfl
  have d6_6 := blk_cell hD6 (j := 6) rfl
  have d6_7 := blk_cell hD6 (j := 7) rfl
  have d6_8 := blk_cell hD6 (j := 8) rfl
  have d6_9 := blk_cell hD6 (j := 9) rfl
  have d6_10 := blk_cell hD6 (j := 10) rfl
  have d6_11 := blk_cell hD6 (j := 11) rfl
  have z6_10 := blk_free hD6 10
  have z6_11 := blk_free hD6 11
  have r6_0 := blk_cell hR6 (j := 0) rfl
  have y6_0 := blk_free hR6 0
  have r6_1 := blk_cell hR6 (j := 1) rfl
  have y6_1 := blk_free hR6 1
  have r6_2 := blk_cell hR6 (j := 2) rfl
  have y6_2 := blk_free hR6 2
  have r6_3 := blk_cell hR6 (j := 3) rfl
  have y6_3 := blk_free hR6 3
  have r6_4 := blk_cell hR6 (j := 4) rfl
  have y6_4 := blk_free hR6 4
  have r6_5 := blk_cell hR6 (j := 5) rfl
  have y6_5 := blk_free hR6 5
  have r6_6 := blk_cell hR6 (j := 6) rfl
  have y6_6 := blk_free hR6 6
  have r6_7 := blk_cell hR6 (j := 7) rfl
  have y6_7 := blk_free hR6 7
  have r6_8 := blk_cell hR6 (j := 8) rfl
  have y6_8 := blk_free hR6 8
  have r6_9 := blk_cell hR6 (j := 9) rfl
  have y6_9 := blk_free hR6 9
  have r6_10 := blk_cell hR6 (j := 10) rfl
  have y6_10 := blk_free hR6 10
  have r6_11 := blk_cell hR6 (j := 11) rfl
  have y6_11 := blk_free hR6 11
  have hr6_0 : w.heap.size < w6.heap.size := (Array.getElem?_eq_some_iff.1 hS6).1
  have hr6_1 : w.heap.size + 1 < w6.heap.size := (Array.getElem?_eq_some_iff.1 hR6).1
  have hr6_2 : w.heap.size + 1 + 1 < w6.heap.size := (Array.getElem?_eq_some_iff.1 hD6).1
  clear hm6 hS5 hR5 hD5 hM5 hr5_0 hr5_1 hr5_2 c5_10 c5_11 d5_8 z5_8 d5_9 z5_9
  clear hS6 hR6 hD6
  go_wp2
  refine bodyPost_ret (v := .agg #[.int .i64 x.left.kind, .int .i64 x.left.n, .int .i64 x.top.kind, .int .i64 x.top.n, .int .i64 x.right.kind, .int .i64 x.right.n, .int .i64 x.bottom.kind, .int .i64 x.bottom.n, .int .i64 x.start.kind, .int .i64 x.start.n, .int .i64 x.stop.kind, .int .i64 x.stop.n]) ?_ rfl ⟨rfl, ?_⟩
  · simp [results, Tryd.results46, go_sem, *]
  · (repeat (first | with_reducible exact Mod.refl _ _ | with_reducible refine Mod.drewN ?_ _ | with_reducible refine Mod.drew ?_ | with_reducible refine Mod.alloc ?_ _ | ((with_reducible refine Mod.setNew ?_ ?_ _ _ _); (rotate_left; omega)) | with_reducible refine Mod.setAt ?_ _ _ _ | with_reducible exact hM6 | with_reducible refine Mod.thenNone ?_ hM6 ))

set_option maxRecDepth 100000 in
set_option maxHeartbeats 8000000 in
theorem eqSides_same (x : Sides) (w : World) : Calls Tryd.prog 67 #[.agg #[.int .i64 x.left.kind, .int .i64 x.left.n, .int .i64 x.top.kind, .int .i64 x.top.n, .int .i64 x.right.kind, .int .i64 x.right.n, .int .i64 x.bottom.kind, .int .i64 x.bottom.n, .int .i64 x.start.kind, .int .i64 x.start.n, .int .i64 x.stop.kind, .int .i64 x.stop.n], .agg #[.int .i64 x.left.kind, .int .i64 x.left.n, .int .i64 x.top.kind, .int .i64 x.top.n, .int .i64 x.right.kind, .int .i64 x.right.n, .int .i64 x.bottom.kind, .int .i64 x.bottom.n, .int .i64 x.start.kind, .int .i64 x.start.n, .int .i64 x.stop.kind, .int .i64 x.stop.n]] w fun e w' => e = .returned (.bool true) ∧ Mod (fun _ => False) w w' := by
  go_enter Tryd.func67, Tryd.ntmps67
  go_wp2_with fail
  refine (eqValue_any x.left x.left _).mono ?_
  rintro e w1 ⟨rfl, hm1⟩
  rw [decide_eq_true rfl]
  have hM1 : Mod (fun _ => False) w w1 := by (repeat (first | with_reducible exact Mod.refl _ _ | with_reducible refine Mod.drewN ?_ _ | with_reducible refine Mod.drew ?_ | with_reducible refine Mod.alloc ?_ _ | ((with_reducible refine Mod.setNew ?_ ?_ _ _ _); (rotate_left; omega)) | with_reducible refine Mod.setAt ?_ _ _ _ | with_reducible exact hm1 | with_reducible refine Mod.thenNone ?_ hm1 ))
  have hA1 := hm1.blk (al2a _ _ _) (fun f => f)
  have hB1 := hm1.blk (al2b _ _ _) (fun f => f)
  have c1_2 := blk_cell hA1 (j := 2) rfl
  have d1_2 := blk_cell hB1 (j := 2) rfl
  have c1_3 := blk_cell hA1 (j := 3) rfl
  have d1_3 := blk_cell hB1 (j := 3) rfl
  have hr1_0 : w.heap.size < w1.heap.size := (Array.getElem?_eq_some_iff.1 hA1).1
  have hr1_1 : w.heap.size + 1 < w1.heap.size := (Array.getElem?_eq_some_iff.1 hB1).1
  clear hm1
  go_wp2_with fail
  refine (eqValue_any x.top x.top _).mono ?_
  rintro e w2 ⟨rfl, hm2⟩
  rw [decide_eq_true rfl]
  have hM2 : Mod (fun _ => False) w w2 := hM1.thenNone hm2
  have hA2 := hm2.blk hA1 (fun f => f)
  have hB2 := hm2.blk hB1 (fun f => f)
  have c2_4 := blk_cell hA2 (j := 4) rfl
  have d2_4 := blk_cell hB2 (j := 4) rfl
  have c2_5 := blk_cell hA2 (j := 5) rfl
  have d2_5 := blk_cell hB2 (j := 5) rfl
  have hr2_0 : w.heap.size < w2.heap.size := (Array.getElem?_eq_some_iff.1 hA2).1
  have hr2_1 : w.heap.size + 1 < w2.heap.size := (Array.getElem?_eq_some_iff.1 hB2).1
  clear hm2 hA1 hB1 hM1 hr1_0 hr1_1 c1_2 d1_2 c1_3 d1_3
  go_wp2_with fail
  refine (eqValue_any x.right x.right _).mono ?_
  rintro e w3 ⟨rfl, hm3⟩
  rw [decide_eq_true rfl]
  have hM3 : Mod (fun _ => False) w w3 := hM2.thenNone hm3
  have hA3 := hm3.blk hA2 (fun f => f)
  have hB3 := hm3.blk hB2 (fun f => f)
  have c3_6 := blk_cell hA3 (j := 6) rfl
  have d3_6 := blk_cell hB3 (j := 6) rfl
  have c3_7 := blk_cell hA3 (j := 7) rfl
  have d3_7 := blk_cell hB3 (j := 7) rfl
  have hr3_0 : w.heap.size < w3.heap.size := (Array.getElem?_eq_some_iff.1 hA3).1
  have hr3_1 : w.heap.size + 1 < w3.heap.size := (Array.getElem?_eq_some_iff.1 hB3).1
  clear hm3 hA2 hB2 hM2 hr2_0 hr2_1 c2_4 d2_4 c2_5 d2_5
  go_wp2_with fail
  refine (eqValue_any x.bottom x.bottom _).mono ?_
  rintro e w4 ⟨rfl, hm4⟩
  rw [decide_eq_true rfl]
  have hM4 : Mod (fun _ => False) w w4 := hM3.thenNone hm4
  have hA4 := hm4.blk hA3 (fun f => f)
  have hB4 := hm4.blk hB3 (fun f => f)
  have c4_8 := blk_cell hA4 (j := 8) rfl
  have d4_8 := blk_cell hB4 (j := 8) rfl
  have c4_9 := blk_cell hA4 (j := 9) rfl
  have d4_9 := blk_cell hB4 (j := 9) rfl
  have hr4_0 : w.heap.size < w4.heap.size := (Array.getElem?_eq_some_iff.1 hA4).1
  have hr4_1 : w.heap.size + 1 < w4.heap.size := (Array.getElem?_eq_some_iff.1 hB4).1
  clear hm4 hA3 hB3 hM3 hr3_0 hr3_1 c3_6 d3_6 c3_7 d3_7
  go_wp2_with fail
  refine (eqValue_any x.start x.start _).mono ?_
  rintro e w5 ⟨rfl, hm5⟩
  rw [decide_eq_true rfl]
  have hM5 : Mod (fun _ => False) w w5 := hM4.thenNone hm5
  have hA5 := hm5.blk hA4 (fun f => f)
  have hB5 := hm5.blk hB4 (fun f => f)
  have c5_10 := blk_cell hA5 (j := 10) rfl
  have d5_10 := blk_cell hB5 (j := 10) rfl
  have c5_11 := blk_cell hA5 (j := 11) rfl
  have d5_11 := blk_cell hB5 (j := 11) rfl
  have hr5_0 : w.heap.size < w5.heap.size := (Array.getElem?_eq_some_iff.1 hA5).1
  have hr5_1 : w.heap.size + 1 < w5.heap.size := (Array.getElem?_eq_some_iff.1 hB5).1
  clear hm5 hA4 hB4 hM4 hr4_0 hr4_1 c4_8 d4_8 c4_9 d4_9
  go_wp2_with fail
  refine (eqValue_any x.stop x.stop _).mono ?_
  rintro e w6 ⟨rfl, hm6⟩
  rw [decide_eq_true rfl]
  have hM6 : Mod (fun _ => False) w w6 := hM5.thenNone hm6
  have hA6 := hm6.blk hA5 (fun f => f)
  have hB6 := hm6.blk hB5 (fun f => f)
  have hr6_0 : w.heap.size < w6.heap.size := (Array.getElem?_eq_some_iff.1 hA6).1
  have hr6_1 : w.heap.size + 1 < w6.heap.size := (Array.getElem?_eq_some_iff.1 hB6).1
  clear hm6 hA5 hB5 hM5 hr5_0 hr5_1 c5_10 d5_10 c5_11 d5_11
  clear hA6 hB6
  go_wp2
  go_ret
  exact ⟨rfl, hM6⟩

structure Edges where
  left : Int
  top : Int
  right : Int
  bottom : Int
  deriving DecidableEq, Inhabited
def Edges.cells (x : Edges) : List Value := [.int .i64 x.left, .int .i64 x.top, .int .i64 x.right, .int .i64 x.bottom]

set_option maxRecDepth 100000 in
set_option maxHeartbeats 8000000 in
theorem toEdges_any (x : Edges) (w : World) : Calls Tryd.prog 47 #[.agg #[.int .i64 x.left, .int .i64 x.top, .int .i64 x.right, .int .i64 x.bottom]] w fun e w' => e = .returned (.agg #[.int .i64 x.left, .int .i64 x.top, .int .i64 x.right, .int .i64 x.bottom]) ∧ Mod (fun _ => False) w w' := by
  go_enter Tryd.func47, Tryd.ntmps47
  go_wp2
  refine bodyPost_ret (v := .agg #[.int .i64 x.left, .int .i64 x.top, .int .i64 x.right, .int .i64 x.bottom]) (by simp [results, Tryd.results47, go_sem]) rfl ⟨rfl, by (repeat (first | with_reducible exact Mod.refl _ _ | with_reducible refine Mod.drewN ?_ _ | with_reducible refine Mod.drew ?_ | with_reducible refine Mod.alloc ?_ _ | ((with_reducible refine Mod.setNew ?_ ?_ _ _ _); (rotate_left; omega)) | with_reducible refine Mod.setAt ?_ _ _ _ ))⟩

set_option maxRecDepth 100000 in
set_option maxHeartbeats 8000000 in
theorem eqEdges_same (x : Edges) (w : World) : Calls Tryd.prog 68 #[.agg #[.int .i64 x.left, .int .i64 x.top, .int .i64 x.right, .int .i64 x.bottom], .agg #[.int .i64 x.left, .int .i64 x.top, .int .i64 x.right, .int .i64 x.bottom]] w fun e w' => e = .returned (.bool true) ∧ Mod (fun _ => False) w w' := by
  go_enter Tryd.func68, Tryd.ntmps68
  go_wp2
  go_ret
  exact ⟨rfl, by (repeat (first | with_reducible exact Mod.refl _ _ | with_reducible refine Mod.drewN ?_ _ | with_reducible refine Mod.drew ?_ | with_reducible refine Mod.alloc ?_ _ | ((with_reducible refine Mod.setNew ?_ ?_ _ _ _); (rotate_left; omega)) | with_reducible refine Mod.setAt ?_ _ _ _ ))⟩

structure Style where
  dir : Int
  wrap : Int
  justify : Int
  items : Int
  self : Int
  content : Int
  apart : Bool
  hidden : Bool
  order : Int
  grow : Int
  shrink : Int
  basis : Val
  width : Val
  height : Val
  minWidth : Val
  minHeight : Val
  maxWidth : Val
  maxHeight : Val
  ratio : Int
  margin : Sides
  inset : Sides
  pad : Edges
  border : Edges
  rowGap : Int
  colGap : Int
  deriving DecidableEq, Inhabited
def Style.cells (x : Style) : List Value := [.int .i64 x.dir, .int .i64 x.wrap, .int .i64 x.justify, .int .i64 x.items, .int .i64 x.self, .int .i64 x.content, .bool x.apart, .bool x.hidden, .int .i64 x.order, .int .i64 x.grow, .int .i64 x.shrink, .int .i64 x.basis.kind, .int .i64 x.basis.n, .int .i64 x.width.kind, .int .i64 x.width.n, .int .i64 x.height.kind, .int .i64 x.height.n, .int .i64 x.minWidth.kind, .int .i64 x.minWidth.n, .int .i64 x.minHeight.kind, .int .i64 x.minHeight.n, .int .i64 x.maxWidth.kind, .int .i64 x.maxWidth.n, .int .i64 x.maxHeight.kind, .int .i64 x.maxHeight.n, .int .i64 x.ratio, .int .i64 x.margin.left.kind, .int .i64 x.margin.left.n, .int .i64 x.margin.top.kind, .int .i64 x.margin.top.n, .int .i64 x.margin.right.kind, .int .i64 x.margin.right.n, .int .i64 x.margin.bottom.kind, .int .i64 x.margin.bottom.n, .int .i64 x.margin.start.kind, .int .i64 x.margin.start.n, .int .i64 x.margin.stop.kind, .int .i64 x.margin.stop.n, .int .i64 x.inset.left.kind, .int .i64 x.inset.left.n, .int .i64 x.inset.top.kind, .int .i64 x.inset.top.n, .int .i64 x.inset.right.kind, .int .i64 x.inset.right.n, .int .i64 x.inset.bottom.kind, .int .i64 x.inset.bottom.n, .int .i64 x.inset.start.kind, .int .i64 x.inset.start.n, .int .i64 x.inset.stop.kind, .int .i64 x.inset.stop.n, .int .i64 x.pad.left, .int .i64 x.pad.top, .int .i64 x.pad.right, .int .i64 x.pad.bottom, .int .i64 x.border.left, .int .i64 x.border.top, .int .i64 x.border.right, .int .i64 x.border.bottom, .int .i64 x.rowGap, .int .i64 x.colGap]

end Go.Proofs.YthffgbhphjkdeaaDoor
