/-
  PROVED: the reference's draws for SnapTo and SnapFrame: what is drawn lies in its range. No condition.
-/
import Derived.Test.YtpmbobopkfacmaaDraw
namespace Go.Proofs.Ytpmbobopkfacmaa
open Go.RowKit

set_option maxRecDepth 100000 in
theorem l23Step_any (B g : Nat) (w : World) (hc : Cur B 103 w g) :
    Calls Try.prog 51 #[.pointer (some ⟨g, 0, none⟩)] w (Drew B 103 g w fun _ => True) := by
  go_enter Try.func51, Try.ntmps51
  go_wp2_with fail
  refine (l01PickLit_any B g w hc [1, 2, 3, 64, 32, 100, 4096, 4097, 0, -1] _ rfl _ _ rfl (by simp) (by simp)).mono ?_
  rintro e w1 ⟨x, _, rfl, hc1, hm1⟩
  go_wp2
  go_ret
  exact ⟨x, trivial, rfl, hc1, hm1⟩

set_option maxRecDepth 100000 in
theorem drawSnapTo_any (B : Nat) (w : World) (a : Option Addr) (len cap : Nat) (hB : B ≤ w.heap.size) (hl : len ≤ 1048576) (hy : Bytes B w a len) :
    Calls Try.prog 12 #[.slice a len cap] w fun e w' => ∃ n s : Int, e = .returned (.tuple #[.int .i64 n, .int .i64 s]) ∧ Mod (fun _ => False) w w' := by
  go_enter Try.func12, Try.ntmps12
  go_wp2_with fail
  refine (l01New_any B w a len cap hB hl hy).mono ?_
  rintro e w1 ⟨g, hg, rfl, hc1, hm1⟩
  go_wp2_with fail
  refine (l01Below_any B _ w1 hc1 _ (by omega)).mono ?_
  rintro e w2 ⟨x, hx, rfl, hc2, hm2⟩
  go_wp2_with fail
  refine (l01PickLit_any B _ w2 hc2 [0, 1, -1, 31, 32, 33, -32, -33, 1000000000, 1000000001, -9223372036854775808, x] _ rfl _ _ rfl (by simp) (by simp)).mono ?_
  rintro e w3 ⟨y, hy, rfl, hc3, hm3⟩
  go_wp2_with fail
  refine (l23Step_any B _ w3 hc3).mono ?_
  rintro e w4 ⟨z, hz, rfl, hc4, hm4⟩
  go_wp2
  go_ret2
  exact ⟨y, z, rfl, hm1.thenNew ((hm2.trans hm3).trans hm4) hg⟩

def l23Frame_post (B g : Nat) (w : World) (e : Ending) (w' : World) : Prop :=
  ∃ x y a b : Int, e = .returned (.agg #[.int .i64 1, .int .i64 x, .int .i64 y, .int .i64 a, .int .i64 b]) ∧ (-2500 ≤ x ∧ x < 2500 ∧ -2500 ≤ y ∧ y < 2500 ∧ 0 ≤ a ∧ a < 3000 ∧ 0 ≤ b ∧ b < 3000) ∧ Cur B 103 w' g ∧ Mod (fun k => k = g) w w'
set_option maxRecDepth 100000 in
theorem l23Frame_any (B g : Nat) (w : World) (hc : Cur B 103 w g) :
    Calls Try.prog 54 #[.pointer (some ⟨g, 0, none⟩)] w (l23Frame_post B g w) := by
  go_enter Try.func54, Try.ntmps54
  have hgs := hc.size
  go_wp2_with fail
  refine (l01Below_any B g _ (hc.alloc _) _ (by omega)).mono ?_
  rintro e w1 ⟨x1, hx1, rfl, hc1, hm1⟩
  go_wp2_with fail
  refine (l01Below_any B g w1 hc1 _ (by omega)).mono ?_
  rintro e w2 ⟨x2, hx2, rfl, hc2, hm2⟩
  go_wp2_with fail
  refine (l01Below_any B g w2 hc2 _ (by omega)).mono ?_
  rintro e w3 ⟨x3, hx3, rfl, hc3, hm3⟩
  go_wp2_with fail
  refine (l01Below_any B g w3 hc3 _ (by omega)).mono ?_
  rintro e w4 ⟨x4, hx4, rfl, hc4, hm4⟩
  have hm := ((hm1.trans hm2).trans hm3).trans hm4
  have hm0 := ((Mod.refl (fun k => k = g) w).alloc _).trans hm
  have hb := hm.blk (heap_alloc_new w _) (show ¬ w.heap.size = g by omega)
  have bc0 := blk_cell hb (j := 0) rfl
  have bz0 := blk_free hb 0
  have bc1 := blk_cell hb (j := 1) rfl
  have bz1 := blk_free hb 1
  have bc2 := blk_cell hb (j := 2) rfl
  have bz2 := blk_free hb 2
  have bc3 := blk_cell hb (j := 3) rfl
  have bz3 := blk_free hb 3
  have bc4 := blk_cell hb (j := 4) rfl
  have bz4 := blk_free hb 4
  have Hb := hid hb
  clear hb
  have y1 : 0 ≤ x1 ∧ x1 < 5000 := by omega
  have y2 : 0 ≤ x2 ∧ x2 < 5000 := by omega
  have y3 : 0 ≤ x3 ∧ x3 < 3000 := by omega
  have y4 : 0 ≤ x4 ∧ x4 < 3000 := by omega
  clear hx1 hx2 hx3 hx4
  obtain ⟨y1, y1'⟩ := y1
  obtain ⟨y2, y2'⟩ := y2
  obtain ⟨y3, y3'⟩ := y3
  obtain ⟨y4, y4'⟩ := y4
  go_wp2
  refine bodyPost_ret (v := .agg #[.int .i64 1, .int .i64 (x1 - 2500), .int .i64 (x2 - 2500), .int .i64 x3, .int .i64 x4]) ?_ rfl ⟨_, _, _, _, rfl, by omega, ?_, ?_⟩
  · simp [results, Try.results54, go_sem, *]
  · refine hc4.mod (R := fun k => k = w.heap.size) ?_ (show ¬ g = w.heap.size by omega) (fun k hk (e : k = w.heap.size) => by have := hc.base; omega)
    (repeat (first | with_reducible exact Mod.refl _ _ | with_reducible refine Mod.drewN ?_ _ | with_reducible refine Mod.drew ?_ | with_reducible refine Mod.alloc ?_ _ | with_reducible refine Mod.setNew ?_ (by simp) _ _ _ | with_reducible refine Mod.setAt ?_ _ _ _))
  · (repeat (first | with_reducible exact hm0 | with_reducible exact Mod.refl _ _ | with_reducible refine Mod.drewN ?_ _ | with_reducible refine Mod.drew ?_ | with_reducible refine Mod.alloc ?_ _ | with_reducible refine Mod.setNew ?_ (by simp) _ _ _ | with_reducible refine Mod.setAt ?_ _ _ _))

set_option maxRecDepth 100000 in
theorem drawSnapFrame_any (B : Nat) (w : World) (a : Option Addr) (len cap : Nat) (hB : B ≤ w.heap.size) (hl : len ≤ 1048576) (hy : Bytes B w a len) :
    Calls Try.prog 15 #[.slice a len cap] w fun e w' => ∃ x y a b s : Int, e = .returned (.tuple #[.agg #[.int .i64 1, .int .i64 x, .int .i64 y, .int .i64 a, .int .i64 b], .int .i64 s]) ∧ (-2500 ≤ x ∧ x < 2500 ∧ -2500 ≤ y ∧ y < 2500 ∧ 0 ≤ a ∧ a < 3000 ∧ 0 ≤ b ∧ b < 3000) ∧ Mod (fun _ => False) w w' := by
  have Hy := hid hy
  clear hy
  go_enter Try.func15, Try.ntmps15
  go_wp2_with fail
  refine (l01New_any B _ a len cap (by simp; omega) hl (Hy.out.same fun k hk => Below.heap_alloc _ _ _ (by omega))).mono ?_
  rintro e w1 ⟨g, hg, rfl, hc1, hm1⟩
  go_wp2_with fail
  refine (l23Frame_any B _ w1 hc1).mono ?_
  rintro e w2 ⟨x, y, a, b, rfl, hf, hc2, hm2⟩
  go_wp2_with fail
  refine (l23Step_any B _ w2 hc2).mono ?_
  rintro e w3 ⟨s, _, rfl, hc3, hm3⟩
  have hm := hm1.thenNew (hm2.trans hm3) hg
  have hb := hm.blk (heap_alloc_new w _) (fun h => h)
  have bc0 := blk_cell hb (j := 0) rfl
  have bz0 := blk_free hb 0
  have bc1 := blk_cell hb (j := 1) rfl
  have bz1 := blk_free hb 1
  have bc2 := blk_cell hb (j := 2) rfl
  have bz2 := blk_free hb 2
  have bc3 := blk_cell hb (j := 3) rfl
  have bz3 := blk_free hb 3
  have bc4 := blk_cell hb (j := 4) rfl
  have bz4 := blk_free hb 4
  have Hb := hid hb
  clear hb
  go_wp2
  refine bodyPost_ret (v := .tuple #[.agg #[.int .i64 1, .int .i64 x, .int .i64 y, .int .i64 a, .int .i64 b], .int .i64 s]) ?_ rfl ⟨_, _, _, _, _, rfl, hf, ?_⟩
  · simp [results, Try.results15, go_sem, *]
  · have hm0 := ((Mod.refl (fun _ => False) w).alloc _).trans hm
    (repeat (first | with_reducible exact hm0 | with_reducible exact Mod.refl _ _ | with_reducible refine Mod.drewN ?_ _ | with_reducible refine Mod.drew ?_ | with_reducible refine Mod.alloc ?_ _ | with_reducible refine Mod.setNew ?_ (by simp) _ _ _ | with_reducible refine Mod.setAt ?_ _ _ _))

end Go.Proofs.Ytpmbobopkfacmaa
