/-
  PROVED: FrameLine: the program's and the reference's write the five numbers, blanks between. Condition: the library's table of powers lies as its text lays it.
-/
import Derived.Test.YtefgjjmnjanleaaDoorText
namespace Go.Proofs.YtefgjjmnjanleaaDoor
open Go.RowKit

structure Frame where
  node : Int
  x : Int
  y : Int
  wide : Int
  high : Int
  deriving DecidableEq, Inhabited
def Frame.cells (f : Frame) : List Value := [.int .i64 f.node, .int .i64 f.x, .int .i64 f.y, .int .i64 f.wide, .int .i64 f.high]
theorem ret_str {a b : ByteArray} (h : a = b) : Ending.returned (.string a) = .returned (.string b) := by rw [h]

set_option maxRecDepth 100000 in
set_option maxHeartbeats 2000000 in
theorem sframeLine_any (x0 x1 x2 x3 x4 : Int) (b0 : I64 x0) (b1 : I64 x1) (b2 : I64 x2) (b3 : I64 x3) (b4 : I64 x4) (w : World) :
    Calls Tryd.prog 14 #[.agg #[.int .i64 x0, .int .i64 x1, .int .i64 x2, .int .i64 x3, .int .i64 x4]] w fun e w' => e = .returned (.string ⟨(spacedOf [x0, x1, x2, x3, x4]).toArray⟩) ∧ Mod (fun _ => False) w w' := by
  have k0 := fun W => sdecimal_any x0 b0.1 b0.2 W
  have k1 := fun W => sdecimal_any x1 b1.1 b1.2 W
  have k2 := fun W => sdecimal_any x2 b2.1 b2.2 W
  have k3 := fun W => sdecimal_any x3 b3.1 b3.2 W
  have k4 := fun W => sdecimal_any x4 b4.1 b4.2 W
  have l0 := Lib.itoa_length_le x0 b0.1 b0.2
  have l1 := Lib.itoa_length_le x1 b1.1 b1.2
  have l2 := Lib.itoa_length_le x2 b2.1 b2.2
  have l3 := Lib.itoa_length_le x3 b3.1 b3.2
  have l4 := Lib.itoa_length_le x4 b4.1 b4.2
  clear b0 b1 b2 b3 b4
  go_enter Tryd.func14, Tryd.ntmps14
  go_wp2
  have hB := heap_alloc_new w (.cells [.int .i64 x0, .int .i64 x1, .int .i64 x2, .int .i64 x3, .int .i64 x4].toArray 30)
  have q0 := hold (blk_cell hB (j := 0) rfl)
  have q1 := hold (blk_cell hB (j := 1) rfl)
  have q2 := hold (blk_cell hB (j := 2) rfl)
  have q3 := hold (blk_cell hB (j := 3) rfl)
  have q4 := hold (blk_cell hB (j := 4) rfl)
  clear hB
  refine wp_region_mod (by kernel_rfl) (by kernel_rfl) ?_
  refine RM.const (v := ?_) (fun _ => rfl) (fun xq wq hSq => ?_) ?_; rotate_left; (focus (go_simp; (first | done | with_reducible rfl | ((split; (exfalso; omega)); with_reducible rfl)))); (try simp only [Act.put, List.setIfInBounds_toArray, List.set_cons_zero, List.set_cons_succ])
  refine RM.const (v := ?_) (fun _ => rfl) (fun xq wq hSq => ?_) ?_; rotate_left; (focus (go_simp; (first | done | with_reducible rfl | ((split; (exfalso; omega)); with_reducible rfl)))); (try simp only [Act.put, List.setIfInBounds_toArray, List.set_cons_zero, List.set_cons_succ])
  refine RM.callc (v := ?_) (f := ?_) (args := ?_) (fun _ => rfl) (fun xq wq hSq => ?_) (fun wq hSq => ?_) ?_; rotate_left 3; (focus (go_simp; (refine ⟨?_, ?_⟩ <;> with_reducible rfl))); (focus (exact k0 _)); (try simp only [Act.put, List.setIfInBounds_toArray, List.set_cons_zero, List.set_cons_succ])
  refine RM.const (v := ?_) (fun _ => rfl) (fun xq wq hSq => ?_) ?_; rotate_left; (focus (go_simp; (first | done | with_reducible rfl | ((split; (exfalso; omega)); with_reducible rfl)))); (try simp only [Act.put, List.setIfInBounds_toArray, List.set_cons_zero, List.set_cons_succ])
  refine RM.const (v := ?_) (fun _ => rfl) (fun xq wq hSq => ?_) ?_; rotate_left; (focus (go_simp; (first | done | with_reducible rfl | ((split; (exfalso; omega)); with_reducible rfl)))); (try simp only [Act.put, List.setIfInBounds_toArray, List.set_cons_zero, List.set_cons_succ])
  refine RM.const (v := ?_) (fun _ => rfl) (fun xq wq hSq => ?_) ?_; rotate_left; (focus (go_simp; (first | done | with_reducible rfl | ((split; (exfalso; omega)); with_reducible rfl)))); (try simp only [Act.put, List.setIfInBounds_toArray, List.set_cons_zero, List.set_cons_succ])
  refine RM.callc (v := ?_) (f := ?_) (args := ?_) (fun _ => rfl) (fun xq wq hSq => ?_) (fun wq hSq => ?_) ?_; rotate_left 3; (focus (go_simp; (refine ⟨?_, ?_⟩ <;> with_reducible rfl))); (focus (exact k1 _)); (try simp only [Act.put, List.setIfInBounds_toArray, List.set_cons_zero, List.set_cons_succ])
  refine RM.const (v := ?_) (fun _ => rfl) (fun xq wq hSq => ?_) ?_; rotate_left; (focus (go_simp; (first | done | with_reducible rfl | ((split; (exfalso; omega)); with_reducible rfl)))); (try simp only [Act.put, List.setIfInBounds_toArray, List.set_cons_zero, List.set_cons_succ])
  refine RM.const (v := ?_) (fun _ => rfl) (fun xq wq hSq => ?_) ?_; rotate_left; (focus (go_simp; (first | done | with_reducible rfl | ((split; (exfalso; omega)); with_reducible rfl)))); (try simp only [Act.put, List.setIfInBounds_toArray, List.set_cons_zero, List.set_cons_succ])
  refine RM.const (v := ?_) (fun _ => rfl) (fun xq wq hSq => ?_) ?_; rotate_left; (focus (go_simp; (first | done | with_reducible rfl | ((split; (exfalso; omega)); with_reducible rfl)))); (try simp only [Act.put, List.setIfInBounds_toArray, List.set_cons_zero, List.set_cons_succ])
  refine RM.const (v := ?_) (fun _ => rfl) (fun xq wq hSq => ?_) ?_; rotate_left; (focus (go_simp; (first | done | with_reducible rfl | ((split; (exfalso; omega)); with_reducible rfl)))); (try simp only [Act.put, List.setIfInBounds_toArray, List.set_cons_zero, List.set_cons_succ])
  refine RM.callc (v := ?_) (f := ?_) (args := ?_) (fun _ => rfl) (fun xq wq hSq => ?_) (fun wq hSq => ?_) ?_; rotate_left 3; (focus (go_simp; (refine ⟨?_, ?_⟩ <;> with_reducible rfl))); (focus (exact k2 _)); (try simp only [Act.put, List.setIfInBounds_toArray, List.set_cons_zero, List.set_cons_succ])
  refine RM.const (v := ?_) (fun _ => rfl) (fun xq wq hSq => ?_) ?_; rotate_left; (focus (go_simp; (first | done | with_reducible rfl | ((split; (exfalso; omega)); with_reducible rfl)))); (try simp only [Act.put, List.setIfInBounds_toArray, List.set_cons_zero, List.set_cons_succ])
  refine RM.const (v := ?_) (fun _ => rfl) (fun xq wq hSq => ?_) ?_; rotate_left; (focus (go_simp; (first | done | with_reducible rfl | ((split; (exfalso; omega)); with_reducible rfl)))); (try simp only [Act.put, List.setIfInBounds_toArray, List.set_cons_zero, List.set_cons_succ])
  refine RM.const (v := ?_) (fun _ => rfl) (fun xq wq hSq => ?_) ?_; rotate_left; (focus (go_simp; (first | done | with_reducible rfl | ((split; (exfalso; omega)); with_reducible rfl)))); (try simp only [Act.put, List.setIfInBounds_toArray, List.set_cons_zero, List.set_cons_succ])
  refine RM.const (v := ?_) (fun _ => rfl) (fun xq wq hSq => ?_) ?_; rotate_left; (focus (go_simp; (first | done | with_reducible rfl | ((split; (exfalso; omega)); with_reducible rfl)))); (try simp only [Act.put, List.setIfInBounds_toArray, List.set_cons_zero, List.set_cons_succ])
  refine RM.callc (v := ?_) (f := ?_) (args := ?_) (fun _ => rfl) (fun xq wq hSq => ?_) (fun wq hSq => ?_) ?_; rotate_left 3; (focus (go_simp; (refine ⟨?_, ?_⟩ <;> with_reducible rfl))); (focus (exact k3 _)); (try simp only [Act.put, List.setIfInBounds_toArray, List.set_cons_zero, List.set_cons_succ])
  refine RM.const (v := ?_) (fun _ => rfl) (fun xq wq hSq => ?_) ?_; rotate_left; (focus (go_simp; (first | done | with_reducible rfl | ((split; (exfalso; omega)); with_reducible rfl)))); (try simp only [Act.put, List.setIfInBounds_toArray, List.set_cons_zero, List.set_cons_succ])
  refine RM.const (v := ?_) (fun _ => rfl) (fun xq wq hSq => ?_) ?_; rotate_left; (focus (go_simp; (first | done | with_reducible rfl | ((split; (exfalso; omega)); with_reducible rfl)))); (try simp only [Act.put, List.setIfInBounds_toArray, List.set_cons_zero, List.set_cons_succ])
  refine RM.const (v := ?_) (fun _ => rfl) (fun xq wq hSq => ?_) ?_; rotate_left; (focus (go_simp; (first | done | with_reducible rfl | ((split; (exfalso; omega)); with_reducible rfl)))); (try simp only [Act.put, List.setIfInBounds_toArray, List.set_cons_zero, List.set_cons_succ])
  refine RM.const (v := ?_) (fun _ => rfl) (fun xq wq hSq => ?_) ?_; rotate_left; (focus (go_simp; (first | done | with_reducible rfl | ((split; (exfalso; omega)); with_reducible rfl)))); (try simp only [Act.put, List.setIfInBounds_toArray, List.set_cons_zero, List.set_cons_succ])
  refine RM.callc (v := ?_) (f := ?_) (args := ?_) (fun _ => rfl) (fun xq wq hSq => ?_) (fun wq hSq => ?_) ?_; rotate_left 3; (focus (go_simp; (refine ⟨?_, ?_⟩ <;> with_reducible rfl))); (focus (exact k4 _)); (try simp only [Act.put, List.setIfInBounds_toArray, List.set_cons_zero, List.set_cons_succ])
  refine RM.const (v := ?_) (fun _ => rfl) (fun xq wq hSq => ?_) ?_; rotate_left; (focus (go_simp; (first | done | with_reducible rfl | ((split; (exfalso; omega)); with_reducible rfl)))); (try simp only [Act.put, List.setIfInBounds_toArray, List.set_cons_zero, List.set_cons_succ])
  refine RM.const (v := ?_) (fun _ => rfl) (fun xq wq hSq => ?_) ?_; rotate_left; (focus (go_simp; (first | done | with_reducible rfl | ((split; (exfalso; omega)); with_reducible rfl)))); (try simp only [Act.put, List.setIfInBounds_toArray, List.set_cons_zero, List.set_cons_succ])
  refine RM.done (fun xq wq hSq hUq => ?_)
  clear q0 q1 q2 q3 q4
  go_wp2
  go_ret
  refine ⟨ret_str ?_, ((Mod.refl _ w).alloc _).thenNone hSq⟩
  simp only [ByteArray.mk_append_mk]
  simp [spacedOf, Lib.join_cons, Lib.joinTail]

/-- A literal of ints reads as its list. -/
theorem lit_ints (w : World) (l : List Int) : IntSlice (fun k => k = w.heap.size) (w.alloc (.cells (l.map (Value.int .i64)).toArray 3)) (some ⟨w.heap.size, 0, none⟩) l := by
  have e : (l.map icell).flatten = l.map (Value.int .i64) := by
    induction l with
    | nil => rfl
    | cons x l ih => simp [icell, ih]
  refine flat_of_blk (e := 3) ?_ (fun _ => rfl)
  rw [e]
  exact heap_alloc_new w _

set_option maxRecDepth 100000 in
set_option maxHeartbeats 2000000 in
theorem frameLine_any (x0 x1 x2 x3 x4 : Int) (b0 : I64 x0) (b1 : I64 x1) (b2 : I64 x2) (b3 : I64 x3) (b4 : I64 x4) (w : World) (ht : Tab w) :
    Calls Tryd.prog 16 #[.agg #[.int .i64 x0, .int .i64 x1, .int .i64 x2, .int .i64 x3, .int .i64 x4]] w fun e w' => e = .returned (.string ⟨(spacedOf [x0, x1, x2, x3, x4]).toArray⟩) ∧ Mod (fun _ => False) w w' := by
  have k := fun W h h' => spaced_any [x0, x1, x2, x3, x4] (some ⟨w.heap.size + 1, 0, none⟩) 5 (fun k => k = w.heap.size + 1) W (by simp) h (by simp; exact ⟨b0, b1, b2, b3, b4⟩) h'
  have hl := lit_ints (w.alloc (.cells #[.int .i64 x0, .int .i64 x1, .int .i64 x2, .int .i64 x3, .int .i64 x4] 30)) [x0, x1, x2, x3, x4]
  simp only [World.size_alloc] at hl
  clear b0 b1 b2 b3 b4
  have Ht := hid ht
  clear ht
  go_enter Tryd.func16, Tryd.ntmps16
  go_wp2_with fail
  refine (k _ hl (Ht.out.keep (((Mod.refl _ w).alloc _).alloc _))).mono ?_
  rintro e w9 ⟨rfl, hm9⟩
  clear k hl
  go_wp2
  go_ret
  exact ⟨rfl, (((Mod.refl _ w).alloc _).alloc _).thenNone hm9⟩

end Go.Proofs.YtefgjjmnjanleaaDoor
