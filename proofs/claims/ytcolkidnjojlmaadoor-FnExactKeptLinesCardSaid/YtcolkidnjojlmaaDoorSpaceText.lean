/-
  PROVED: SpaceOk and SpaceText: the program's and the reference's give the plain functions. Condition for the texts: the library's table of powers lies as its text lays it.
-/
import Derived.Test.YtcolkidnjojlmaaDoorText
import Derived.Test.YtcolkidnjojlmaaDoorData
namespace Go.Proofs.YtcolkidnjojlmaaDoor
open Go.RowKit

def spaceOk (s : Space) : Bool := (s.mode == 1 && s.n == 0) || ((s.mode == 2 || s.mode == 3) && inB s.n 0 1048576)
/-- The text of a space. -/
def spaceW (s : Space) : List UInt8 := if spaceOk s then (if s.mode = 2 then [109, 111, 115, 116, 32] ++ Lib.itoa s.n else if s.mode = 3 then [101, 120, 97, 99, 116, 32] ++ Lib.itoa s.n else [102, 114, 101, 101]) else [63]
theorem spaceOk_1 {m n : Int} (h : m = 1) : spaceOk ⟨m, n⟩ = (n == 0) := by subst h; simp [spaceOk]
theorem spaceOk_23 {m n : Int} (h : m = 2 ∨ m = 3) : spaceOk ⟨m, n⟩ = inB n 0 1048576 := by rcases h with rfl | rfl <;> simp [spaceOk]
theorem spaceOk_no {m n : Int} (h1 : m ≠ 1) (h2 : m ≠ 2) (h3 : m ≠ 3) : spaceOk ⟨m, n⟩ = false := by simp [spaceOk, h1, h2, h3]
theorem spaceOk_bound {m n : Int} (h : spaceOk ⟨m, n⟩ = true) : 0 ≤ n ∧ n ≤ 1048576 := by
  simp [spaceOk, inB] at h
  omega

theorem spaceOk_any (m n : Int) (w : World) : Calls Tryd.prog 111 #[.agg #[.int .i64 m, .int .i64 n]] w fun e w' => e = .returned (.bool (spaceOk ⟨m, n⟩)) ∧ Mod (fun _ => False) w w' := by
  by_cases h1 : m = 1
  · rw [spaceOk_1 h1]
    subst h1
    go_enter Tryd.func111, Tryd.ntmps111
    go_wp2_with (go_at_call 55; refine (in_any _ _ _ _).mono ?_; rintro e w' ⟨rfl, rfl⟩)
    go_ret
    exact ⟨rfl, by (repeat (first | with_reducible exact Mod.refl _ _ | with_reducible refine Mod.drewN ?_ _ | with_reducible refine Mod.drew ?_ | with_reducible refine Mod.alloc ?_ _ | ((with_reducible refine Mod.setNew ?_ ?_ _ _ _); (rotate_left; omega)) | with_reducible refine Mod.setAt ?_ _ _ _ ))⟩
  · by_cases h23 : m = 2 ∨ m = 3
    · rw [spaceOk_23 h23]
      rcases h23 with rfl | rfl
      · go_enter Tryd.func111, Tryd.ntmps111
        go_wp2_with (go_at_call 55; refine (in_any _ _ _ _).mono ?_; rintro e w' ⟨rfl, rfl⟩)
        go_ret
        exact ⟨rfl, by (repeat (first | with_reducible exact Mod.refl _ _ | with_reducible refine Mod.drewN ?_ _ | with_reducible refine Mod.drew ?_ | with_reducible refine Mod.alloc ?_ _ | ((with_reducible refine Mod.setNew ?_ ?_ _ _ _); (rotate_left; omega)) | with_reducible refine Mod.setAt ?_ _ _ _ ))⟩
      · go_enter Tryd.func111, Tryd.ntmps111
        go_wp2_with (go_at_call 55; refine (in_any _ _ _ _).mono ?_; rintro e w' ⟨rfl, rfl⟩)
        go_ret
        exact ⟨rfl, by (repeat (first | with_reducible exact Mod.refl _ _ | with_reducible refine Mod.drewN ?_ _ | with_reducible refine Mod.drew ?_ | with_reducible refine Mod.alloc ?_ _ | ((with_reducible refine Mod.setNew ?_ ?_ _ _ _); (rotate_left; omega)) | with_reducible refine Mod.setAt ?_ _ _ _ ))⟩
    · rw [spaceOk_no h1 (by omega) (by omega)]
      have h2 : m ≠ 2 := by omega
      have h3 : m ≠ 3 := by omega
      clear h23
      go_enter Tryd.func111, Tryd.ntmps111
      go_wp2_with (go_at_call 55; refine (in_any _ _ _ _).mono ?_; rintro e w' ⟨rfl, rfl⟩)
      go_ret
      exact ⟨rfl, by (repeat (first | with_reducible exact Mod.refl _ _ | with_reducible refine Mod.drewN ?_ _ | with_reducible refine Mod.drew ?_ | with_reducible refine Mod.alloc ?_ _ | ((with_reducible refine Mod.setNew ?_ ?_ _ _ _); (rotate_left; omega)) | with_reducible refine Mod.setAt ?_ _ _ _ ))⟩

theorem sspaceOk_any (m n : Int) (w : World) : Calls Tryd.prog 105 #[.agg #[.int .i64 m, .int .i64 n]] w fun e w' => e = .returned (.bool (spaceOk ⟨m, n⟩)) ∧ Mod (fun _ => False) w w' := by
  by_cases h1 : m = 1
  · rw [spaceOk_1 h1]
    subst h1
    go_enter Tryd.func105, Tryd.ntmps105
    go_wp2_with (go_at_call 52; refine (l01In_any _ _ _ _).mono ?_; rintro e w' ⟨rfl, rfl⟩)
    go_ret
    exact ⟨rfl, by (repeat (first | with_reducible exact Mod.refl _ _ | with_reducible refine Mod.drewN ?_ _ | with_reducible refine Mod.drew ?_ | with_reducible refine Mod.alloc ?_ _ | ((with_reducible refine Mod.setNew ?_ ?_ _ _ _); (rotate_left; omega)) | with_reducible refine Mod.setAt ?_ _ _ _ ))⟩
  · have e : spaceOk ⟨m, n⟩ = (inB m 2 3 && inB n 0 1048576) := by
      by_cases h23 : m = 2 ∨ m = 3
      · rw [spaceOk_23 h23]; rcases h23 with rfl | rfl <;> simp [inB]
      · rw [spaceOk_no h1 (by omega) (by omega)]
        have : inB m 2 3 = false := by simp [inB]; omega
        rw [this, Bool.false_and]
    rw [e]
    clear e
    cases h : inB m 2 3
    · go_enter Tryd.func105, Tryd.ntmps105
      go_wp2_with (go_at_call 52; refine (l01In_any _ _ _ _).mono ?_; rintro e w' ⟨rfl, rfl⟩)
      go_ret
      exact ⟨rfl, by (repeat (first | with_reducible exact Mod.refl _ _ | with_reducible refine Mod.drewN ?_ _ | with_reducible refine Mod.drew ?_ | with_reducible refine Mod.alloc ?_ _ | ((with_reducible refine Mod.setNew ?_ ?_ _ _ _); (rotate_left; omega)) | with_reducible refine Mod.setAt ?_ _ _ _ ))⟩
    · go_enter Tryd.func105, Tryd.ntmps105
      go_wp2_with (go_at_call 52; refine (l01In_any _ _ _ _).mono ?_; rintro e w' ⟨rfl, rfl⟩)
      go_ret
      exact ⟨rfl, by (repeat (first | with_reducible exact Mod.refl _ _ | with_reducible refine Mod.drewN ?_ _ | with_reducible refine Mod.drew ?_ | with_reducible refine Mod.alloc ?_ _ | ((with_reducible refine Mod.setNew ?_ ?_ _ _ _); (rotate_left; omega)) | with_reducible refine Mod.setAt ?_ _ _ _ ))⟩

theorem spaceW_no {m n : Int} (h : spaceOk ⟨m, n⟩ = false) : spaceW ⟨m, n⟩ = [63] := by unfold spaceW; rw [h]; rfl
theorem spaceW_2 {m n : Int} (h : spaceOk ⟨m, n⟩ = true) (h2 : m = 2) : spaceW ⟨m, n⟩ = [109, 111, 115, 116, 32] ++ Lib.itoa n := by unfold spaceW; rw [h]; simp [h2]
theorem spaceW_3 {m n : Int} (h : spaceOk ⟨m, n⟩ = true) (h2 : m = 3) : spaceW ⟨m, n⟩ = [101, 120, 97, 99, 116, 32] ++ Lib.itoa n := by unfold spaceW; rw [h]; simp [h2]
theorem spaceW_1 {m n : Int} (h : spaceOk ⟨m, n⟩ = true) (h2 : m ≠ 2) (h3 : m ≠ 3) : spaceW ⟨m, n⟩ = [102, 114, 101, 101] := by unfold spaceW; rw [h]; simp [h2, h3]
theorem spaceW_short (s : Space) : (spaceW s).length ≤ 30 := by
  obtain ⟨m, n⟩ := s
  cases h : spaceOk ⟨m, n⟩
  · rw [spaceW_no h]; decide
  · have hb := spaceOk_bound h
    have hl := Lib.itoa_length_le n (by omega) (by omega)
    by_cases h2 : m = 2
    · rw [spaceW_2 h h2]; simp; omega
    · by_cases h3 : m = 3
      · rw [spaceW_3 h h3]; simp; omega
      · rw [spaceW_1 h h2 h3]; decide

set_option maxHeartbeats 1000000 in
theorem spaceText_any (m n : Int) (w : World) (ht : Tab w) : Calls Tryd.prog 92 #[.agg #[.int .i64 m, .int .i64 n]] w fun e w' => e = .returned (.string ⟨(spaceW ⟨m, n⟩).toArray⟩) ∧ Mod (fun _ => False) w w' := by
  have k := fun W => spaceOk_any m n W
  have Ht := hid ht
  clear ht
  have hx := heap_alloc_new w (.cells [.int .i64 m, .int .i64 n].toArray 101)
  cases h : spaceOk ⟨m, n⟩
  · rw [h] at k
    rw [spaceW_no h]
    clear h
    go_enter Tryd.func92, Tryd.ntmps92
    go_wp2_with fail
    refine (k _).mono ?_
    rintro e w1 ⟨rfl, hm1⟩
    go_wp2
    go_ret
    exact ⟨rfl, ((Mod.refl _ w).alloc _).thenNone hm1⟩
  · rw [h] at k
    have hb := spaceOk_bound h
    by_cases h2 : m = 2
    · rw [spaceW_2 h h2]
      subst h2
      clear h
      go_enter Tryd.func92, Tryd.ntmps92
      go_wp2_with fail
      refine (k _).mono ?_
      rintro e w1 ⟨rfl, hm1⟩
      have hM1 : Mod (fun _ => False) w w1 := ((Mod.refl _ w).alloc _).thenNone hm1
      have hB1 := hm1.blk hx (fun f => f)
      have sc0 := blk_cell hB1 (j := 0) rfl
      have sz0 := blk_free hB1 0
      have sc1 := blk_cell hB1 (j := 1) rfl
      have sz1 := blk_free hB1 1
      clear hx hm1
      go_wp2_with fail
      refine (decimal_any n (by omega) _ (Ht.out.keep hM1)).mono ?_
      rintro e w2 ⟨rfl, hm2⟩
      have hl := Lib.itoa_length_le n (by omega) (by omega)
      go_wp2
      go_ret
      exact ⟨rfl, hM1.thenNone hm2⟩
    · by_cases h3 : m = 3
      · rw [spaceW_3 h h3]
        subst h3
        clear h
        go_enter Tryd.func92, Tryd.ntmps92
        go_wp2_with fail
        refine (k _).mono ?_
        rintro e w1 ⟨rfl, hm1⟩
        have hM1 : Mod (fun _ => False) w w1 := ((Mod.refl _ w).alloc _).thenNone hm1
        have hB1 := hm1.blk hx (fun f => f)
        have sc0 := blk_cell hB1 (j := 0) rfl
        have sz0 := blk_free hB1 0
        have sc1 := blk_cell hB1 (j := 1) rfl
        have sz1 := blk_free hB1 1
        clear hx hm1
        go_wp2_with fail
        refine (decimal_any n (by omega) _ (Ht.out.keep hM1)).mono ?_
        rintro e w2 ⟨rfl, hm2⟩
        have hl := Lib.itoa_length_le n (by omega) (by omega)
        go_wp2
        go_ret
        exact ⟨rfl, hM1.thenNone hm2⟩
      · rw [spaceW_1 h h2 h3]
        clear h
        go_enter Tryd.func92, Tryd.ntmps92
        go_wp2_with fail
        refine (k _).mono ?_
        rintro e w1 ⟨rfl, hm1⟩
        have hM1 : Mod (fun _ => False) w w1 := ((Mod.refl _ w).alloc _).thenNone hm1
        have hB1 := hm1.blk hx (fun f => f)
        have sc0 := blk_cell hB1 (j := 0) rfl
        have sz0 := blk_free hB1 0
        have sc1 := blk_cell hB1 (j := 1) rfl
        have sz1 := blk_free hB1 1
        clear hx hm1
        go_wp2
        go_ret
        exact ⟨rfl, hM1⟩

set_option maxHeartbeats 1000000 in
theorem sspaceText_any (m n : Int) (w : World) : Calls Tryd.prog 87 #[.agg #[.int .i64 m, .int .i64 n]] w fun e w' => e = .returned (.string ⟨(spaceW ⟨m, n⟩).toArray⟩) ∧ Mod (fun _ => False) w w' := by
  have k := fun W => sspaceOk_any m n W
  have hx := heap_alloc_new w (.cells [.int .i64 m, .int .i64 n].toArray 101)
  cases h : spaceOk ⟨m, n⟩
  · rw [h] at k
    rw [spaceW_no h]
    clear h
    go_enter Tryd.func87, Tryd.ntmps87
    go_wp2_with fail
    refine (k _).mono ?_
    rintro e w1 ⟨rfl, hm1⟩
    go_wp2
    go_ret
    exact ⟨rfl, ((Mod.refl _ w).alloc _).thenNone hm1⟩
  · rw [h] at k
    have hb := spaceOk_bound h
    by_cases h2 : m = 2
    · rw [spaceW_2 h h2]
      subst h2
      clear h
      go_enter Tryd.func87, Tryd.ntmps87
      go_wp2_with fail
      refine (k _).mono ?_
      rintro e w1 ⟨rfl, hm1⟩
      have hM1 : Mod (fun _ => False) w w1 := ((Mod.refl _ w).alloc _).thenNone hm1
      have hB1 := hm1.blk hx (fun f => f)
      have sc0 := blk_cell hB1 (j := 0) rfl
      have sz0 := blk_free hB1 0
      have sc1 := blk_cell hB1 (j := 1) rfl
      have sz1 := blk_free hB1 1
      clear hx hm1
      go_wp2_with fail
      refine (sdecimal_any n (by omega) (by omega) _).mono ?_
      rintro e w2 ⟨rfl, hm2⟩
      have hl := Lib.itoa_length_le n (by omega) (by omega)
      go_wp2
      go_ret
      exact ⟨rfl, hM1.thenNone hm2⟩
    · by_cases h3 : m = 3
      · rw [spaceW_3 h h3]
        subst h3
        clear h
        go_enter Tryd.func87, Tryd.ntmps87
        go_wp2_with fail
        refine (k _).mono ?_
        rintro e w1 ⟨rfl, hm1⟩
        have hM1 : Mod (fun _ => False) w w1 := ((Mod.refl _ w).alloc _).thenNone hm1
        have hB1 := hm1.blk hx (fun f => f)
        have sc0 := blk_cell hB1 (j := 0) rfl
        have sz0 := blk_free hB1 0
        have sc1 := blk_cell hB1 (j := 1) rfl
        have sz1 := blk_free hB1 1
        clear hx hm1
        go_wp2_with fail
        refine (sdecimal_any n (by omega) (by omega) _).mono ?_
        rintro e w2 ⟨rfl, hm2⟩
        have hl := Lib.itoa_length_le n (by omega) (by omega)
        go_wp2
        go_ret
        exact ⟨rfl, hM1.thenNone hm2⟩
      · rw [spaceW_1 h h2 h3]
        clear h
        go_enter Tryd.func87, Tryd.ntmps87
        go_wp2_with fail
        refine (k _).mono ?_
        rintro e w1 ⟨rfl, hm1⟩
        have hM1 : Mod (fun _ => False) w w1 := ((Mod.refl _ w).alloc _).thenNone hm1
        have hB1 := hm1.blk hx (fun f => f)
        have sc0 := blk_cell hB1 (j := 0) rfl
        have sz0 := blk_free hB1 0
        have sc1 := blk_cell hB1 (j := 1) rfl
        have sz1 := blk_free hB1 1
        clear hx hm1
        go_wp2
        go_ret
        exact ⟨rfl, hM1⟩

end Go.Proofs.YtcolkidnjojlmaaDoor
