/-
  PROVED: SnapTo, SnapFrame, OnGrid, EdgesOf: contracts. No condition.
-/
import Derived.Test.YtpmbobopkfacmaaNum
import Derived.Deep.RegionHeld3
namespace Go.Proofs.Ytpmbobopkfacmaa
open Go.RowKit

def snapIn (n step : Int) : Prop := 1 ≤ step ∧ step ≤ 4096 ∧ -1000000000 ≤ n ∧ n ≤ 1000000000
instance (n step : Int) : Decidable (snapIn n step) := by unfold snapIn; infer_instance
def snapTo (n step : Int) : Int := if snapIn n step then fdiv (2 * n + step) (2 * step) * step else n

theorem fdiv_bd (a b : Int) (hb : 1 ≤ b) (k : Int) (h1 : -k ≤ a) (h2 : a ≤ k) : -k ≤ fdiv a b ∧ fdiv a b ≤ k := by
  unfold fdiv
  rw [if_neg (by omega)]
  constructor
  · exact (Int.le_ediv_iff_mul_le (by omega)).2 (by
      have : -k * b ≤ -k * 1 := by
        rw [Int.neg_mul, Int.neg_mul]
        exact Int.neg_le_neg (Int.mul_le_mul_of_nonneg_left hb (by omega))
      omega)
  · by_cases h : 0 ≤ a
    · have := Int.ediv_le_self b h
      omega
    · have := Int.ediv_neg_of_neg_of_pos (show a < 0 by omega) (show 0 < b by omega)
      omega

theorem snapTo_any (n step : Int) (w : World) : Calls Try.prog 13 #[.int .i64 n, .int .i64 step] w fun e w' => e = .returned (.int .i64 (snapTo n step)) ∧ w = w' := by
  by_cases h : snapIn n step
  · unfold snapTo
    rw [if_pos h]
    obtain ⟨h1, h2, h3, h4⟩ := h
    have i1 := inB_true h1 h2
    have i2 := inB_true h3 h4
    have hb := fdiv_bd (2 * n + step) (2 * step) (by omega) 2000004096 (by omega) (by omega)
    have hm : -8192016777216 ≤ fdiv (2 * n + step) (2 * step) * step ∧ fdiv (2 * n + step) (2 * step) * step ≤ 8192016777216 := by
      obtain ⟨a1, a2⟩ := hb
      constructor
      · exact Int.le_trans (show (-8192016777216 : Int) ≤ -2000004096 * step by omega) (Int.mul_le_mul_of_nonneg_right a1 (by omega))
      · exact Int.le_trans (Int.mul_le_mul_of_nonneg_right a2 (by omega)) (show 2000004096 * step ≤ 8192016777216 by omega)
    obtain ⟨m1, m2⟩ := hm
    go_enter Try.func13, Try.ntmps13
    go_wp2_with (first | (go_at_call 52; refine (in_any _ _ _ _).mono ?_; rintro e w' ⟨rfl, rfl⟩) | (go_at_call 53; refine (fdiv_any _ _ (by omega) (by omega) (by omega) _).mono ?_; rintro e w' ⟨rfl, rfl⟩))
    go_ret
    exact ⟨rfl, rfl⟩
  · unfold snapTo
    rw [if_neg h]
    by_cases h1 : inB step 1 4096 = true
    · have i2 : inB n (-1000000000) 1000000000 = false := by
        unfold snapIn at h; unfold inB at h1 ⊢; simp at h1 ⊢; omega
      go_enter Try.func13, Try.ntmps13
      go_wp2_with (first | (go_at_call 52; refine (in_any _ _ _ _).mono ?_; rintro e w' ⟨rfl, rfl⟩) | (go_at_call 53; refine (fdiv_any _ _ (by omega) (by omega) (by omega) _).mono ?_; rintro e w' ⟨rfl, rfl⟩))
      go_ret
      exact ⟨rfl, rfl⟩
    · have i1 : inB step 1 4096 = false := by simpa using h1
      go_enter Try.func13, Try.ntmps13
      go_wp2_with (first | (go_at_call 52; refine (in_any _ _ _ _).mono ?_; rintro e w' ⟨rfl, rfl⟩) | (go_at_call 53; refine (fdiv_any _ _ (by omega) (by omega) (by omega) _).mono ?_; rintro e w' ⟨rfl, rfl⟩))
      go_ret
      exact ⟨rfl, rfl⟩

theorem ssnapTo_any (n step : Int) (w : World) : Calls Try.prog 14 #[.int .i64 n, .int .i64 step] w fun e w' => e = .returned (.int .i64 (snapTo n step)) ∧ w = w' := by
  by_cases h : snapIn n step
  · unfold snapTo
    rw [if_pos h]
    obtain ⟨h1, h2, h3, h4⟩ := h
    have i1 := inB_true h1 h2
    have i2 := inB_true h3 h4
    have hb := fdiv_bd (2 * n + step) (2 * step) (by omega) 2000004096 (by omega) (by omega)
    have hm : -8192016777216 ≤ fdiv (2 * n + step) (2 * step) * step ∧ fdiv (2 * n + step) (2 * step) * step ≤ 8192016777216 := by
      obtain ⟨a1, a2⟩ := hb
      constructor
      · exact Int.le_trans (show (-8192016777216 : Int) ≤ -2000004096 * step by omega) (Int.mul_le_mul_of_nonneg_right a1 (by omega))
      · exact Int.le_trans (Int.mul_le_mul_of_nonneg_right a2 (by omega)) (show 2000004096 * step ≤ 8192016777216 by omega)
    obtain ⟨m1, m2⟩ := hm
    go_enter Try.func14, Try.ntmps14
    go_wp2_with (first | (go_at_call 47; refine (l01In_any _ _ _ _).mono ?_; rintro e w' ⟨rfl, rfl⟩) | (go_at_call 40; refine (sfdiv_any _ _ (by omega) (by omega) (by omega) _).mono ?_; rintro e w' ⟨rfl, rfl⟩))
    go_ret
    exact ⟨rfl, rfl⟩
  · unfold snapTo
    rw [if_neg h]
    by_cases h1 : inB step 1 4096 = true
    · have i2 : inB n (-1000000000) 1000000000 = false := by
        unfold snapIn at h; unfold inB at h1 ⊢; simp at h1 ⊢; omega
      go_enter Try.func14, Try.ntmps14
      go_wp2_with (first | (go_at_call 47; refine (l01In_any _ _ _ _).mono ?_; rintro e w' ⟨rfl, rfl⟩) | (go_at_call 40; refine (sfdiv_any _ _ (by omega) (by omega) (by omega) _).mono ?_; rintro e w' ⟨rfl, rfl⟩))
      go_ret
      exact ⟨rfl, rfl⟩
    · have i1 : inB step 1 4096 = false := by simpa using h1
      go_enter Try.func14, Try.ntmps14
      go_wp2_with (first | (go_at_call 47; refine (l01In_any _ _ _ _).mono ?_; rintro e w' ⟨rfl, rfl⟩) | (go_at_call 40; refine (sfdiv_any _ _ (by omega) (by omega) (by omega) _).mono ?_; rintro e w' ⟨rfl, rfl⟩))
      go_ret
      exact ⟨rfl, rfl⟩


def frv (n x y a b : Int) : Value := .agg #[.int .i64 n, .int .i64 x, .int .i64 y, .int .i64 a, .int .i64 b]
def snapW (x a step : Int) : Int := wrap64 (snapTo (wrap64 (x + a)) step - snapTo x step)

set_option maxHeartbeats 400000 in
theorem snapFrame_any (n x y a b step : Int) (w : World) : Calls Try.prog 16 #[.agg #[.int .i64 n, .int .i64 x, .int .i64 y, .int .i64 a, .int .i64 b], .int .i64 step] w fun e w' => e = .returned (frv n (snapTo x step) (snapTo y step) (snapW x a step) (snapW y b step)) ∧ Mod (fun _ => False) w w' := by
  go_enter Try.func16, Try.ntmps16
  go_wp2_with (first | (go_at_call 13; refine (snapTo_any _ _ _).mono ?_; rintro e w' ⟨rfl, rfl⟩))
  go_quiet ((go_at_call 13; exact quiet_same (snapTo_any _ _ _)))
  go_wp2_with (first | (go_at_call 13; refine (snapTo_any _ _ _).mono ?_; rintro e w' ⟨rfl, rfl⟩))
  go_region_held3 (fun w' => w'.cell? ⟨w.heap.size, 0, none⟩ = some (.int .i64 n) ∧ w'.cell? ⟨w.heap.size, 1, none⟩ = some (.int .i64 x) ∧ w'.cell? ⟨w.heap.size, 2, none⟩ = some (.int .i64 y) ∧ w'.cell? ⟨w.heap.size, 3, none⟩ = some (.int .i64 a) ∧ w'.cell? ⟨w.heap.size, 4, none⟩ = some (.int .i64 b)) (go_keep) (first | (go_at_call 13; refine (snapTo_any _ _ _).mono ?_; rintro e w' ⟨rfl, rfl⟩))
  go_wp2
  rename_i hHeld
  clear hHeld
  refine bodyPost_ret (v := frv n (snapTo x step) (snapTo y step) (snapW x a step) (snapW y b step)) ?_ rfl ⟨rfl, ?_⟩
  · simp [results, Try.results16, go_sem]
    simp [frv, snapW, IntKind.wrap_i64, wrap64]
  · (repeat (first | with_reducible exact Mod.refl _ _ | with_reducible refine Mod.drewN ?_ _ | with_reducible refine Mod.drew ?_ | with_reducible refine Mod.alloc ?_ _ | ((with_reducible refine Mod.setNew ?_ ?_ _ _ _); (rotate_left; omega)) | with_reducible refine Mod.setAt ?_ _ _ _ ))

set_option maxHeartbeats 400000 in
theorem ssnapFrame_any (n x y a b step : Int) (w : World) : Calls Try.prog 17 #[.agg #[.int .i64 n, .int .i64 x, .int .i64 y, .int .i64 a, .int .i64 b], .int .i64 step] w fun e w' => e = .returned (frv n (snapTo x step) (snapTo y step) (snapW x a step) (snapW y b step)) ∧ Mod (fun _ => False) w w' := by
  go_enter Try.func17, Try.ntmps17
  go_wp2_with (first | (go_at_call 14; refine (ssnapTo_any _ _ _).mono ?_; rintro e w' ⟨rfl, rfl⟩))
  go_region_held3 (fun w' => w'.cell? ⟨w.heap.size, 1, none⟩ = some (.int .i64 x) ∧ w'.cell? ⟨w.heap.size, 3, none⟩ = some (.int .i64 a) ∧ w'.cell? ⟨w.heap.size + 1 + 1, 1, none⟩ = some (.int .i64 (snapTo x step))) (first | (simp [go_sem]; done) | go_keep) (first | (go_at_call 14; refine (ssnapTo_any _ _ _).mono ?_; rintro e w' ⟨rfl, rfl⟩))
  rename_i hHeld
  clear hHeld
  go_wp2
  go_region_held3 (fun w' => w'.cell? ⟨w.heap.size, 2, none⟩ = some (.int .i64 y) ∧ w'.cell? ⟨w.heap.size, 4, none⟩ = some (.int .i64 b) ∧ w'.cell? ⟨w.heap.size + 1 + 1, 2, none⟩ = some (.int .i64 (snapTo y step))) (first | (simp [go_sem]; done) | go_keep) (first | (go_at_call 14; refine (ssnapTo_any _ _ _).mono ?_; rintro e w' ⟨rfl, rfl⟩))
  rename_i hHeld
  clear hHeld
  go_wp2
  refine bodyPost_ret (v := frv n (snapTo x step) (snapTo y step) (snapW x a step) (snapW y b step)) ?_ rfl ⟨rfl, ?_⟩
  · simp [results, Try.results17, go_sem]
    simp [frv, snapW, wrap64]
  · (repeat (first | with_reducible exact Mod.refl _ _ | with_reducible refine Mod.drewN ?_ _ | with_reducible refine Mod.drew ?_ | with_reducible refine Mod.alloc ?_ _ | ((with_reducible refine Mod.setNew ?_ ?_ _ _ _); (rotate_left; omega)) | with_reducible refine Mod.setAt ?_ _ _ _ ))

def onGrid (x y a b step : Int) : Bool := inB step 1 4096 && (x.tmod step == 0) && (y.tmod step == 0) && (a.tmod step == 0) && (b.tmod step == 0)

set_option maxHeartbeats 1000000 in
theorem onGrid_any (n x y a b step : Int) (w : World) : Calls Try.prog 18 #[.agg #[.int .i64 n, .int .i64 x, .int .i64 y, .int .i64 a, .int .i64 b], .int .i64 step] w fun e w' => e = .returned (.bool (onGrid x y a b step)) ∧ Mod (fun _ => False) w w' := by
  by_cases hi : inB step 1 4096 = true
  · have hs : 1 ≤ step ∧ step ≤ 4096 := by simpa [inB] using hi
    obtain ⟨hs0, hs1⟩ := hs
    by_cases hx : (x.tmod step == 0) = true
    · by_cases hy : (y.tmod step == 0) = true
      · by_cases ha : (a.tmod step == 0) = true
        · go_enter Try.func18, Try.ntmps18
          go_wp2_with (first | (go_at_call 52; refine (in_any _ _ _ _).mono ?_; rintro e w' ⟨rfl, rfl⟩))
          go_ret
          exact ⟨by simp [onGrid, hi, hx, hy, ha], by (repeat (first | with_reducible exact Mod.refl _ _ | with_reducible refine Mod.drewN ?_ _ | with_reducible refine Mod.drew ?_ | with_reducible refine Mod.alloc ?_ _ | ((with_reducible refine Mod.setNew ?_ ?_ _ _ _); (rotate_left; omega)) | with_reducible refine Mod.setAt ?_ _ _ _ ))⟩
        · replace ha : (a.tmod step == 0) = false := by simpa using ha
          go_enter Try.func18, Try.ntmps18
          go_wp2_with (first | (go_at_call 52; refine (in_any _ _ _ _).mono ?_; rintro e w' ⟨rfl, rfl⟩))
          go_ret
          exact ⟨by simp [onGrid, hi, hx, hy, ha], by (repeat (first | with_reducible exact Mod.refl _ _ | with_reducible refine Mod.drewN ?_ _ | with_reducible refine Mod.drew ?_ | with_reducible refine Mod.alloc ?_ _ | ((with_reducible refine Mod.setNew ?_ ?_ _ _ _); (rotate_left; omega)) | with_reducible refine Mod.setAt ?_ _ _ _ ))⟩
      · replace hy : (y.tmod step == 0) = false := by simpa using hy
        go_enter Try.func18, Try.ntmps18
        go_wp2_with (first | (go_at_call 52; refine (in_any _ _ _ _).mono ?_; rintro e w' ⟨rfl, rfl⟩))
        go_ret
        exact ⟨by simp [onGrid, hi, hx, hy], by (repeat (first | with_reducible exact Mod.refl _ _ | with_reducible refine Mod.drewN ?_ _ | with_reducible refine Mod.drew ?_ | with_reducible refine Mod.alloc ?_ _ | ((with_reducible refine Mod.setNew ?_ ?_ _ _ _); (rotate_left; omega)) | with_reducible refine Mod.setAt ?_ _ _ _ ))⟩
    · replace hx : (x.tmod step == 0) = false := by simpa using hx
      go_enter Try.func18, Try.ntmps18
      go_wp2_with (first | (go_at_call 52; refine (in_any _ _ _ _).mono ?_; rintro e w' ⟨rfl, rfl⟩))
      go_ret
      exact ⟨by simp [onGrid, hi, hx], by (repeat (first | with_reducible exact Mod.refl _ _ | with_reducible refine Mod.drewN ?_ _ | with_reducible refine Mod.drew ?_ | with_reducible refine Mod.alloc ?_ _ | ((with_reducible refine Mod.setNew ?_ ?_ _ _ _); (rotate_left; omega)) | with_reducible refine Mod.setAt ?_ _ _ _ ))⟩
  · replace hi : inB step 1 4096 = false := by simpa using hi
    go_enter Try.func18, Try.ntmps18
    go_wp2_with (first | (go_at_call 52; refine (in_any _ _ _ _).mono ?_; rintro e w' ⟨rfl, rfl⟩))
    go_ret
    exact ⟨by simp [onGrid, hi], by (repeat (first | with_reducible exact Mod.refl _ _ | with_reducible refine Mod.drewN ?_ _ | with_reducible refine Mod.drew ?_ | with_reducible refine Mod.alloc ?_ _ | ((with_reducible refine Mod.setNew ?_ ?_ _ _ _); (rotate_left; omega)) | with_reducible refine Mod.setAt ?_ _ _ _ ))⟩

set_option maxHeartbeats 1000000 in
theorem sonGrid_any (n x y a b step : Int) (w : World) : Calls Try.prog 19 #[.agg #[.int .i64 n, .int .i64 x, .int .i64 y, .int .i64 a, .int .i64 b], .int .i64 step] w fun e w' => e = .returned (.bool (onGrid x y a b step)) ∧ Mod (fun _ => False) w w' := by
  by_cases hi : inB step 1 4096 = true
  · have hs : 1 ≤ step ∧ step ≤ 4096 := by simpa [inB] using hi
    obtain ⟨hs0, hs1⟩ := hs
    by_cases hx : (x.tmod step == 0) = true
    · by_cases hy : (y.tmod step == 0) = true
      · by_cases ha : (a.tmod step == 0) = true
        · go_enter Try.func19, Try.ntmps19
          go_wp2_with (first | (go_at_call 47; refine (l01In_any _ _ _ _).mono ?_; rintro e w' ⟨rfl, rfl⟩))
          go_ret
          exact ⟨by simp [onGrid, hi, hx, hy, ha], by (repeat (first | with_reducible exact Mod.refl _ _ | with_reducible refine Mod.drewN ?_ _ | with_reducible refine Mod.drew ?_ | with_reducible refine Mod.alloc ?_ _ | ((with_reducible refine Mod.setNew ?_ ?_ _ _ _); (rotate_left; omega)) | with_reducible refine Mod.setAt ?_ _ _ _ ))⟩
        · replace ha : (a.tmod step == 0) = false := by simpa using ha
          go_enter Try.func19, Try.ntmps19
          go_wp2_with (first | (go_at_call 47; refine (l01In_any _ _ _ _).mono ?_; rintro e w' ⟨rfl, rfl⟩))
          go_ret
          exact ⟨by simp [onGrid, hi, hx, hy, ha], by (repeat (first | with_reducible exact Mod.refl _ _ | with_reducible refine Mod.drewN ?_ _ | with_reducible refine Mod.drew ?_ | with_reducible refine Mod.alloc ?_ _ | ((with_reducible refine Mod.setNew ?_ ?_ _ _ _); (rotate_left; omega)) | with_reducible refine Mod.setAt ?_ _ _ _ ))⟩
      · replace hy : (y.tmod step == 0) = false := by simpa using hy
        go_enter Try.func19, Try.ntmps19
        go_wp2_with (first | (go_at_call 47; refine (l01In_any _ _ _ _).mono ?_; rintro e w' ⟨rfl, rfl⟩))
        go_ret
        exact ⟨by simp [onGrid, hi, hx, hy], by (repeat (first | with_reducible exact Mod.refl _ _ | with_reducible refine Mod.drewN ?_ _ | with_reducible refine Mod.drew ?_ | with_reducible refine Mod.alloc ?_ _ | ((with_reducible refine Mod.setNew ?_ ?_ _ _ _); (rotate_left; omega)) | with_reducible refine Mod.setAt ?_ _ _ _ ))⟩
    · replace hx : (x.tmod step == 0) = false := by simpa using hx
      go_enter Try.func19, Try.ntmps19
      go_wp2_with (first | (go_at_call 47; refine (l01In_any _ _ _ _).mono ?_; rintro e w' ⟨rfl, rfl⟩))
      go_ret
      exact ⟨by simp [onGrid, hi, hx], by (repeat (first | with_reducible exact Mod.refl _ _ | with_reducible refine Mod.drewN ?_ _ | with_reducible refine Mod.drew ?_ | with_reducible refine Mod.alloc ?_ _ | ((with_reducible refine Mod.setNew ?_ ?_ _ _ _); (rotate_left; omega)) | with_reducible refine Mod.setAt ?_ _ _ _ ))⟩
  · replace hi : inB step 1 4096 = false := by simpa using hi
    go_enter Try.func19, Try.ntmps19
    go_wp2_with (first | (go_at_call 47; refine (l01In_any _ _ _ _).mono ?_; rintro e w' ⟨rfl, rfl⟩))
    go_ret
    exact ⟨by simp [onGrid, hi], by (repeat (first | with_reducible exact Mod.refl _ _ | with_reducible refine Mod.drewN ?_ _ | with_reducible refine Mod.drew ?_ | with_reducible refine Mod.alloc ?_ _ | ((with_reducible refine Mod.setNew ?_ ?_ _ _ _); (rotate_left; omega)) | with_reducible refine Mod.setAt ?_ _ _ _ ))⟩


end Go.Proofs.Ytpmbobopkfacmaa
