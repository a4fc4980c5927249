/-
  PROVED: contracts of the program's and the reference's functions of plain numbers (Brought, Clamped, FloorDiv, ..): each returns what the plain Lean function of that name gives. No condition.
-/
import Derived.Test.YthffgbhphjkdeaaDoorMem
import Derived.Test.YthffgbhphjkdeaaDoorChecked
import Derived.Deep.QuietTactic
import Derived.BigQuiet
import Derived.Outline
import Derived.WalkLawsBesides
namespace Go.Proofs.YthffgbhphjkdeaaDoor
open Go.RowKit

/-- a divided by b, rounded down; 0 where b is below 1 -/
def fdiv (a b : Int) : Int := if b < 1 then 0 else a / b

def inB (n a b : Int) : Bool := decide (a ≤ n ∧ n ≤ b)
theorem inB_true {n a b : Int} (h1 : a ≤ n) (h2 : n ≤ b) : inB n a b = true := by simp [inB, h1, h2]
theorem inB_low {n a b : Int} (h : n < a) : inB n a b = false := by simp [inB]; omega
theorem inB_high {n a b : Int} (h : b < n) : inB n a b = false := by simp [inB]; omega

theorem in_any (n a b : Int) (w : World) : Calls Tryd.prog 62 #[.int .i64 n, .int .i64 a, .int .i64 b] w fun e w' => e = .returned (.bool (inB n a b)) ∧ w = w' := by
  by_cases h1 : a ≤ n
  · by_cases h2 : n ≤ b
    · rw [inB_true h1 h2]
      go_enter Tryd.func62, Tryd.ntmps62
      go_wp2
      go_ret
      exact ⟨rfl, rfl⟩
    · rw [inB_high (by omega)]
      go_enter Tryd.func62, Tryd.ntmps62
      go_wp2
      go_ret
      exact ⟨rfl, rfl⟩
  · rw [inB_low (by omega)]
    go_enter Tryd.func62, Tryd.ntmps62
    go_wp2
    go_ret
    exact ⟨rfl, rfl⟩

theorem l01In_any (n a b : Int) (w : World) : Calls Tryd.prog 55 #[.int .i64 n, .int .i64 a, .int .i64 b] w fun e w' => e = .returned (.bool (inB n a b)) ∧ w = w' := by
  by_cases h1 : a ≤ n
  · by_cases h2 : n ≤ b
    · rw [inB_true h1 h2]
      go_enter Tryd.func55, Tryd.ntmps55
      go_wp2
      go_ret
      exact ⟨rfl, rfl⟩
    · rw [inB_high (by omega)]
      go_enter Tryd.func55, Tryd.ntmps55
      go_wp2
      go_ret
      exact ⟨rfl, rfl⟩
  · rw [inB_low (by omega)]
    go_enter Tryd.func55, Tryd.ntmps55
    go_wp2
    go_ret
    exact ⟨rfl, rfl⟩

theorem tdiv_bd (a b : Int) (hp : 0 < b) (ha : -4611686018427387904 ≤ a) (ha' : a ≤ 4611686018427387904) : -4611686018427387904 ≤ a.tdiv b ∧ a.tdiv b ≤ 4611686018427387904 := by
  by_cases h : 0 ≤ a
  · have h1 := Int.tdiv_nonneg h (show 0 ≤ b by omega)
    have h2 : a.tdiv b ≤ a := by
      rw [Int.tdiv_eq_ediv_of_nonneg h]
      exact Int.ediv_le_self b h
    omega
  · have e : a.tdiv b = -((-a).tdiv b) := by rw [Int.neg_tdiv, Int.neg_neg]
    have h1 := Int.tdiv_nonneg (show 0 ≤ -a by omega) (show 0 ≤ b by omega)
    have h2 : (-a).tdiv b ≤ -a := by
      rw [Int.tdiv_eq_ediv_of_nonneg (show 0 ≤ -a by omega)]
      exact Int.ediv_le_self b (by omega)
    omega
theorem ediv_of_neg (a b : Int) (hp : 0 < b) (h : a.tmod b < 0) : a / b = a.tdiv b - 1 := by
  have e := Int.mul_tdiv_add_tmod a b
  have l := Int.lt_tmod_of_pos a hp
  generalize a.tdiv b = q at *
  generalize a.tmod b = r at *
  have hr : a = (r + b) + b * (q - 1) := by rw [Int.mul_sub]; omega
  rw [hr, Int.add_mul_ediv_left _ _ (by omega), Int.ediv_eq_zero_of_lt (by omega) (by omega)]
  omega
theorem ediv_of_pos (a b : Int) (hp : 0 < b) (h : 0 ≤ a.tmod b) : a / b = a.tdiv b := by
  have e := Int.mul_tdiv_add_tmod a b
  have l := Int.tmod_lt_of_pos a hp
  generalize a.tdiv b = q at *
  generalize a.tmod b = r at *
  have hr : a = r + b * q := by omega
  rw [hr, Int.add_mul_ediv_left _ _ (by omega), Int.ediv_eq_zero_of_lt (by omega) (by omega)]
  omega

end Go.Proofs.YthffgbhphjkdeaaDoor
