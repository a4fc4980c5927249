/-
  PROVED: Brought, signed, Clamped: the program's and the reference's give the plain function. No condition.
-/
import Derived.Test.YtefgjjmnjanleaaNum
namespace Go.Proofs.Ytefgjjmnjanleaa
open Go.RowKit

def brought (n l m : Int) : Int := if m < l ∨ n < l then l else if m < n then m else n
def signedL (n : Int) : Int := brought n (-1048576) 1048576
theorem signedL_bd (n : Int) : -1048576 ≤ signedL n ∧ signedL n ≤ 1048576 := by
  unfold signedL brought
  split
  · omega
  · split <;> omega

theorem brought_any (n l m : Int) (w : World) : Calls Try.prog 88 #[.int .i64 n, .int .i64 l, .int .i64 m] w fun e w' => e = .returned (.int .i64 (brought n l m)) ∧ w = w' := by
  unfold brought
  by_cases h1 : m < l
  · rw [if_pos (.inl h1)]
    go_enter Try.func88, Try.ntmps88
    go_wp2
    go_ret
    exact ⟨rfl, rfl⟩
  · by_cases h2 : n < l
    · rw [if_pos (.inr h2)]
      go_enter Try.func88, Try.ntmps88
      go_wp2
      go_ret
      exact ⟨rfl, rfl⟩
    · rw [if_neg (by omega)]
      by_cases h3 : m < n
      · rw [if_pos h3]
        go_enter Try.func88, Try.ntmps88
        go_wp2
        go_ret
        exact ⟨rfl, rfl⟩
      · rw [if_neg h3]
        go_enter Try.func88, Try.ntmps88
        go_wp2
        go_ret
        exact ⟨rfl, rfl⟩

theorem sbrought_any (n l m : Int) (w : World) : Calls Try.prog 89 #[.int .i64 n, .int .i64 l, .int .i64 m] w fun e w' => e = .returned (.int .i64 (brought n l m)) ∧ w = w' := by
  unfold brought
  by_cases h1 : m < l
  · rw [if_pos (.inl h1)]
    go_enter Try.func89, Try.ntmps89
    go_wp2
    go_ret
    exact ⟨rfl, rfl⟩
  · by_cases h2 : n < l
    · rw [if_pos (.inr h2)]
      go_enter Try.func89, Try.ntmps89
      go_wp2
      go_ret
      exact ⟨rfl, rfl⟩
    · rw [if_neg (by omega)]
      by_cases h3 : m < n
      · rw [if_pos h3]
        go_enter Try.func89, Try.ntmps89
        go_wp2
        go_ret
        exact ⟨rfl, rfl⟩
      · rw [if_neg h3]
        go_enter Try.func89, Try.ntmps89
        go_wp2
        go_ret
        exact ⟨rfl, rfl⟩

theorem signed_any (n : Int) (w : World) : Calls Try.prog 91 #[.int .i64 n] w fun e w' => e = .returned (.int .i64 (signedL n)) ∧ w = w' := by
  go_enter Try.func91, Try.ntmps91
  go_wp2_with (first | (go_at_call 88; refine (brought_any _ _ _ _).mono ?_; rintro e w' ⟨rfl, rfl⟩))
  go_ret
  exact ⟨rfl, rfl⟩

theorem l02Len_any (n : Int) (w : World) : Calls Try.prog 90 #[.int .i64 n] w fun e w' => e = .returned (.int .i64 (signedL n)) ∧ w = w' := by
  go_enter Try.func90, Try.ntmps90
  go_wp2_with (first | (go_at_call 89; refine (sbrought_any _ _ _ _).mono ?_; rintro e w' ⟨rfl, rfl⟩))
  go_ret
  exact ⟨rfl, rfl⟩


end Go.Proofs.Ytefgjjmnjanleaa
