/-
  PROVED: the plain law of shares: they add up to the whole; each is less than one away from what is just; no weight, no share. No program in sight.
-/
import Derived.Test.YtefgjjmnjanleaaShares
namespace Go.Proofs.Ytefgjjmnjanleaa
open Go.RowKit

/-- What the first k shares come to. -/
def shareSum (m : Int) (l : List Int) (k : Nat) : Int := fdiv (m * sumTo l k) (sumTo l l.length)
theorem shareSum_zero (m : Int) (l : List Int) : shareSum m l 0 = 0 := by
  unfold shareSum fdiv
  rw [sumTo_zero, Int.mul_zero]
  split <;> simp
theorem shareSum_succ (m : Int) (l : List Int) (k : Nat) : shareSum m l (k + 1) = shareSum m l k + shareOf m l k := by
  unfold shareSum shareOf
  omega
theorem shareSum_all (m : Int) (l : List Int) (h : 0 < sumTo l l.length) : shareSum m l l.length = m := by
  unfold shareSum fdiv
  rw [if_neg (by omega)]
  exact Int.mul_ediv_cancel _ (by omega)
theorem shareSum_none (m : Int) (l : List Int) (k : Nat) (h : ¬ 0 < sumTo l l.length) : shareSum m l k = 0 := by
  unfold shareSum fdiv
  rw [if_pos (by omega)]
theorem share_near (m : Int) {l : List Int} {k : Nat} {x : Int} (h : 0 < sumTo l l.length) (hx : Hid (l[k]? = some x)) :
    fdiv (m * x) (sumTo l l.length) ≤ shareOf m l k ∧ shareOf m l k ≤ fdiv (m * x) (sumTo l l.length) + 1 ∧ (x = 0 → shareOf m l k = 0) := by
  unfold shareOf
  rw [sumTo_succ hx, Int.mul_add]
  generalize m * sumTo l k = A
  generalize hB : m * x = B
  generalize sumTo l l.length = S at *
  unfold fdiv
  rw [if_neg (by omega), if_neg (by omega), if_neg (by omega)]
  have e1 := Int.mul_ediv_add_emod A S
  have e2 := Int.mul_ediv_add_emod B S
  have r1 := Int.emod_nonneg A (show S ≠ 0 by omega)
  have r2 := Int.emod_nonneg B (show S ≠ 0 by omega)
  have t1 := Int.emod_lt_of_pos A h
  have t2 := Int.emod_lt_of_pos B h
  have e3 : A + B = (A % S + B % S) + S * (A / S + B / S) := by rw [Int.mul_add]; omega
  have e4 : (A + B) / S = (A % S + B % S) / S + (A / S + B / S) := by
    rw [e3, Int.add_mul_ediv_left _ _ (by omega)]
  have f0 : 0 ≤ (A % S + B % S) / S := Int.ediv_nonneg (by omega) (by omega)
  have f1 : (A % S + B % S) / S < 2 := Int.ediv_lt_of_lt_mul h (by omega)
  refine ⟨by omega, by omega, fun h0 => ?_⟩
  subst h0
  rw [Int.mul_zero] at hB
  subst hB
  simp

end Go.Proofs.Ytefgjjmnjanleaa
