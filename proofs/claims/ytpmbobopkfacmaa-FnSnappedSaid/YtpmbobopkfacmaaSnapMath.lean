/-
  PROVED: the plain law of snapping: a multiple of the step, less than a step away, halves up; once more it stays. No program in sight.
-/
import Derived.Test.YtpmbobopkfacmaaSnap
namespace Go.Proofs.Ytpmbobopkfacmaa
open Go.RowKit

/-- A snapped number is q steps, near n. -/
def Near (n s q : Int) : Prop := 2 * (q * s - n) ≤ s ∧ 2 * (n - q * s) < s

theorem snapTo_near {n s : Int} (h : snapIn n s) : ∃ q, snapTo n s = q * s ∧ Near n s q := by
  unfold snapTo
  rw [if_pos h]
  obtain ⟨h1, h2, h3, h4⟩ := h
  unfold fdiv
  rw [if_neg (by omega)]
  refine ⟨(2 * n + s) / (2 * s), rfl, ?_⟩
  have e := Int.mul_ediv_add_emod (2 * n + s) (2 * s)
  have r0 := Int.emod_nonneg (2 * n + s) (show 2 * s ≠ 0 by omega)
  have r1 := Int.emod_lt_of_pos (2 * n + s) (show 0 < 2 * s by omega)
  generalize (2 * n + s) / (2 * s) = q at *
  generalize (2 * n + s) % (2 * s) = r at *
  have e2 : 2 * s * q = 2 * (q * s) := by rw [Int.mul_assoc, Int.mul_comm s q]
  unfold Near
  omega

theorem snapTo_mult {q s : Int} (h1 : 1 ≤ s) : snapTo (q * s) s = q * s := by
  unfold snapTo
  split
  · unfold fdiv
    rw [if_neg (by omega)]
    have e : 2 * (q * s) + s = s + (2 * s) * q := by
      have : 2 * s * q = 2 * (q * s) := by rw [Int.mul_assoc, Int.mul_comm s q]
      omega
    rw [e, Int.add_mul_ediv_left _ _ (by omega), Int.ediv_eq_zero_of_lt (by omega) (by omega), Int.zero_add]
  · rfl

theorem snapTo_out {n s : Int} (h : ¬ (1 ≤ s ∧ s ≤ 4096)) : snapTo n s = n := by
  unfold snapTo
  rw [if_neg (fun hs => h ⟨hs.1, hs.2.1⟩)]

theorem near_mono {n m s p q : Int} (h1 : 1 ≤ s) (hn : Near n s p) (hm : Near m s q) (h : n ≤ m) : p * s ≤ q * s := by
  unfold Near at *
  by_cases hpq : p ≤ q
  · exact Int.mul_le_mul_of_nonneg_right hpq (by omega)
  · exfalso
    have : (q + 1) * s ≤ p * s := Int.mul_le_mul_of_nonneg_right (by omega) (by omega)
    rw [Int.add_mul, Int.one_mul] at this
    omega

theorem tmod_mult (q s : Int) : (q * s).tmod s = 0 := Int.mul_tmod_left q s

/-- What the law needs of one edge pair. -/
theorem snapW_law {x a s : Int} (h1 : 1 ≤ s) (h2 : s ≤ 4096) (hx : -2500 ≤ x ∧ x < 2500) (ha : 0 ≤ a ∧ a < 3000) :
    ∃ p q : Int, snapTo x s = p * s ∧ snapW x a s = (q - p) * s ∧ 0 ≤ (q - p) * s ∧ (q - p) * s ≤ 20000 ∧ -20000 ≤ p * s ∧ p * s ≤ 20000 ∧ (q - p) * s - a < s ∧ a - (q - p) * s < s ∧ snapTo (p * s) s = p * s ∧ snapW (p * s) ((q - p) * s) s = (q - p) * s := by
  obtain ⟨p, hp, np⟩ := snapTo_near (n := x) (s := s) ⟨h1, h2, by omega, by omega⟩
  obtain ⟨q, hq, nq⟩ := snapTo_near (n := x + a) (s := s) ⟨h1, h2, by omega, by omega⟩
  have hm := near_mono h1 np nq (by omega)
  have e : (q - p) * s = q * s - p * s := Int.sub_mul q p s
  have ew : wrap64 (x + a) = x + a := by unfold wrap64; omega
  have b1 := np
  have b2 := nq
  unfold Near at b1 b2
  have es : snapW x a s = (q - p) * s := by
    unfold snapW
    rw [ew, hq, hp, e]
    unfold wrap64
    omega
  refine ⟨p, q, hp, es, by omega, by omega, by omega, by omega, by omega, by omega, snapTo_mult h1, ?_⟩
  unfold snapW
  have e3 : wrap64 (p * s + (q - p) * s) = q * s := by rw [e]; unfold wrap64; omega
  rw [e3, snapTo_mult h1, snapTo_mult h1, e]
  unfold wrap64
  omega

theorem snapW_out {x a s : Int} (h : ¬ (1 ≤ s ∧ s ≤ 4096)) (_hx : -2500 ≤ x ∧ x < 2500) (ha : 0 ≤ a ∧ a < 3000) : snapW x a s = a := by
  unfold snapW
  rw [snapTo_out h, snapTo_out h]
  unfold wrap64
  omega

/-- The law's sentence on one number. -/
theorem snapTo_law {n s : Int} (h1 : 1 ≤ s) (h2 : s ≤ 4096) (h3 : -1000000000 ≤ n) (h4 : n ≤ 1000000000) :
    ∃ q : Int, snapTo n s = q * s ∧ 2 * (q * s - n) ≤ s ∧ 2 * (n - q * s) < s ∧ -1000004096 ≤ q * s ∧ q * s ≤ 1000004096 := by
  obtain ⟨q, hq, nq⟩ := snapTo_near (n := n) (s := s) ⟨h1, h2, h3, h4⟩
  unfold Near at nq
  exact ⟨q, hq, nq.1, nq.2, by omega, by omega⟩

/-- .. and of the pair, its numbers named. -/
theorem snapW_pair {x a s : Int} (h1 : 1 ≤ s) (h2 : s ≤ 4096) (hx : -2500 ≤ x ∧ x < 2500) (ha : 0 ≤ a ∧ a < 3000) :
    ∃ X A : Int, snapTo x s = X ∧ snapW x a s = A ∧ 0 ≤ A ∧ A ≤ 20000 ∧ -20000 ≤ X ∧ X ≤ 20000 ∧ A - a < s ∧ a - A < s ∧ snapTo X s = X ∧ snapW X A s = A ∧ X.tmod s = 0 ∧ A.tmod s = 0 := by
  obtain ⟨p, q, a1, a2, a3, a4, a5, a6, a7, a8, a9, a10⟩ := snapW_law h1 h2 hx ha
  exact ⟨p * s, (q - p) * s, a1, a2, a3, a4, a5, a6, a7, a8, a9, a10, tmod_mult _ _, tmod_mult _ _⟩
theorem snapTo_pair {n s : Int} (h1 : 1 ≤ s) (h2 : s ≤ 4096) (h3 : -1000000000 ≤ n) (h4 : n ≤ 1000000000) :
    ∃ X : Int, snapTo n s = X ∧ 2 * (X - n) ≤ s ∧ 2 * (n - X) < s ∧ -1000004096 ≤ X ∧ X ≤ 1000004096 ∧ X.tmod s = 0 := by
  obtain ⟨q, a1, a2, a3, a4, a5⟩ := snapTo_law h1 h2 h3 h4
  exact ⟨q * s, a1, a2, a3, a4, a5, tmod_mult _ _⟩

end Go.Proofs.Ytpmbobopkfacmaa
