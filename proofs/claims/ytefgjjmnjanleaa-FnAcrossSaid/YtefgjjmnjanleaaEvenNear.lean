/-
  PROVED: the plain law of even shares: they differ by at most one, and there are as many as asked for. No program in sight.
-/
import Derived.Test.YtefgjjmnjanleaaEvenly
namespace Go.Proofs.Ytefgjjmnjanleaa
open Go.RowKit

theorem sum_ones (m : Nat) : sumTo (ones m) m = m := by
  unfold sumTo
  rw [List.take_of_length_le (by rw [ones_length]; omega)]
  induction m with
  | zero => rfl
  | succ m ih => rw [ones_succ, List.sum_append, ih]; simp
theorem evenly_near (n many : Int) : ∃ q : Int, -1048576 ≤ q ∧ q ≤ 1048576 ∧ ∀ (k : Nat) (x : Int), (evenly n many)[k]? = some x → q ≤ x ∧ x ≤ q + 1 := by
  unfold evenly
  split
  · rename_i h
    obtain ⟨m, rfl⟩ : ∃ m : Nat, many = m := ⟨many.toNat, by omega⟩
    simp only [Int.toNat_natCast]
    have hm : m ≤ 64 := by omega
    obtain ⟨m0, m1⟩ := signedL_bd n
    obtain ⟨f0, f1⟩ := fdiv_bd0 (a := signedL n * 1) (b := sumTo (ones m) (ones m).length) (show (0 : Int) ≤ 1048576 by omega) (by omega) (by omega)
    refine ⟨fdiv (signedL n * 1) (sumTo (ones m) (ones m).length), f0, f1, fun k x hx => ?_⟩
    unfold shares at hx
    rw [if_pos (ones_ok hm)] at hx
    have hk : k < m := by
      have := (List.getElem?_eq_some_iff.1 hx).1
      rw [sharesTo_length, ones_length] at this
      exact this
    have hx1 : (ones m)[k]? = some 1 := by simp [ones, hk]
    have hs : shareOf (signedL n) (ones m) k = x := by
      rw [ones_length] at hx
      simpa [sharesTo, hk] using hx
    have hpos : 0 < sumTo (ones m) (ones m).length := by rw [ones_length, sum_ones]; omega
    have hn := share_near (signedL n) hpos (hid hx1)
    rw [hs] at hn
    exact ⟨hn.1, hn.2.1⟩
  · exact ⟨0, by omega, by omega, fun k x hx => by simp at hx⟩
theorem evenly_len (n many : Int) (h0 : 0 ≤ many) (h1 : many ≤ 64) : (evenly n many).length = many.toNat := by
  rw [evenly_some h0 h1]
  unfold shares
  rw [if_pos (ones_ok (by omega)), sharesTo_length, ones_length]

end Go.Proofs.Ytefgjjmnjanleaa
