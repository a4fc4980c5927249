/-
  PROVED: what ReadDecimal and ReadValue read, in plain words; the two ways of reading a value agree. No condition, no program in sight.
-/
import Derived.Test.YthffgbhphjkdeaaDoorDec
import Derived.Lib.Atoi
import Derived.Lib.AtoiErr
import Derived.Lib.Strings
namespace Go.Proofs.YthffgbhphjkdeaaDoor
open Go.RowKit

def readDec (t : List UInt8) : Int × Bool := match Lib.decNat t with
  | some n => if t.length ≤ 10 ∧ n ≤ 1000000000 ∧ Lib.itoa (n : Int) = t then ((n : Int), true) else (0, false)
  | none => (0, false)
theorem itoa_nat (n : Nat) : Lib.itoa (n : Int) = Lib.decDigits n := by rw [itoa_pos (by omega)]; congr 1
theorem decDigits_ne (u : Nat) : Lib.decDigits u ≠ [] := by
  rw [Lib.decDigits]
  split <;> simp
theorem decFrom_snoc {l : List UInt8} {acc n d : Nat} {b : UInt8} (h : Lib.decFrom acc l = some n) (hd : Lib.digitVal b = some d) : Lib.decFrom acc (l ++ [b]) = some (n * 10 + d) := by
  have h1 := Lib.decFrom_take (l ++ [b]) l.length acc n b d (by simpa using h) (by simp) hd
  rw [List.take_of_length_le (by simp)] at h1
  exact h1
theorem digit_ofNat {d : Nat} (h : d < 10) : Lib.digitVal (UInt8.ofNat (48 + d)) = some d := by
  have e : (UInt8.ofNat (48 + d)).toNat = 48 + d := by
    rw [UInt8.toNat_ofNat']
    omega
  unfold Lib.digitVal
  rw [e, if_pos ⟨by omega, by omega⟩]
  congr 1
  omega
theorem decFrom_digits (u : Nat) : Lib.decFrom 0 (Lib.decDigits u) = some u := by
  induction u using Nat.strongRecOn with
  | _ u ih =>
    rw [Lib.decDigits]
    split
    · rename_i h
      have := decFrom_snoc (l := []) (acc := 0) (n := 0) rfl (digit_ofNat h)
      simpa using this
    · rename_i h
      have h1 := ih (u / 10) (by omega)
      have := decFrom_snoc h1 (digit_ofNat (show u % 10 < 10 by omega))
      rw [this]
      congr 1
      omega
theorem decNat_digits (u : Nat) : Lib.decNat (Lib.decDigits u) = some u := by
  unfold Lib.decNat
  rw [if_neg (by simpa using decDigits_ne u)]
  exact decFrom_digits u
theorem decNat_from {t : List UInt8} (h : t ≠ []) : Lib.decNat t = Lib.decFrom 0 t := by
  unfold Lib.decNat
  rw [if_neg (by simpa using h)]
/-- What is read is read back. -/
theorem readDec_true {t : List UInt8} {n : Int} (h : readDec t = (n, true)) : ∃ m : Nat, n = (m : Int) ∧ m ≤ 1000000000 ∧ Lib.decDigits m = t ∧ t.length ≤ 10 := by
  unfold readDec at h
  split at h
  · rename_i m hm
    split at h
    · rename_i hc
      simp only [Prod.mk.injEq, and_true] at h
      exact ⟨m, h.symm, hc.2.1, by rw [← itoa_nat]; exact hc.2.2, hc.1⟩
    · simp at h
  · simp at h
theorem readDec_of {t : List UInt8} {m : Nat} (h : Lib.decDigits m = t) (hl : t.length ≤ 10) (hm : m ≤ 1000000000) : readDec t = ((m : Int), true) := by
  subst h
  unfold readDec
  rw [decNat_digits]
  simp only
  rw [if_pos ⟨hl, hm, itoa_nat m⟩]
theorem readDec_false {t : List UInt8} (h : ∀ m : Nat, m ≤ 1000000000 → Lib.decDigits m = t → t.length ≤ 10 → False) : readDec t = (0, false) := by
  unfold readDec
  split
  · rename_i m hm
    rw [if_neg fun hc => h m hc.2.1 (by rw [← itoa_nat]; exact hc.2.2) hc.1]
  · rfl
theorem readDec_cases (t : List UInt8) : readDec t = (0, false) ∨ ∃ m : Nat, readDec t = ((m : Int), true) ∧ m ≤ 1000000000 ∧ Lib.decDigits m = t ∧ t.length ≤ 10 := by
  by_cases h : (readDec t).2 = true
  · obtain ⟨m, h1, h2, h3, h4⟩ := readDec_true (n := (readDec t).1) (t := t) (by rw [← h])
    exact .inr ⟨m, by rw [← h1, ← h], h2, h3, h4⟩
  · left
    refine readDec_false fun m hm hd hl => h ?_
    rw [readDec_of hd hl hm]
/-- The first byte of a numeral is a digit. -/
theorem digits_head (m : Nat) {b : UInt8} {r : List UInt8} (h : Lib.decDigits m = b :: r) : 48 ≤ b.toNat ∧ b.toNat ≤ 57 := by
  obtain ⟨d, hd⟩ := Lib.digit_of_decFrom _ 0 m (decFrom_digits m) 0 b (by rw [h]; rfl)
  unfold Lib.digitVal at hd
  split at hd
  · assumption
  · cases hd
theorem atoi_digits (m : Nat) : Lib.atoi (Lib.decDigits m) = some (m : Int) := by
  have hn := decNat_digits m
  cases h : Lib.decDigits m with
  | nil => exact (decDigits_ne m h).elim
  | cons b r =>
    have hb := digits_head m h
    rw [h] at hn
    unfold Lib.atoi
    have e1 : (b == 45) = false := by
      rw [beq_eq_false_iff_ne]; rintro rfl; revert hb; decide
    have e2 : (b == 43) = false := by
      rw [beq_eq_false_iff_ne]; rintro rfl; revert hb; decide
    simp [e1, e2, hn]

/-- A number, also below 0. -/
def readInt (t : List UInt8) : Int × Bool := if 1 < t.length ∧ t[0]? = some 45 then (-(readDec (t.drop 1)).1, (readDec (t.drop 1)).2 && decide (0 < (readDec (t.drop 1)).1)) else readDec t
end Go.Proofs.YthffgbhphjkdeaaDoor
