/-
  PROVED: the reference's Decimal writes the decimal numeral of every int. No condition.
-/
import Derived.Test.YthffgbhphjkdeaaDoorNum
import Derived.Test.YthffgbhphjkdeaaDoorReg
import Derived.Lib.ItoaMem
import Derived.Lib.ItoaLen
import Derived.Lib.ConvBytes
namespace Go.Proofs.YthffgbhphjkdeaaDoor
open Go.RowKit

/-- The sign of a digit. -/
def digit (d : Nat) : UInt8 := UInt8.ofNat (48 + d)
/-- What is left to write of n, and what is written. -/
def DigInv (n m : Int) (l : List UInt8) : Prop := Lib.decDigits n.natAbs = (if m = 0 then l else Lib.decDigits m.natAbs ++ l)
theorem DigInv.start (n : Int) (h : n ≠ 0) : DigInv n n [] := by unfold DigInv; rw [if_neg h]; simp
theorem digInv_step {n m q : Int} {l : List UInt8} {d : Nat} (h : DigInv n m l) (hm : m ≠ 0) (hq : q.natAbs = m.natAbs / 10) (hd : d = m.natAbs % 10) : DigInv n q (digit d :: l) := by
  unfold DigInv digit at *
  rw [if_neg hm] at h
  rw [h, Lib.decDigits]
  subst hd
  by_cases h10 : m.natAbs < 10
  · rw [dif_pos h10, if_pos (by omega), Nat.mod_eq_of_lt h10]
    rfl
  · rw [dif_neg h10, if_neg (by omega), hq]
    simp
theorem DigInv.done {n : Int} {l : List UInt8} (h : DigInv n 0 l) : Lib.decDigits n.natAbs = l := by unfold DigInv at h; simpa using h

theorem l01Figure_any (x : Int) (h0 : 0 ≤ x) (h1 : x < 10) (w : World) : Calls Tryd.prog 141 #[.int .i64 x] w fun e w' => e = .returned (.int .u8 (48 + x)) ∧ w = w' := by
  go_enter Tryd.func141, Tryd.ntmps141
  go_wp2
  go_ret
  exact ⟨rfl, rfl⟩

theorem DigInv.short {n m : Int} {l : List UInt8} (h : DigInv n m l) (h0 : -9223372036854775808 ≤ n) (h1 : n ≤ 9223372036854775807) : l.length ≤ 20 := by
  have h2 := congrArg List.length h
  rw [Lib.decDigits_length] at h2
  have h3 := Lib.nDigits_le20 n.natAbs (by omega)
  split at h2
  · omega
  · rw [List.length_append] at h2; omega
theorem conv_digit (d : Nat) (hd : d < 10) (W : World) : (convert 47 9 (.slice (some ⟨W.heap.size, 0, none⟩) 1 1)).run Tryd.prog (W.alloc (.cells #[.int .u8 (48 + (d : Int))] 5)) = .ok (.string ⟨#[digit d]⟩) (W.alloc (.cells #[.int .u8 (48 + (d : Int))] 5)) := by
  have e : (digit d).toNat = 48 + d := by unfold digit; simp; omega
  have := run_convert_bytes_back (P := Tryd.prog) (W.alloc (.cells #[.int .u8 (48 + (d : Int))] 5)) 47 9 5 ⟨W.heap.size, 0, none⟩ 1 [digit d] Tryd.underlying47 Tryd.underlying5 Tryd.underlying9 (by
    intro j hj
    obtain rfl : j = 0 := by simpa using hj
    simp [go_sem, Addr.add, e])
  simpa using this

theorem itoa_pos {n : Int} (h : 0 ≤ n) : Lib.itoa n = Lib.decDigits n.natAbs := by
  unfold Lib.itoa
  rw [if_neg (by omega), show n.toNat = n.natAbs by omega]
theorem itoa_neg' {n : Int} (h : n < 0) : Lib.itoa n = 45 :: Lib.decDigits n.natAbs := by
  unfold Lib.itoa
  rw [if_pos h]
theorem ret_string {a b : List UInt8} (h : a = b) : Ending.returned (.string ⟨a.toArray⟩) = .returned (.string ⟨b.toArray⟩) := by rw [h]
theorem cat_one (c : UInt8) (l : List UInt8) : ((⟨#[c]⟩ : ByteArray) ++ ⟨l.toArray⟩) = ⟨(c :: l).toArray⟩ := by
  apply ByteArray.ext
  simp [ByteArray.data_append]

set_option maxRecDepth 100000 in
set_option maxHeartbeats 2000000 in
theorem sdecimal_any (n : Int) (h0 : -9223372036854775808 ≤ n) (h1 : n ≤ 9223372036854775807) (w : World) :
    Calls Tryd.prog 93 #[.int .i64 n] w fun e w' => e = .returned (.string ⟨(Lib.itoa n).toArray⟩) ∧ Mod (fun _ => False) w w' := by
  by_cases hz : n = 0
  · subst hz
    have e0 : Lib.itoa 0 = [48] := by rw [itoa_pos (by omega)]; rw [Lib.decDigits]; rfl
    rw [e0]
    go_enter Tryd.func93, Tryd.ntmps93
    go_wp2
    go_ret
    exact ⟨rfl, Mod.refl _ _⟩
  · have hz' : (n == 0) = false := by simpa using hz
    have hst := DigInv.start n hz
    by_cases hneg : n < 0
    · skip
      go_enter Tryd.func93, Tryd.ntmps93
      go_wp2
      go_loopw [0, 4] (fun v s wr => ∃ (k : Nat) (l : List UInt8), k ≤ 9223372036854775808 ∧ v = .int .i64 (-(k : Int)) ∧ s = .string ⟨l.toArray⟩ ∧ DigInv n (-(k : Int)) l ∧ Mod (fun _ => False) w wr) (fun v _ _ => (intOf v).natAbs)
      case atStart => exact ⟨n.natAbs, [], by omega, by rw [show -(n.natAbs : Int) = n by omega], rfl, by rw [show -(n.natAbs : Int) = n by omega]; exact hst, Mod.refl _ _⟩
      case round =>
        obtain ⟨k, l, hk0, rfl, rfl, hI, hM⟩ := hrel
        clear hst hz hz'
        have hl20 := hI.short h0 h1
        clear h0 h1
        by_cases hm : k = 0
        · subst hm
          have hres := hid hI.done
          clear hI
          have hcat := cat_one 45 l
          go_wp2
          go_ret
          exact ⟨by rw [itoa_neg' hneg, hres.out]; rfl, hM⟩
        · have hk1 : 1 ≤ k := by omega
          obtain ⟨d, hd⟩ : ∃ d, d = k % 10 := ⟨_, rfl⟩
          obtain ⟨q, hq⟩ : ∃ q, q = k / 10 := ⟨_, rfl⟩
          have hd10 : d < 10 := by omega
          have hq' : q ≤ 922337203685477580 := by omega
          have hqk : q < k := by omega
          have hstep := hid (digInv_step (q := -(q : Int)) hI (by omega) (by omega) (show d = (-(k : Int)).natAbs % 10 by omega))
          have e1 : (-(k : Int)).tmod 10 = -(d : Int) := by rw [Int.neg_tmod, Int.tmod_eq_emod_of_nonneg (by omega), hd]; omega
          have e2 : (-(k : Int)).tdiv 10 = -(q : Int) := by rw [Int.neg_tdiv, Int.tdiv_eq_ediv_of_nonneg (by omega), hq]; omega
          have hc := conv_digit d hd10
          have hcat := cat_one (digit d) l
          clear hI
          have hn1 : decide (-(k : Int) = 0) = false := by simp; omega
          clear hd hq
          by_cases hd0 : d = 0
          · subst hd0
            have hc : ∀ W : World, (convert 47 9 (.slice (some ⟨W.heap.size, 0, none⟩) 1 1)).run Tryd.prog (W.alloc (.cells #[.int .u8 48] 5)) = .ok (.string ⟨#[digit 0]⟩) (W.alloc (.cells #[.int .u8 48] 5)) := fun W => conv_digit 0 (by omega) W
            go_wp2
            go_roundw
            case rel => exact ⟨q, digit 0 :: l, by omega, rfl, rfl, hstep.out, hM.alloc _⟩
            case measure => simp [intOf]; omega
          · have hd1 : 1 ≤ d := by omega
            go_wp2
            go_roundw
            case rel => exact ⟨q, digit d :: l, by omega, rfl, rfl, hstep.out, hM.alloc _⟩
            case measure => simp [intOf]; omega
    · skip
      go_enter Tryd.func93, Tryd.ntmps93
      go_wp2
      go_loopw [0, 4] (fun v s wr => ∃ (k : Nat) (l : List UInt8), k ≤ 9223372036854775807 ∧ v = .int .i64 (k : Int) ∧ s = .string ⟨l.toArray⟩ ∧ DigInv n (k : Int) l ∧ Mod (fun _ => False) w wr) (fun v _ _ => (intOf v).natAbs)
      case atStart => exact ⟨n.natAbs, [], by omega, by rw [show (n.natAbs : Int) = n by omega], rfl, by rw [show (n.natAbs : Int) = n by omega]; exact hst, Mod.refl _ _⟩
      case round =>
        obtain ⟨k, l, hk0, rfl, rfl, hI, hM⟩ := hrel
        clear hst hz hz'
        have hl20 := hI.short h0 h1
        clear h0 h1
        by_cases hm : k = 0
        · subst hm
          have hres := hid hI.done
          clear hI
          have hcat := cat_one 45 l
          go_wp2
          go_ret
          exact ⟨by rw [itoa_pos (by omega), hres.out]; rfl, hM⟩
        · have hk1 : 1 ≤ k := by omega
          obtain ⟨d, hd⟩ : ∃ d, d = k % 10 := ⟨_, rfl⟩
          obtain ⟨q, hq⟩ : ∃ q, q = k / 10 := ⟨_, rfl⟩
          have hd10 : d < 10 := by omega
          have hq' : q ≤ 922337203685477580 := by omega
          have hqk : q < k := by omega
          have hstep := hid (digInv_step (q := (q : Int)) hI (by omega) (by omega) (show d = ((k : Int)).natAbs % 10 by omega))
          have e1 : ((k : Int)).tmod 10 = (d : Int) := by rw [Int.tmod_eq_emod_of_nonneg (by omega), hd]; omega
          have e2 : ((k : Int)).tdiv 10 = (q : Int) := by rw [Int.tdiv_eq_ediv_of_nonneg (by omega), hq]; omega
          have hc := conv_digit d hd10
          have hcat := cat_one (digit d) l
          clear hI
          have e3 : (k : Int) % 10 = d := by omega
          have e4 : (k : Int) / 10 = q := by omega
          clear hd hq
          go_wp2
          go_roundw
          case rel => exact ⟨q, digit d :: l, by omega, rfl, rfl, hstep.out, hM.alloc _⟩
          case measure => simp [intOf]; omega

end Go.Proofs.YthffgbhphjkdeaaDoor
