/-
  PROVED: Clamped, TotalOf, Wanting: the program's and the reference's give the plain function. No condition but a bound on the length.
-/
import Derived.Test.YtefgjjmnjanleaaShares
namespace Go.Proofs.Ytefgjjmnjanleaa
open Go.RowKit

def clampedL (n : Int) : Int := brought n 0 1048576
theorem brought_bd {n l m : Int} (h : l ≤ m) : l ≤ brought n l m ∧ brought n l m ≤ m := by
  unfold brought
  split
  · omega
  · split <;> omega
theorem clampedL_bd (n : Int) : 0 ≤ clampedL n ∧ clampedL n ≤ 1048576 := brought_bd (by omega)

theorem clamped_any (n : Int) (w : World) : Calls Try.prog 72 #[.int .i64 n] w fun e w' => e = .returned (.int .i64 (clampedL n)) ∧ w = w' := by
  go_enter Try.func72, Try.ntmps72
  go_wp2_with (first | (go_at_call 88; refine (brought_any _ _ _ _).mono ?_; rintro e w' ⟨rfl, rfl⟩))
  go_ret
  exact ⟨rfl, rfl⟩
theorem sclamped_any (n : Int) (w : World) : Calls Try.prog 74 #[.int .i64 n] w fun e w' => e = .returned (.int .i64 (clampedL n)) ∧ w = w' := by
  go_enter Try.func74, Try.ntmps74
  go_wp2_with (first | (go_at_call 89; refine (sbrought_any _ _ _ _).mono ?_; rintro e w' ⟨rfl, rfl⟩))
  go_ret
  exact ⟨rfl, rfl⟩

def totTo (l : List Int) (k : Nat) : Int := ((l.take k).map signedL).sum
def total (l : List Int) : Int := totTo l l.length
theorem totTo_succ {l : List Int} {k : Nat} {x : Int} (hx : Hid (l[k]? = some x)) : totTo l (k + 1) = totTo l k + signedL x := by
  unfold totTo
  rw [List.take_add_one, hx.out]
  simp
theorem totTo_bd (l : List Int) (k : Nat) : -1048576 * k ≤ totTo l k ∧ totTo l k ≤ 1048576 * k := by
  have h : ∀ m : List Int, -1048576 * m.length ≤ (m.map signedL).sum ∧ (m.map signedL).sum ≤ 1048576 * m.length := by
    intro m
    induction m with
    | nil => simp
    | cons x m ih =>
      have := signedL_bd x
      simp only [List.map_cons, List.sum_cons, List.length_cons]
      omega
  have h1 := h (l.take k)
  have h2 : (l.take k).length ≤ k := by rw [List.length_take]; omega
  unfold totTo
  omega

theorem total_any (l : List Int) (a : Option Addr) (c : Nat) (R : Nat → Prop) (w : World) (hl : l.length ≤ 1048576) (h : IntSlice R w a l) :
    Calls Try.prog 31 #[.slice a l.length c] w fun e w' => e = .returned (.int .i64 (total l)) ∧ w = w' := by
  have H := hid h
  clear h
  go_enter Try.func31, Try.ntmps31
  go_wp2
  go_loop [3, 8] (fun z i => ∃ k : Nat, k ≤ l.length ∧ i = .int .i64 k ∧ z = .int .i64 (totTo l k)) (fun _ i => l.length - (intOf i).toNat)
  case atStart => exact ⟨0, by omega, rfl, rfl⟩
  case round =>
    obtain ⟨k, hk, rfl, rfl⟩ := hrel
    obtain ⟨t0, t1⟩ := totTo_bd l k
    by_cases hlt : k < l.length
    · obtain ⟨b, o, x, rfl, _, _, hx, hc⟩ := IntSlice.get H.out hlt
      have e := hid (totTo_succ hx)
      obtain ⟨s0, s1⟩ := signedL_bd x
      go_wp2_with (first | (go_at_call 91; refine (signed_any _ _).mono ?_; rintro e w' ⟨rfl, rfl⟩))
      go_round
      case rel => exact ⟨k + 1, by omega, by go_num, by rw [e.out]⟩
      case measure => simp [intOf]; omega
    · obtain rfl : k = l.length := by omega
      go_wp2
      go_ret
      exact ⟨rfl, rfl⟩
theorem stotal_any (l : List Int) (a : Option Addr) (c : Nat) (R : Nat → Prop) (w : World) (hl : l.length ≤ 1048576) (h : IntSlice R w a l) :
    Calls Try.prog 30 #[.slice a l.length c] w fun e w' => e = .returned (.int .i64 (total l)) ∧ w = w' := by
  have H := hid h
  clear h
  go_enter Try.func30, Try.ntmps30
  go_wp2
  go_loop [3, 4] (fun z i => ∃ k : Nat, k ≤ l.length ∧ i = .int .i64 k ∧ z = .int .i64 (totTo l k)) (fun _ i => l.length - (intOf i).toNat)
  case atStart => exact ⟨0, by omega, rfl, rfl⟩
  case round =>
    obtain ⟨k, hk, rfl, rfl⟩ := hrel
    obtain ⟨t0, t1⟩ := totTo_bd l k
    by_cases hlt : k < l.length
    · obtain ⟨b, o, x, rfl, _, _, hx, hc⟩ := IntSlice.get H.out hlt
      have e := hid (totTo_succ hx)
      obtain ⟨s0, s1⟩ := signedL_bd x
      go_wp2_with (first | (go_at_call 90; refine (l02Len_any _ _).mono ?_; rintro e w' ⟨rfl, rfl⟩))
      go_round
      case rel => exact ⟨k + 1, by omega, by go_num, by rw [e.out]⟩
      case measure => simp [intOf]; omega
    · obtain rfl : k = l.length := by omega
      go_wp2
      go_ret
      exact ⟨rfl, rfl⟩

end Go.Proofs.Ytefgjjmnjanleaa
