/-
  PROVED: WeightsOk and Shares: the program's and the reference's give the plain function. No condition but a bound on the length.
-/
import Derived.Test.YtefgjjmnjanleaaNum2
import Derived.Test.YtefgjjmnjanleaaInts
namespace Go.Proofs.Ytefgjjmnjanleaa
open Go.RowKit

theorem info_int : (Try.prog.info? 3).map (fun i => (i.zero, i.size, i.bytes)) = some (some (.int .i64 0), 1, 8) := by kernel_rfl

def wOk (l : List Int) : Bool := l.all (fun x => inB x 0 1073741824) && decide (l.length ≤ 64)
def AllTo (p : Int → Bool) (l : List Int) (k : Nat) : Prop := (l.take k).all p = true
theorem AllTo.succ {p : Int → Bool} {l : List Int} {k : Nat} {x : Int} (h : AllTo p l k) (hx : Hid (l[k]? = some x)) (hp : p x = true) : AllTo p l (k + 1) := by
  unfold AllTo at *
  rw [List.take_add_one, hx.out, List.all_append, h]
  simp [hp]
theorem AllTo.full {p : Int → Bool} {l : List Int} (h : AllTo p l l.length) : l.all p = true := by
  unfold AllTo at h
  rwa [List.take_length] at h
theorem all_false {p : Int → Bool} {l : List Int} {k : Nat} {x : Int} (hx : Hid (l[k]? = some x)) (hp : p x = false) : l.all p = false := by
  rw [List.all_eq_false]
  exact ⟨x, List.mem_of_getElem? hx.out, by simp [hp]⟩

/-- The sum of the first k. -/
def sumTo (l : List Int) (k : Nat) : Int := (l.take k).sum
theorem sumTo_succ {l : List Int} {k : Nat} {x : Int} (hx : Hid (l[k]? = some x)) : sumTo l (k + 1) = sumTo l k + x := by
  unfold sumTo
  rw [List.take_add_one, hx.out, List.sum_append]
  simp
theorem sumTo_zero (l : List Int) : sumTo l 0 = 0 := rfl
theorem wOk_bd {l : List Int} (h : wOk l = true) : l.length ≤ 64 ∧ ∀ x ∈ l, 0 ≤ x ∧ x ≤ 1073741824 := by
  unfold wOk at h
  simp only [Bool.and_eq_true, List.all_eq_true, decide_eq_true_eq] at h
  refine ⟨h.2, fun x hx => ?_⟩
  have := h.1 x hx
  simpa [inB] using this
theorem sum_bd {l : List Int} (h : ∀ x ∈ l, 0 ≤ x ∧ x ≤ 1073741824) : 0 ≤ l.sum ∧ l.sum ≤ 1073741824 * l.length := by
  induction l with
  | nil => simp
  | cons x l ih =>
    have h1 := h x (by simp)
    have h2 := ih fun y hy => h y (by simp [hy])
    simp only [List.sum_cons, List.length_cons]
    omega
theorem sumTo_bd {l : List Int} (h : wOk l = true) (k : Nat) : 0 ≤ sumTo l k ∧ sumTo l k ≤ 68719476736 := by
  obtain ⟨h1, h2⟩ := wOk_bd h
  have h3 := sum_bd (l := l.take k) fun x hx => h2 x (List.mem_of_mem_take hx)
  have h4 : (l.take k).length ≤ 64 := by rw [List.length_take]; omega
  unfold sumTo
  omega

/-- Share i. -/
def shareOf (m : Int) (l : List Int) (i : Nat) : Int := fdiv (m * sumTo l (i + 1)) (sumTo l l.length) - fdiv (m * sumTo l i) (sumTo l l.length)
def sharesTo (m : Int) (l : List Int) (k : Nat) : List Int := (List.range k).map (shareOf m l)
theorem sharesTo_succ (m : Int) (l : List Int) (k : Nat) : sharesTo m l (k + 1) = sharesTo m l k ++ [shareOf m l k] := by simp [sharesTo, List.range_succ]
theorem sharesTo_length (m : Int) (l : List Int) (k : Nat) : (sharesTo m l k).length = k := by simp [sharesTo]
def shares (n : Int) (l : List Int) : List Int := if wOk l = true then sharesTo (signedL n) l l.length else []

theorem mul_bd {m s : Int} (h1 : -1048576 ≤ m) (h2 : m ≤ 1048576) (h3 : 0 ≤ s) (h4 : s ≤ 68719476736) : -72057594037927936 ≤ m * s ∧ m * s ≤ 72057594037927936 := by
  constructor
  · have a := Int.mul_le_mul_of_nonneg_right h1 h3
    omega
  · have a := Int.mul_le_mul_of_nonneg_right h2 h3
    omega
theorem fdiv_bd0 {a b k : Int} (hk : 0 ≤ k) (h1 : -k ≤ a) (h2 : a ≤ k) : -k ≤ fdiv a b ∧ fdiv a b ≤ k := by
  unfold fdiv
  split
  · omega
  · constructor
    · exact (Int.le_ediv_iff_mul_le (by omega)).2 (by
        have : -k * b ≤ -k * 1 := by
          rw [Int.neg_mul, Int.neg_mul]
          exact Int.neg_le_neg (Int.mul_le_mul_of_nonneg_left (by omega) hk)
        omega)
    · by_cases h : 0 ≤ a
      · have := Int.ediv_le_self b h
        omega
      · have := Int.ediv_neg_of_neg_of_pos (show a < 0 by omega) (show 0 < b by omega)
        omega

theorem wOk_any (l : List Int) (a : Option Addr) (c : Nat) (R : Nat → Prop) (w : World) (hl : l.length ≤ 9223372036854775807) (h : IntSlice R w a l) :
    Calls Try.prog 117 #[.slice a l.length c] w fun e w' => e = .returned (.bool (wOk l)) ∧ w = w' := by
  have H := hid h
  clear h
  go_enter Try.func117, Try.ntmps117
  go_wp2
  go_loop [7] (fun i => ∃ k : Nat, k ≤ l.length ∧ i = .int .i64 k ∧ AllTo (fun x => inB x 0 1073741824) l k) (fun i => l.length - (intOf i).toNat)
  case atStart => exact ⟨0, by omega, rfl, rfl⟩
  case round =>
    obtain ⟨k, hk, rfl, hall⟩ := hrel
    by_cases hlt : k < l.length
    · obtain ⟨b, o, x, rfl, _, _, hx, hc⟩ := H.out.get hlt
      by_cases hi : inB x 0 1073741824 = true
      · go_wp2_with (first | (go_at_call 75; refine (in_any _ _ _ _).mono ?_; rintro e w' ⟨rfl, rfl⟩))
        go_round
        case rel => exact ⟨k + 1, by omega, by go_num, hall.succ hx hi⟩
        case measure => simp [intOf]; omega
      · replace hi : inB x 0 1073741824 = false := by simpa using hi
        go_wp2_with (first | (go_at_call 75; refine (in_any _ _ _ _).mono ?_; rintro e w' ⟨rfl, rfl⟩))
        go_ret
        exact ⟨ret_bool (by unfold wOk; rw [all_false hx hi]; rfl), rfl⟩
    · have hk' : k = l.length := by omega
      subst hk'
      go_wp2
      go_ret
      exact ⟨ret_bool (by unfold wOk; rw [hall.full]; simp; omega), rfl⟩

theorem swOk_any (l : List Int) (a : Option Addr) (c : Nat) (R : Nat → Prop) (w : World) (hl : l.length ≤ 9223372036854775807) (h : IntSlice R w a l) :
    Calls Try.prog 119 #[.slice a l.length c] w fun e w' => e = .returned (.bool (wOk l)) ∧ w = w' := by
  have H := hid h
  clear h
  go_enter Try.func119, Try.ntmps119
  go_wp2
  go_loop [3] (fun i => ∃ k : Nat, k ≤ l.length ∧ i = .int .i64 k ∧ AllTo (fun x => inB x 0 1073741824) l k) (fun i => l.length - (intOf i).toNat)
  case atStart => exact ⟨0, by omega, rfl, rfl⟩
  case round =>
    obtain ⟨k, hk, rfl, hall⟩ := hrel
    by_cases hlt : k < l.length
    · obtain ⟨b, o, x, rfl, _, _, hx, hc⟩ := H.out.get hlt
      by_cases hi : inB x 0 1073741824 = true
      · go_wp2_with (first | (go_at_call 76; refine (l01In_any _ _ _ _).mono ?_; rintro e w' ⟨rfl, rfl⟩))
        go_round
        case rel => exact ⟨k + 1, by omega, by go_num, hall.succ hx hi⟩
        case measure => simp [intOf]; omega
      · replace hi : inB x 0 1073741824 = false := by simpa using hi
        go_wp2_with (first | (go_at_call 76; refine (l01In_any _ _ _ _).mono ?_; rintro e w' ⟨rfl, rfl⟩))
        go_ret
        exact ⟨ret_bool (by unfold wOk; rw [all_false hx hi]; rfl), rfl⟩
    · have hk' : k = l.length := by omega
      subst hk'
      go_wp2
      go_ret
      exact ⟨ret_bool (by unfold wOk; rw [hall.full]; simp; omega), rfl⟩

end Go.Proofs.Ytefgjjmnjanleaa
