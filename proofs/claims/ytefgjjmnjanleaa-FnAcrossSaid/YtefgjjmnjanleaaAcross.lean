/-
  PROVED: AcrossOk, CrossTotal, LeadOf, betweenOf and their like: the program's and the reference's give the plain function. Conditions: bounds on the numbers.
-/
import Derived.Test.YtefgjjmnjanleaaEvenly
import Derived.Test.YtefgjjmnjanleaaReg
namespace Go.Proofs.Ytefgjjmnjanleaa
open Go.RowKit

def acrossOk (l : List Int) (gap inner : Int) : Bool := l.all (fun x => inB x 0 1048576) && (decide (l.length ≤ 12) && inB gap 0 1048576 && inB inner 0 1048576)
def crossTotal (l : List Int) (gap : Int) : Int := if l.length = 0 then 0 else total l + gap * ((l.length : Int) - 1)

theorem acrossOk_any (l : List Int) (gap inner : Int) (a : Option Addr) (c : Nat) (R : Nat → Prop) (w : World) (hl : l.length ≤ 1048576) (h : IntSlice R w a l) :
    Calls Try.prog 52 #[.slice a l.length c, .int .i64 gap, .int .i64 inner] w fun e w' => e = .returned (.bool (acrossOk l gap inner)) ∧ w = w' := by
  have H := hid h
  clear h
  go_enter Try.func52, Try.ntmps52
  go_wp2
  go_loop [11] (fun i => ∃ k : Nat, k ≤ l.length ∧ i = .int .i64 k ∧ AllTo (fun x => inB x 0 1048576) l k) (fun i => l.length - (intOf i).toNat)
  case atStart => exact ⟨0, by omega, rfl, rfl⟩
  case round =>
    obtain ⟨k, hk, rfl, hall⟩ := hrel
    by_cases hlt : k < l.length
    · obtain ⟨b, o, x, rfl, _, _, hx, hc⟩ := IntSlice.get H.out hlt
      cases hi : inB x 0 1048576
      · go_wp2_with (first | (go_at_call 75; refine (in_any _ _ _ _).mono ?_; rintro e w' ⟨rfl, rfl⟩))
        go_ret
        exact ⟨ret_bool (by unfold acrossOk; rw [all_false hx hi]; rfl), rfl⟩
      · go_wp2_with (first | (go_at_call 75; refine (in_any _ _ _ _).mono ?_; rintro e w' ⟨rfl, rfl⟩))
        go_round
        case rel => exact ⟨k + 1, by omega, by go_num, hall.succ hx hi⟩
        case measure => simp [intOf]; omega
    · obtain rfl : k = l.length := by omega
      have hf := hall.full
      cases h1 : inB gap 0 1048576 <;> cases h2 : inB inner 0 1048576 <;> by_cases h3 : l.length ≤ 12
      all_goals
        go_wp2_with (first | (go_at_call 75; refine (in_any _ _ _ _).mono ?_; rintro e w' ⟨rfl, rfl⟩))
        go_ret
        exact ⟨ret_bool (by unfold acrossOk; rw [hf, h1, h2]; simp [h3]), rfl⟩

theorem sacrossOk_any (l : List Int) (gap inner : Int) (a : Option Addr) (c : Nat) (R : Nat → Prop) (w : World) (hl : l.length ≤ 1048576) (h : IntSlice R w a l) :
    Calls Try.prog 53 #[.slice a l.length c, .int .i64 gap, .int .i64 inner] w fun e w' => e = .returned (.bool (acrossOk l gap inner)) ∧ w = w' := by
  have H := hid h
  clear h
  go_enter Try.func53, Try.ntmps53
  go_wp2
  go_loop [7] (fun i => ∃ k : Nat, k ≤ l.length ∧ i = .int .i64 k ∧ AllTo (fun x => inB x 0 1048576) l k) (fun i => l.length - (intOf i).toNat)
  case atStart => exact ⟨0, by omega, rfl, rfl⟩
  case round =>
    obtain ⟨k, hk, rfl, hall⟩ := hrel
    by_cases hlt : k < l.length
    · obtain ⟨b, o, x, rfl, _, _, hx, hc⟩ := IntSlice.get H.out hlt
      cases hi : inB x 0 1048576
      · go_wp2_with (first | (go_at_call 76; refine (l01In_any _ _ _ _).mono ?_; rintro e w' ⟨rfl, rfl⟩))
        go_ret
        exact ⟨ret_bool (by unfold acrossOk; rw [all_false hx hi]; rfl), rfl⟩
      · go_wp2_with (first | (go_at_call 76; refine (l01In_any _ _ _ _).mono ?_; rintro e w' ⟨rfl, rfl⟩))
        go_round
        case rel => exact ⟨k + 1, by omega, by go_num, hall.succ hx hi⟩
        case measure => simp [intOf]; omega
    · obtain rfl : k = l.length := by omega
      have hf := hall.full
      cases h1 : inB gap 0 1048576 <;> cases h2 : inB inner 0 1048576 <;> by_cases h3 : l.length ≤ 12
      all_goals
        go_wp2_with (first | (go_at_call 76; refine (l01In_any _ _ _ _).mono ?_; rintro e w' ⟨rfl, rfl⟩))
        go_ret
        exact ⟨ret_bool (by unfold acrossOk; rw [hf, h1, h2]; simp [h3]), rfl⟩

theorem gap_bd {gap : Int} {n : Nat} (g0 : -1048576 ≤ gap) (g1 : gap ≤ 1048576) (hn : n ≤ 1000) (hp : 0 < n) : -1048576000 ≤ gap * ((n : Int) - 1) ∧ gap * ((n : Int) - 1) ≤ 1048576000 := by
  obtain ⟨m, rfl⟩ : ∃ m : Nat, n = m + 1 := ⟨n - 1, by omega⟩
  rw [show ((m + 1 : Nat) : Int) - 1 = (m : Int) by omega]
  have h1 := Int.mul_le_mul_of_nonneg_right g1 (show (0 : Int) ≤ m by omega)
  have h0 := Int.mul_le_mul_of_nonneg_right g0 (show (0 : Int) ≤ m by omega)
  omega

theorem crossTotal_any (l : List Int) (gap : Int) (a : Option Addr) (c : Nat) (R : Nat → Prop) (w : World) (hl : l.length ≤ 1000) (g0 : -1048576 ≤ gap) (g1 : gap ≤ 1048576) (h : IntSlice R w a l) :
    Calls Try.prog 50 #[.slice a l.length c, .int .i64 gap] w fun e w' => e = .returned (.int .i64 (crossTotal l gap)) ∧ w = w' := by
  have H := hid h
  clear h
  unfold crossTotal
  by_cases h0 : l.length = 0
  · rw [if_pos h0]
    have h0' : ((l.length : Int) == 0) = true := by simp [h0]
    go_enter Try.func50, Try.ntmps50
    go_wp2
    go_ret
    exact ⟨rfl, rfl⟩
  · rw [if_neg h0]
    have h0' : ((l.length : Int) == 0) = false := beq_eq_false_iff_ne.2 (by omega)
    obtain ⟨p0, p1⟩ := gap_bd g0 g1 hl (by omega)
    obtain ⟨t0, t1⟩ := totTo_bd l l.length
    have T : totTo l l.length = total l := rfl
    rw [T] at t0 t1
    clear T
    have hl1 : 1 ≤ l.length := by omega
    clear h0
    go_enter Try.func50, Try.ntmps50
    go_wp2_with (first | (go_at_call 31; refine (total_any l _ _ R _ (by omega) (H.out.flatKeep (by (repeat (first | with_reducible exact Mod.refl _ _ | with_reducible refine Mod.drewN ?_ _ | with_reducible refine Mod.drew ?_ | with_reducible refine Mod.alloc ?_ _ | ((with_reducible refine Mod.setNew ?_ ?_ _ _ _); (rotate_left; omega)) | with_reducible refine Mod.setAt ?_ _ _ _ ))))).mono ?_; rintro e w' ⟨rfl, rfl⟩))
    go_ret
    exact ⟨rfl, rfl⟩
theorem scrossTotal_any (l : List Int) (gap : Int) (a : Option Addr) (c : Nat) (R : Nat → Prop) (w : World) (hl : l.length ≤ 1000) (g0 : -1048576 ≤ gap) (g1 : gap ≤ 1048576) (h : IntSlice R w a l) :
    Calls Try.prog 51 #[.slice a l.length c, .int .i64 gap] w fun e w' => e = .returned (.int .i64 (crossTotal l gap)) ∧ w = w' := by
  have H := hid h
  clear h
  unfold crossTotal
  by_cases h0 : l.length = 0
  · rw [if_pos h0]
    have h0' : ((l.length : Int) == 0) = true := by simp [h0]
    go_enter Try.func51, Try.ntmps51
    go_wp2
    go_ret
    exact ⟨rfl, rfl⟩
  · rw [if_neg h0]
    have h0' : ((l.length : Int) == 0) = false := beq_eq_false_iff_ne.2 (by omega)
    obtain ⟨p0, p1⟩ := gap_bd g0 g1 hl (by omega)
    obtain ⟨t0, t1⟩ := totTo_bd l l.length
    have T : totTo l l.length = total l := rfl
    rw [T] at t0 t1
    clear T
    have hl1 : 1 ≤ l.length := by omega
    clear h0
    go_enter Try.func51, Try.ntmps51
    go_wp2_with (first | (go_at_call 30; refine (stotal_any l _ _ R _ (by omega) (H.out.flatKeep (by (repeat (first | with_reducible exact Mod.refl _ _ | with_reducible refine Mod.drewN ?_ _ | with_reducible refine Mod.drew ?_ | with_reducible refine Mod.alloc ?_ _ | ((with_reducible refine Mod.setNew ?_ ?_ _ _ _); (rotate_left; omega)) | with_reducible refine Mod.setAt ?_ _ _ _ ))))).mono ?_; rintro e w' ⟨rfl, rfl⟩))
    go_ret
    exact ⟨rfl, rfl⟩

def justOf (content : Int) : Int := if content = 3 then 2 else if content = 4 then 3 else if content = 5 then 4 else if content = 6 then 5 else 1
theorem justifyOf_any (n : Int) (w : World) : Calls Try.prog 102 #[.int .i64 n] w fun e w' => e = .returned (.int .i64 (justOf n)) ∧ w = w' := by
  go_enter Try.func102, Try.ntmps102
  go_wp2
  all_goals
    go_ret
    exact ⟨ret_int (by unfold justOf; simp_all), rfl⟩
theorem l16Justify_any (n : Int) (w : World) : Calls Try.prog 106 #[.int .i64 n] w fun e w' => e = .returned (.int .i64 (justOf n)) ∧ w = w' := by
  go_enter Try.func106, Try.ntmps106
  go_wp2
  all_goals
    go_ret
    exact ⟨ret_int (by unfold justOf; simp_all), rfl⟩

/-- Element i; 0 where there is none. -/
def elemAt (l : List Int) (i : Int) : Int := if i < 0 ∨ (l.length : Int) ≤ i then 0 else l.getD i.toNat 0
theorem elemAt_some {l : List Int} {k : Nat} {x : Int} (h : Hid (l[k]? = some x)) : elemAt l k = x := by
  have hk := (List.getElem?_eq_some_iff.1 h.out).1
  unfold elemAt
  rw [if_neg (by omega), Int.toNat_natCast]
  simp [List.getD, h.out]
theorem elementAt_any (l : List Int) (i : Int) (a : Option Addr) (c : Nat) (R : Nat → Prop) (w : World) (hl : l.length ≤ 1048576) (h : IntSlice R w a l) :
    Calls Try.prog 125 #[.slice a l.length c, .int .i64 i] w fun e w' => e = .returned (.int .i64 (elemAt l i)) ∧ w = w' := by
  by_cases h0 : i < 0
  · have e : elemAt l i = 0 := by unfold elemAt; rw [if_pos (.inl h0)]
    rw [e]
    go_enter Try.func125, Try.ntmps125
    go_wp2
    go_ret
    exact ⟨rfl, rfl⟩
  · by_cases h1 : (l.length : Int) ≤ i
    · have e : elemAt l i = 0 := by unfold elemAt; rw [if_pos (.inr h1)]
      rw [e]
      go_enter Try.func125, Try.ntmps125
      go_wp2
      go_ret
      exact ⟨rfl, rfl⟩
    · obtain ⟨k, rfl⟩ : ∃ k : Nat, i = k := ⟨i.toNat, by omega⟩
      have hk : k < l.length := by omega
      obtain ⟨b, o, x, rfl, _, _, hx, hc⟩ := IntSlice.get h hk
      rw [elemAt_some hx]
      clear h h0 h1
      go_enter Try.func125, Try.ntmps125
      go_wp2
      go_ret
      exact ⟨rfl, rfl⟩
theorem l15First_any (l : List Int) (a : Option Addr) (c : Nat) (R : Nat → Prop) (w : World) (hl : l.length ≤ 1048576) (h : IntSlice R w a l) :
    Calls Try.prog 126 #[.slice a l.length c] w fun e w' => e = .returned (.int .i64 (elemAt l 0)) ∧ w = w' := by
  by_cases h0 : l.length = 0
  · have e : elemAt l 0 = 0 := by unfold elemAt; rw [if_pos (.inr (by omega))]
    have h0' : ((l.length : Int) == 0) = true := by simp [h0]
    rw [e]
    go_enter Try.func126, Try.ntmps126
    go_wp2
    go_ret
    exact ⟨rfl, rfl⟩
  · obtain ⟨b, o, x, rfl, _, _, hx, hc⟩ := IntSlice.get h (show 0 < l.length by omega)
    have e := elemAt_some hx
    have h0' : ((l.length : Int) == 0) = false := beq_eq_false_iff_ne.2 (by omega)
    have hl1 : 0 < l.length := by omega
    simp only [Nat.add_zero, Int.natCast_zero] at hc e
    rw [show elemAt l 0 = x from e]
    clear h h0 e
    go_enter Try.func126, Try.ntmps126
    go_wp2
    go_ret
    exact ⟨rfl, rfl⟩

end Go.Proofs.Ytefgjjmnjanleaa
