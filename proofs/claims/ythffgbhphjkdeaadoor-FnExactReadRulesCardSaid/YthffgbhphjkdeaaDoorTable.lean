/-
  PROVED: TableOk, RuleFor, WantedOf: the program's and the reference's give the plain function. No condition but a bound on the length.
-/
import Derived.Test.YthffgbhphjkdeaaDoorRuleInfo
import Derived.Test.YthffgbhphjkdeaaDoorNum
import Derived.Test.YthffgbhphjkdeaaDoorReg
namespace Go.Proofs.YthffgbhphjkdeaaDoor
open Go.RowKit

def ruleIn (r : Rule) : Bool := inB r.room (-1) 1048576 && inB r.wide 0 1048576 && inB r.high 0 1048576
def tableOk (l : List Rule) : Bool := inB l.length 1 6 && l.all ruleIn
def AllIn (p : Rule → Bool) (l : List Rule) (k : Nat) : Prop := (l.take k).all p = true
theorem AllIn.succ {p : Rule → Bool} {l : List Rule} {k : Nat} {x : Rule} (h : AllIn p l k) (hx : Hid (l[k]? = some x)) (hp : p x = true) : AllIn p l (k + 1) := by
  unfold AllIn at *
  rw [List.take_add_one, hx.out, List.all_append, h]
  simp [hp]
theorem AllIn.full {p : Rule → Bool} {l : List Rule} (h : AllIn p l l.length) : l.all p = true := by
  unfold AllIn at h
  rwa [List.take_length] at h
theorem allIn_false {p : Rule → Bool} {l : List Rule} {k : Nat} {x : Rule} (hx : Hid (l[k]? = some x)) (hp : p x = false) : l.all p = false := by
  rw [List.all_eq_false]
  exact ⟨x, List.mem_of_getElem? hx.out, by simp [hp]⟩

/-- The block that a table's parameter is laid in. -/
abbrev boxT (a : Option Addr) (n c : Nat) : Obj := .cells #[.slice a n c] 60

set_option maxRecDepth 100000 in
set_option maxHeartbeats 2000000 in
theorem tableOk_any (l : List Rule) (a : Option Addr) (c : Nat) (R : Nat → Prop) (w : World) (hl : l.length ≤ 1048576) (h : SliceAt (Flat Rule.cells) 3 R w a l) :
    Calls Tryd.prog 82 #[.agg #[.slice a l.length c]] w fun e w' => e = .returned (.bool (tableOk l)) ∧ Mod (fun _ => False) w w' := by
  have H := hid (h.flatKeep ((Mod.refl _ w).alloc (boxT a l.length c)))
  clear h
  cases hin : inB l.length 1 6
  · go_enter Tryd.func82, Tryd.ntmps82
    go_wp2_with (first | (go_at_call 62; refine (in_any _ _ _ _).mono ?_; rintro e w' ⟨rfl, rfl⟩))
    go_ret
    exact ⟨ret_bool (by unfold tableOk; rw [hin]; rfl), by (repeat (first | with_reducible exact Mod.refl _ _ | with_reducible refine Mod.drewN ?_ _ | with_reducible refine Mod.drew ?_ | with_reducible refine Mod.alloc ?_ _ | ((with_reducible refine Mod.setNew ?_ ?_ _ _ _); (rotate_left; omega)) | with_reducible refine Mod.setAt ?_ _ _ _ ))⟩
  · go_enter Tryd.func82, Tryd.ntmps82
    go_wp2_with (first | (go_at_call 62; refine (in_any _ _ _ _).mono ?_; rintro e w' ⟨rfl, rfl⟩))
    go_loopw [13] (fun i wr => ∃ k : Nat, k ≤ l.length ∧ i = .int .i64 k ∧ AllIn ruleIn l k ∧ Mod (fun _ => False) (w.alloc (boxT a l.length c)) wr) (fun i _ => l.length - (intOf i).toNat)
    case atStart => exact ⟨0, by omega, rfl, rfl, Mod.refl _ _⟩
    case round =>
      obtain ⟨k, hk, rfl, hall, hM⟩ := hrel
      have hb0 : wr.cell? ⟨w.heap.size, 0, none⟩ = some (.slice a l.length c) := hM.keep _ _ (by simp [go_sem])
      have hsz := hM.size
      simp only [World.size_alloc] at hsz
      by_cases hlt : k < l.length
      · obtain ⟨b, o, x, r, rfl, hb, hbw, hx, hr, hrl, hc⟩ := (H.out.flatKeep hM).get hlt
        obtain rfl : r = x.cells := hr
        have c0 := hc 0 _ rfl
        have c1 := hc 1 _ rfl
        have c2 := hc 2 _ rfl
        simp only [Nat.add_zero] at c0
        clear hc hrl
        cases h1 : inB x.room (-1) 1048576 <;> cases h2 : inB x.wide 0 1048576 <;> cases h3 : inB x.high 0 1048576
        case true.true.true =>
          go_wp2_with (first | (go_at_call 62; refine (in_any _ _ _ _).mono ?_; rintro e w' ⟨rfl, rfl⟩))
          go_roundw
          case rel => exact ⟨k + 1, by omega, by go_num, hall.succ hx (by unfold ruleIn; rw [h1, h2, h3]; rfl), by (repeat (first | with_reducible exact Mod.refl _ _ | with_reducible refine Mod.drewN ?_ _ | with_reducible refine Mod.drew ?_ | with_reducible refine Mod.alloc ?_ _ | ((with_reducible refine Mod.setNew ?_ ?_ _ _ _); (rotate_left; omega)) | with_reducible refine Mod.setAt ?_ _ _ _ | with_reducible exact hM | with_reducible refine Mod.thenNone ?_ hM ))⟩
          case measure => simp [intOf]; omega
        all_goals
          go_wp2_with (first | (go_at_call 62; refine (in_any _ _ _ _).mono ?_; rintro e w' ⟨rfl, rfl⟩))
          go_ret
          exact ⟨ret_bool (by unfold tableOk; rw [hin, allIn_false hx (by unfold ruleIn; rw [h1, h2, h3]; rfl)]; rfl), by
            have hM0 : Mod (fun _ => False) w wr := ((Mod.refl _ w).alloc _).trans hM
            (repeat (first | with_reducible exact Mod.refl _ _ | with_reducible refine Mod.drewN ?_ _ | with_reducible refine Mod.drew ?_ | with_reducible refine Mod.alloc ?_ _ | ((with_reducible refine Mod.setNew ?_ ?_ _ _ _); (rotate_left; omega)) | with_reducible refine Mod.setAt ?_ _ _ _ | with_reducible exact hM0 | with_reducible refine Mod.thenNone ?_ hM0 ))⟩
      · have hk' : k = l.length := by omega
        subst hk'
        go_wp2
        go_ret
        exact ⟨ret_bool (by unfold tableOk; rw [hin, hall.full]; rfl), ((Mod.refl _ w).alloc _).trans hM⟩

set_option maxRecDepth 100000 in
set_option maxHeartbeats 2000000 in
theorem stableOk_any (l : List Rule) (a : Option Addr) (c : Nat) (R : Nat → Prop) (w : World) (hl : l.length ≤ 1048576) (h : SliceAt (Flat Rule.cells) 3 R w a l) :
    Calls Tryd.prog 135 #[.agg #[.slice a l.length c]] w fun e w' => e = .returned (.bool (tableOk l)) ∧ Mod (fun _ => False) w w' := by
  have H := hid (h.flatKeep ((Mod.refl _ w).alloc (boxT a l.length c)))
  clear h
  go_enter Tryd.func135, Tryd.ntmps135
  go_wp2_with (first | (go_at_call 55; refine (l01In_any _ _ _ _).mono ?_; rintro e w' ⟨rfl, rfl⟩))
  go_loopw [3] (fun i wr => ∃ k : Nat, k ≤ l.length ∧ i = .int .i64 k ∧ AllIn ruleIn l k ∧ Mod (fun _ => False) (w.alloc (boxT a l.length c)) wr) (fun i _ => l.length - (intOf i).toNat)
  case atStart => exact ⟨0, by omega, rfl, rfl, Mod.refl _ _⟩
  case round =>
    obtain ⟨k, hk, rfl, hall, hM⟩ := hrel
    have hb0 : wr.cell? ⟨w.heap.size, 0, none⟩ = some (.slice a l.length c) := hM.keep _ _ (by simp [go_sem])
    have hsz := hM.size
    simp only [World.size_alloc] at hsz
    by_cases hlt : k < l.length
    · obtain ⟨b, o, x, r, rfl, hb, hbw, hx, hr, hrl, hc⟩ := (H.out.flatKeep hM).get hlt
      obtain rfl : r = x.cells := hr
      have c0 := hc 0 _ rfl
      have c1 := hc 1 _ rfl
      have c2 := hc 2 _ rfl
      simp only [Nat.add_zero] at c0
      clear hc hrl
      cases h1 : inB x.room (-1) 1048576 <;> cases h2 : inB x.wide 0 1048576 <;> cases h3 : inB x.high 0 1048576
      case true.true.true =>
        go_wp2_with (first | (go_at_call 55; refine (l01In_any _ _ _ _).mono ?_; rintro e w' ⟨rfl, rfl⟩))
        go_roundw
        case rel => exact ⟨k + 1, by omega, by go_num, hall.succ hx (by unfold ruleIn; rw [h1, h2, h3]; rfl), by (repeat (first | with_reducible exact Mod.refl _ _ | with_reducible refine Mod.drewN ?_ _ | with_reducible refine Mod.drew ?_ | with_reducible refine Mod.alloc ?_ _ | ((with_reducible refine Mod.setNew ?_ ?_ _ _ _); (rotate_left; omega)) | with_reducible refine Mod.setAt ?_ _ _ _ | with_reducible exact hM | with_reducible refine Mod.thenNone ?_ hM ))⟩
        case measure => simp [intOf]; omega
      all_goals
        go_wp2_with (first | (go_at_call 55; refine (l01In_any _ _ _ _).mono ?_; rintro e w' ⟨rfl, rfl⟩))
        go_ret
        exact ⟨ret_bool (by unfold tableOk; rw [allIn_false hx (by unfold ruleIn; rw [h1, h2, h3]; rfl), Bool.and_false]), by
          have hM0 : Mod (fun _ => False) w wr := ((Mod.refl _ w).alloc _).trans hM
          (repeat (first | with_reducible exact Mod.refl _ _ | with_reducible refine Mod.drewN ?_ _ | with_reducible refine Mod.drew ?_ | with_reducible refine Mod.alloc ?_ _ | ((with_reducible refine Mod.setNew ?_ ?_ _ _ _); (rotate_left; omega)) | with_reducible refine Mod.setAt ?_ _ _ _ | with_reducible exact hM0 | with_reducible refine Mod.thenNone ?_ hM0 ))⟩
    · have hk' : k = l.length := by omega
      subst hk'
      go_wp2_with (first | (go_at_call 55; refine (l01In_any _ _ _ _).mono ?_; rintro e w' ⟨rfl, rfl⟩))
      go_ret
      exact ⟨ret_bool (by unfold tableOk; rw [hall.full, Bool.and_true]), ((Mod.refl _ w).alloc _).trans hM⟩

end Go.Proofs.YthffgbhphjkdeaaDoor
