/-
  PROVED: Shares: the program's and the reference's hand back the plain shares in a new slice. No condition but a bound on the length.
-/
import Derived.Test.YtefgjjmnjanleaaShares
namespace Go.Proofs.Ytefgjjmnjanleaa
open Go.RowKit

set_option maxRecDepth 100000 in
set_option maxHeartbeats 2000000 in
theorem shares_any (n : Int) (l : List Int) (a : Option Addr) (c : Nat) (R : Nat → Prop) (w : World) (hl : l.length ≤ 9223372036854775807) (h : IntSlice R w a l) :
    Calls Try.prog 83 #[.int .i64 n, .slice a l.length c] w (NewSlice 3 1 w (shares n l).length ((shares n l).map icell).flatten) := by
  have H := hid h
  clear h
  by_cases hw : wOk l = true
  · have hsh : shares n l = sharesTo (signedL n) l l.length := by unfold shares; rw [if_pos hw]
    rw [hsh, sharesTo_length]
    have hl64 := (wOk_bd hw).1
    obtain ⟨m0, m1⟩ := signedL_bd n
    have Hw := hid hw
    obtain ⟨s0, s1⟩ := sumTo_bd hw l.length
    obtain ⟨i0, hi, hz0, hz1, hz2⟩ := info_parts info_int
    have Hi := hid hi
    have Hz0 := hid hz0
    have Hz1 := hid hz1
    have Hz2 := hid hz2
    clear hi hz0 hz1 hz2 hsh
    go_enter Try.func83, Try.ntmps83
    go_wp2_with fail
    refine (wOk_any l _ _ R _ hl (H.out.flatKeep ?_)).mono ?_
    · (repeat (first | with_reducible exact Mod.refl _ _ | with_reducible refine Mod.drewN ?_ _ | with_reducible refine Mod.drew ?_ | with_reducible refine Mod.alloc ?_ _ | ((with_reducible refine Mod.setNew ?_ ?_ _ _ _); (rotate_left; omega)) | with_reducible refine Mod.setAt ?_ _ _ _ ))
    rintro e w' ⟨rfl, rfl⟩
    rw [hw]
    clear hw
    go_wp2_with (first | (go_at_call 91; refine (signed_any _ _).mono ?_; rintro e w' ⟨rfl, rfl⟩))
    go_loop [5, 19] (fun z i => ∃ k : Nat, k ≤ l.length ∧ i = .int .i64 k ∧ z = .int .i64 (sumTo l k)) (fun _ i => l.length - (intOf i).toNat)
    case atStart => exact ⟨0, by omega, rfl, rfl⟩
    case round =>
      obtain ⟨k, hk, rfl, rfl⟩ := hrel
      obtain ⟨t0, t1⟩ := sumTo_bd Hw.out k
      by_cases hlt : k < l.length
      · obtain ⟨b, o, x, rfl, _, _, hx, hc⟩ := H.out.get hlt
        have e := hid (sumTo_succ hx)
        have hxb := (wOk_bd Hw.out).2 x (List.mem_of_getElem? hx.out)
        obtain ⟨x0, x1⟩ := hxb
        go_wp2
        go_round
        case rel => exact ⟨k + 1, by omega, by go_num, by rw [e.out]⟩
        case measure => simp [intOf]; omega
      · have hk' : k = l.length := by omega
        subst hk'
        go_wp2_with (first | (go_at_call 91; refine (signed_any _ _).mono ?_; rintro e w' ⟨rfl, rfl⟩))
        go_loopw [8, 9, 29] (fun v z i wr => ∃ (k : Nat) (a' : Option Addr) (c' : Nat), k ≤ l.length ∧ i = .int .i64 k ∧ z = .int .i64 (sumTo l k) ∧ v = .slice a' k c' ∧ wr.ownsRow w.heap.size 3 1 (.slice a' k c') k ((sharesTo (signedL n) l k).map icell).flatten ∧ Mod (fun _ => False) w wr) (fun _ _ i _ => l.length - (intOf i).toNat)
        case atStart => exact ⟨0, _, _, by omega, rfl, rfl, rfl, World.ownsRow_nil _ _ _ _, Mod.refl _ w⟩
        case round =>
          obtain ⟨k, a', c', hk2, rfl, rfl, rfl, hO, hM⟩ := hrel
          obtain ⟨t2, t3⟩ := sumTo_bd Hw.out k
          by_cases hlt2 : k < l.length
          · obtain ⟨b, o, x, rfl, _, _, hx, hc⟩ := IntSlice.get (H.out.flatKeep hM) hlt2
            have e := sumTo_succ hx
            have hxb := (wOk_bd Hw.out).2 x (List.mem_of_getElem? hx.out)
            obtain ⟨x0, x1⟩ := hxb
            obtain ⟨t4, t5⟩ := sumTo_bd Hw.out (k + 1)
            rw [e] at t4 t5
            have p1 := mul_bd m0 m1 t4 t5
            have p2 := mul_bd m0 m1 t2 t3
            obtain ⟨p1, p1'⟩ := p1
            obtain ⟨p2, p2'⟩ := p2
            obtain ⟨f1, f1'⟩ := fdiv_bd0 (b := sumTo l l.length) (show (0 : Int) ≤ 72057594037927936 by omega) p1 p1'
            obtain ⟨f2, f2'⟩ := fdiv_bd0 (b := sumTo l l.length) (show (0 : Int) ≤ 72057594037927936 by omega) p2 p2'
            have E := hid e
            clear e
            have h3 : k + 1 ≤ maxLen := by unfold maxLen; omega
            have h4 : (k + 1) * 8 ≤ 140737488355328 := by omega
            go_wp2_with (first | (at_builtin; refine wpList_append_own _ rfl _ _ 37 rfl w.heap.size 3 i0 _ 1 8 Try.underlying37 Hi.out Hz0.out Hz1.out Hz2.out rfl (by decide) _ _ _ rfl (hO.alloc _) ⟨wr.heap.size, 0, none⟩ 1 1 [.int .i64 (fdiv (signedL n * (sumTo l k + x)) (sumTo l l.length) - fdiv (signedL n * sumTo l k) (sumTo l l.length))] rfl rfl (cells_new _ _ _) (ones_of rfl) h3 h4 (own_room hM _) ?_) | (go_at_call 118; refine (fdiv_any _ _ (by omega) (by omega) (by omega) _).mono ?_; rintro e w' ⟨rfl, rfl⟩))
            intro v' w1 hown1 hgrow _
            obtain ⟨a1, c1', hv⟩ := own_form hown1
            rw [hv] at hown1 ⊢
            have hM1 := hM.appended hO (Nat.le_refl _) hgrow
            clear hv hgrow h3 h4
            go_wp2
            go_roundw
            case rel =>
              refine ⟨k + 1, a1, c1', by omega, by go_num, by rw [E.out], rfl, ?_, hM1⟩
              rw [sharesTo_succ, icells_append]
              have es : shareOf (signedL n) l k = fdiv (signedL n * (sumTo l k + x)) (sumTo l l.length) - fdiv (signedL n * sumTo l k) (sumTo l l.length) := by unfold shareOf; rw [E.out]
              simpa [icell, es] using hown1
            case measure => simp [intOf]; omega
          · have hk3 : k = l.length := by omega
            subst hk3
            go_wp2
            go_ret
            exact ⟨a', c', rfl, hO, hM⟩
  · replace hw : wOk l = false := by simpa using hw
    have hsh : shares n l = [] := by unfold shares; rw [hw]; rfl
    rw [hsh]
    clear hsh
    go_enter Try.func83, Try.ntmps83
    go_wp2_with fail
    refine (wOk_any l _ _ R _ hl (H.out.flatKeep ?_)).mono ?_
    · (repeat (first | with_reducible exact Mod.refl _ _ | with_reducible refine Mod.drewN ?_ _ | with_reducible refine Mod.drew ?_ | with_reducible refine Mod.alloc ?_ _ | ((with_reducible refine Mod.setNew ?_ ?_ _ _ _); (rotate_left; omega)) | with_reducible refine Mod.setAt ?_ _ _ _ ))
    rintro e w' ⟨rfl, rfl⟩
    rw [hw]
    clear hw
    go_wp2
    go_ret
    exact ⟨_, _, rfl, World.ownsRow_nil _ _ _ _, Mod.refl _ w⟩

set_option maxRecDepth 100000 in
set_option maxHeartbeats 2000000 in
theorem sshares_any (n : Int) (l : List Int) (a : Option Addr) (c : Nat) (R : Nat → Prop) (w : World) (hl : l.length ≤ 9223372036854775807) (h : IntSlice R w a l) :
    Calls Try.prog 84 #[.int .i64 n, .slice a l.length c] w (NewSlice 3 1 w (shares n l).length ((shares n l).map icell).flatten) := by
  have H := hid h
  clear h
  by_cases hw : wOk l = true
  · have hsh : shares n l = sharesTo (signedL n) l l.length := by unfold shares; rw [if_pos hw]
    rw [hsh, sharesTo_length]
    have hl64 := (wOk_bd hw).1
    obtain ⟨m0, m1⟩ := signedL_bd n
    have Hw := hid hw
    obtain ⟨s0, s1⟩ := sumTo_bd hw l.length
    obtain ⟨i0, hi, hz0, hz1, hz2⟩ := info_parts info_int
    have Hi := hid hi
    have Hz0 := hid hz0
    have Hz1 := hid hz1
    have Hz2 := hid hz2
    clear hi hz0 hz1 hz2 hsh
    go_enter Try.func84, Try.ntmps84
    go_wp2_with fail
    refine (swOk_any l _ _ R _ hl (H.out.flatKeep ?_)).mono ?_
    · (repeat (first | with_reducible exact Mod.refl _ _ | with_reducible refine Mod.drewN ?_ _ | with_reducible refine Mod.drew ?_ | with_reducible refine Mod.alloc ?_ _ | ((with_reducible refine Mod.setNew ?_ ?_ _ _ _); (rotate_left; omega)) | with_reducible refine Mod.setAt ?_ _ _ _ ))
    rintro e w' ⟨rfl, rfl⟩
    rw [hw]
    clear hw
    go_wp2_with (first | (go_at_call 90; refine (l02Len_any _ _).mono ?_; rintro e w' ⟨rfl, rfl⟩))
    go_loop [6, 7] (fun z i => ∃ k : Nat, k ≤ l.length ∧ i = .int .i64 k ∧ z = .int .i64 (sumTo l k)) (fun _ i => l.length - (intOf i).toNat)
    case atStart => exact ⟨0, by omega, rfl, rfl⟩
    case round =>
      obtain ⟨k, hk, rfl, rfl⟩ := hrel
      obtain ⟨t0, t1⟩ := sumTo_bd Hw.out k
      by_cases hlt : k < l.length
      · obtain ⟨b, o, x, rfl, _, _, hx, hc⟩ := H.out.get hlt
        have e := hid (sumTo_succ hx)
        have hxb := (wOk_bd Hw.out).2 x (List.mem_of_getElem? hx.out)
        obtain ⟨x0, x1⟩ := hxb
        go_wp2
        go_round
        case rel => exact ⟨k + 1, by omega, by go_num, by rw [e.out]⟩
        case measure => simp [intOf]; omega
      · have hk' : k = l.length := by omega
        subst hk'
        go_wp2_with (first | (go_at_call 90; refine (l02Len_any _ _).mono ?_; rintro e w' ⟨rfl, rfl⟩))
        go_loopw [5, 8, 9] (fun v z i wr => ∃ (k : Nat) (a' : Option Addr) (c' : Nat), k ≤ l.length ∧ i = .int .i64 k ∧ z = .int .i64 (sumTo l k) ∧ v = .slice a' k c' ∧ wr.ownsRow w.heap.size 3 1 (.slice a' k c') k ((sharesTo (signedL n) l k).map icell).flatten ∧ Mod (fun _ => False) w wr) (fun _ _ i _ => l.length - (intOf i).toNat)
        case atStart => exact ⟨0, _, _, by omega, rfl, rfl, rfl, World.ownsRow_made w #[] 0 (Nat.le_refl _) (by unfold maxLen; omega) rfl, (Mod.refl _ w).alloc _⟩
        case round =>
          obtain ⟨k, a', c', hk2, rfl, rfl, rfl, hO, hM⟩ := hrel
          obtain ⟨t2, t3⟩ := sumTo_bd Hw.out k
          by_cases hlt2 : k < l.length
          · obtain ⟨b, o, x, rfl, _, _, hx, hc⟩ := IntSlice.get (H.out.flatKeep hM) hlt2
            have e := sumTo_succ hx
            have hxb := (wOk_bd Hw.out).2 x (List.mem_of_getElem? hx.out)
            obtain ⟨x0, x1⟩ := hxb
            obtain ⟨t4, t5⟩ := sumTo_bd Hw.out (k + 1)
            rw [e] at t4 t5
            have p1 := mul_bd m0 m1 t4 t5
            have p2 := mul_bd m0 m1 t2 t3
            obtain ⟨p1, p1'⟩ := p1
            obtain ⟨p2, p2'⟩ := p2
            obtain ⟨f1, f1'⟩ := fdiv_bd0 (b := sumTo l l.length) (show (0 : Int) ≤ 72057594037927936 by omega) p1 p1'
            obtain ⟨f2, f2'⟩ := fdiv_bd0 (b := sumTo l l.length) (show (0 : Int) ≤ 72057594037927936 by omega) p2 p2'
            have E := hid e
            clear e
            have h3 : k + 1 ≤ maxLen := by unfold maxLen; omega
            have h4 : (k + 1) * 8 ≤ 140737488355328 := by omega
            go_wp2_with (first | (at_builtin; refine wpList_append_own _ rfl _ _ 37 rfl w.heap.size 3 i0 _ 1 8 Try.underlying37 Hi.out Hz0.out Hz1.out Hz2.out rfl (by decide) _ _ _ rfl (hO.alloc _) ⟨wr.heap.size, 0, none⟩ 1 1 [.int .i64 (fdiv (signedL n * (sumTo l k + x)) (sumTo l l.length) - fdiv (signedL n * sumTo l k) (sumTo l l.length))] rfl rfl (cells_new _ _ _) (ones_of rfl) h3 h4 (own_room hM _) ?_) | (go_at_call 120; refine (sfdiv_any _ _ (by omega) (by omega) (by omega) _).mono ?_; rintro e w' ⟨rfl, rfl⟩))
            intro v' w1 hown1 hgrow _
            obtain ⟨a1, c1', hv⟩ := own_form hown1
            rw [hv] at hown1 ⊢
            have hM1 := hM.appended hO (Nat.le_refl _) hgrow
            clear hv hgrow h3 h4
            go_wp2
            go_roundw
            case rel =>
              refine ⟨k + 1, a1, c1', by omega, by go_num, by rw [E.out], rfl, ?_, hM1⟩
              rw [sharesTo_succ, icells_append]
              have es : shareOf (signedL n) l k = fdiv (signedL n * (sumTo l k + x)) (sumTo l l.length) - fdiv (signedL n * sumTo l k) (sumTo l l.length) := by unfold shareOf; rw [E.out]
              simpa [icell, es] using hown1
            case measure => simp [intOf]; omega
          · have hk3 : k = l.length := by omega
            subst hk3
            go_wp2
            go_ret
            exact ⟨a', c', rfl, hO, hM⟩
  · replace hw : wOk l = false := by simpa using hw
    have hsh : shares n l = [] := by unfold shares; rw [hw]; rfl
    rw [hsh]
    clear hsh
    go_enter Try.func84, Try.ntmps84
    go_wp2_with fail
    refine (swOk_any l _ _ R _ hl (H.out.flatKeep ?_)).mono ?_
    · (repeat (first | with_reducible exact Mod.refl _ _ | with_reducible refine Mod.drewN ?_ _ | with_reducible refine Mod.drew ?_ | with_reducible refine Mod.alloc ?_ _ | ((with_reducible refine Mod.setNew ?_ ?_ _ _ _); (rotate_left; omega)) | with_reducible refine Mod.setAt ?_ _ _ _ ))
    rintro e w' ⟨rfl, rfl⟩
    rw [hw]
    clear hw
    go_wp2
    go_ret
    exact ⟨_, _, rfl, World.ownsRow_made w #[] 0 (Nat.le_refl _) (by unfold maxLen; omega) rfl, (Mod.refl _ w).alloc _⟩

end Go.Proofs.Ytefgjjmnjanleaa
