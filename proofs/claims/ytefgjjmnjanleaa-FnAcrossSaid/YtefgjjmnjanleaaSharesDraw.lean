/-
  PROVED: the reference's draws of weights: some numbers, in a new slice. No condition.
-/
import Derived.Test.YtefgjjmnjanleaaShares
import Derived.Test.YtefgjjmnjanleaaDraw
namespace Go.Proofs.Ytefgjjmnjanleaa
open Go.RowKit

def lenV : Value → Nat
  | .slice _ n _ => n
  | _ => 0

set_option maxRecDepth 100000 in
theorem l02Int_any (B g : Nat) (w : World) (hc : Cur B 123 w g) :
    Calls Try.prog 81 #[.pointer (some ⟨g, 0, none⟩)] w (Drew B 123 g w fun _ => True) := by
  go_enter Try.func81, Try.ntmps81
  go_wp2_with fail
  refine (l01Below_any B g w hc 6 (by omega)).mono ?_
  rintro e w1 ⟨x, hx, rfl, hc1, hm1⟩
  by_cases h0 : (x == 0) = true
  · go_wp2_with fail
    refine (l01PickLit_any B g w1 hc1 [0, 1, -1, 64, 1048576, 1048577, -1048576, -1048577, 9223372036854775807, -9223372036854775808] _ rfl _ _ rfl (by simp) (by simp)).mono ?_
    rintro e w2 ⟨y, _, rfl, hc2, hm2⟩
    go_wp2
    go_ret
    exact ⟨y, trivial, rfl, hc2, hm1.trans hm2⟩
  · replace h0 : (x == 0) = false := by simpa using h0
    by_cases h1 : (x == 1) = true
    · go_wp2_with fail
      refine (l01Below_any B g w1 hc1 5000 (by omega)).mono ?_
      rintro e w2 ⟨y, hy, rfl, hc2, hm2⟩
      have y0 : 0 ≤ y ∧ y < 5000 := by omega
      obtain ⟨y0, y1⟩ := y0
      clear hy
      go_wp2
      go_ret
      exact ⟨_, trivial, rfl, hc2, hm1.trans hm2⟩
    · replace h1 : (x == 1) = false := by simpa using h1
      go_wp2_with fail
      refine (l01Below_any B g w1 hc1 8000 (by omega)).mono ?_
      rintro e w2 ⟨y, _, rfl, hc2, hm2⟩
      go_wp2
      go_ret
      exact ⟨y, trivial, rfl, hc2, hm1.trans hm2⟩

/-- A new slice of some numbers. -/
def DrewInts (B T g : Nat) (w : World) (most : Nat) (e : Ending) (w' : World) : Prop :=
  ∃ (a : Option Addr) (c : Nat) (l : List Int), e = .returned (.slice a l.length c) ∧ l.length ≤ most ∧ w'.ownsRow w.heap.size 3 1 (.slice a l.length c) l.length (l.map icell).flatten ∧ Cur B T w' g ∧ Mod (fun k => k = g) w w'

theorem Cur.appended {B T : Nat} {w w' : World} {g base e sz n : Nat} {v : Value} {xs : List Value} {o : Obj} (hc : Cur B T w g) (ho : w.ownsRow base e sz v n xs) (hb : g < base) (hg : (w.alloc o).grownBy w' v.ownBlock) : Cur B T w' g := by
  have h1 := hc.size
  have h2 := hc.base
  have hne : ∀ k, k ≤ g → some k ≠ v.ownBlock := fun k hk e => by have := ho.lt k e.symm; omega
  exact (hc.alloc o).same (hg.block g (by simp; omega) (hne g (Nat.le_refl _))) fun k hk => hg.block k (by simp; omega) (hne k (by omega))

set_option maxRecDepth 100000 in
set_option maxHeartbeats 4000000 in
theorem l03Weights_any (B g : Nat) (w : World) (hc : Cur B 123 w g) :
    Calls Try.prog 86 #[.pointer (some ⟨g, 0, none⟩)] w (DrewInts B 123 g w 100) := by
  have hgs := hc.size
  have hbg := hc.base
  have Hc := hid hc
  obtain ⟨i0, hi, hz0, hz1, hz2⟩ := info_parts info_int
  have Hi := hid hi
  have Hz0 := hid hz0
  have Hz1 := hid hz1
  have Hz2 := hid hz2
  clear hi hz0 hz1 hz2 hc
  go_enter Try.func86, Try.ntmps86
  go_wp2
  go_loopw [3, 4] (fun v i wr => ∃ (k : Nat) (a' : Option Addr) (c' : Nat) (l : List Int), k ≤ 6 ∧ i = .int .i64 k ∧ l.length = k ∧ v = .slice a' k c' ∧ wr.ownsRow w.heap.size 3 1 (.slice a' k c') k (l.map icell).flatten ∧ Cur B 123 wr g ∧ Mod (fun k => k = g) w wr) (fun _ i _ => 6 - (intOf i).toNat)
  case atStart => exact ⟨0, _, _, [], by omega, rfl, rfl, rfl, World.ownsRow_made w #[] 0 (Nat.le_refl _) (by unfold maxLen; omega) rfl, Hc.out.alloc _, (Mod.refl _ w).alloc _⟩
  case round =>
    obtain ⟨k, a', c', l, hk, rfl, hlk, rfl, hO, hC, hM⟩ := hrel
    have Hlk := hid hlk
    clear hlk
    go_wp2_with fail
    refine (l01Below_any B g wr hC 6 (by omega)).mono ?_
    rintro e w1 ⟨x, hx, rfl, hc1, hm1⟩
    have hO1 := own_mod hO hm1 (fun j hj (e : j = g) => by omega)
    have hM1 := hM.trans hm1
    by_cases hlt : (k : Int) < x
    · go_wp2_with fail
      refine (l01Below_any B g w1 hc1 500 (by omega)).mono ?_
      rintro e w2 ⟨z, hz, rfl, hc2, hm2⟩
      go_wp2_with fail
      refine (l01PickLit_any B g w2 hc2 [0, 1, 1, 2, 3, 1000, 1073741824, z] _ rfl _ _ rfl (by simp) (by simp)).mono ?_
      rintro e w3 ⟨y, hy, rfl, hc3, hm3⟩
      have hO3 := own_mod (own_mod hO1 hm2 (fun j hj (e : j = g) => by omega)) hm3 (fun j hj (e : j = g) => by omega)
      have hM3 := (hM1.trans hm2).trans hm3
      have h3 : k + 1 ≤ maxLen := by unfold maxLen; omega
      have h4 : (k + 1) * 8 ≤ 140737488355328 := by omega
      go_wp2_with (first | (at_builtin; refine wpList_append_own _ rfl _ _ 37 rfl w.heap.size 3 i0 _ 1 8 Try.underlying37 Hi.out Hz0.out Hz1.out Hz2.out rfl (by decide) _ _ _ rfl (hO3.alloc _) ⟨w3.heap.size, 0, none⟩ 1 1 [.int .i64 y] rfl rfl (cells_new _ _ _) (ones_of rfl) h3 h4 (own_room hM3 _) ?_))
      intro v' w4 hown hgrow _
      obtain ⟨a1, c1', hv⟩ := own_form hown
      rw [hv] at hown ⊢
      have hM4 := hM3.appended hO3 (Nat.le_refl _) hgrow
      have hc4 := hc3.appended hO3 hgs hgrow
      clear hv hgrow h3 h4
      go_wp2
      go_roundw
      case rel => exact ⟨k + 1, a1, c1', l ++ [y], by omega, by go_num, by rw [List.length_append, Hlk.out]; rfl, rfl, by rw [icells_append]; simpa [icell] using hown, hc4, hM4⟩
      case measure => simp [intOf]; omega
    · have hx5 : (k : Int) ≤ 6 := by omega
      go_wp2_with fail
      refine (l01Once_any B g w1 hc1 12 (by omega)).mono ?_
      rintro e w2 ⟨b2, rfl, hc2, hm2⟩
      have hO2 := own_mod hO1 hm2 (fun j hj (e : j = g) => by omega)
      have hM2 := hM1.trans hm2
      cases b2
      · go_wp2_with fail
        refine (l01Once_any B g w2 hc2 30 (by omega)).mono ?_
        rintro e w3 ⟨b3, rfl, hc3, hm3⟩
        have hO3 := own_mod hO2 hm3 (fun j hj (e : j = g) => by omega)
        have hM3 := hM2.trans hm3
        cases b3
        · go_wp2
          go_ret
          obtain rfl := Hlk.out
          exact ⟨a', c', l, rfl, by omega, hO3, hc3, hM3⟩
        · go_wp2
          go_loopw [3] (fun v wr => ∃ (k : Nat) (a' : Option Addr) (c' : Nat) (l : List Int), k ≤ 66 ∧ l.length = k ∧ v = .slice a' k c' ∧ wr.ownsRow w.heap.size 3 1 (.slice a' k c') k (l.map icell).flatten ∧ Cur B 123 wr g ∧ Mod (fun k => k = g) w wr) (fun v _ => 66 - lenV v)
          case atStart => exact ⟨_, _, _, l, by omega, Hlk.out, rfl, hO3, hc3, hM3⟩
          case round =>
            obtain ⟨n, a3, c3, l3, hn, hl3, rfl, hO5, hC5, hM5⟩ := hrel
            have Hl3 := hid hl3
            clear hl3
            go_wp2_with fail
            refine (l01Below_any B g _ hC5 2 (by omega)).mono ?_
            rintro e w6 ⟨x6, hx6, rfl, hc6, hm6⟩
            have hO6 := own_mod hO5 hm6 (fun j hj (e : j = g) => by omega)
            have hM6 := hM5.trans hm6
            have hx6' : 0 ≤ x6 ∧ x6 < 2 := by omega
            obtain ⟨hx60, hx61⟩ := hx6'
            by_cases hlt : (n : Int) < 64 + x6
            · have h3 : n + 1 ≤ maxLen := by unfold maxLen; omega
              have h4 : (n + 1) * 8 ≤ 140737488355328 := by omega
              go_wp2_with (first | (at_builtin; refine wpList_append_own _ rfl _ _ 37 rfl w.heap.size 3 i0 _ 1 8 Try.underlying37 Hi.out Hz0.out Hz1.out Hz2.out rfl (by decide) _ _ _ rfl (hO6.alloc _) ⟨w6.heap.size, 0, none⟩ 1 1 [.int .i64 1] rfl rfl (cells_new _ _ _) (ones_of rfl) h3 h4 (own_room hM6 _) ?_))
              intro v' w7 hown hgrow _
              obtain ⟨a7, c7, hv⟩ := own_form hown
              rw [hv] at hown ⊢
              have hM7 := hM6.appended hO6 (Nat.le_refl _) hgrow
              have hc7 := hc6.appended hO6 hgs hgrow
              clear hv hgrow h3 h4
              go_wp2
              go_roundw
              case rel => exact ⟨n + 1, a7, c7, l3 ++ [1], by omega, by rw [List.length_append, Hl3.out]; rfl, rfl, by rw [icells_append]; simpa [icell] using hown, hc7, hM7⟩
              case measure => simp [lenV]; omega
            · go_wp2
              go_ret
              obtain rfl := Hl3.out
              exact ⟨a3, c3, l3, rfl, by omega, hO6, hc6, hM6⟩
      · go_wp2_with fail
        refine (l01PickLit_any B g w2 hc2 [-1, 1073741825, 9223372036854775807] _ rfl _ _ rfl (by simp) (by simp)).mono ?_
        rintro e w3 ⟨y, hy, rfl, hc3, hm3⟩
        have hO3 := own_mod hO2 hm3 (fun j hj (e : j = g) => by omega)
        have hM3 := hM2.trans hm3
        have h3 : k + 1 ≤ maxLen := by unfold maxLen; omega
        have h4 : (k + 1) * 8 ≤ 140737488355328 := by omega
        go_wp2_with (first | (at_builtin; refine wpList_append_own _ rfl _ _ 37 rfl w.heap.size 3 i0 _ 1 8 Try.underlying37 Hi.out Hz0.out Hz1.out Hz2.out rfl (by decide) _ _ _ rfl (hO3.alloc _) ⟨w3.heap.size, 0, none⟩ 1 1 [.int .i64 y] rfl rfl (cells_new _ _ _) (ones_of rfl) h3 h4 (own_room hM3 _) ?_))
        intro v' w4 hown hgrow _
        obtain ⟨a1, c1', hv⟩ := own_form hown
        rw [hv] at hown ⊢
        have hM4 := hM3.appended hO3 (Nat.le_refl _) hgrow
        have hc4 := hc3.appended hO3 hgs hgrow
        have hO4 : w4.ownsRow w.heap.size 3 1 (.slice a1 (k + 1) c1') (k + 1) ((l ++ [y]).map icell).flatten := by rw [icells_append]; simpa [icell] using hown
        have Hl4 : Hid ((l ++ [y]).length = k + 1) := by show _ = _; rw [List.length_append, Hlk.out]; rfl
        clear hv hgrow h3 h4 hown
        go_wp2_with fail
        refine (l01Once_any B g w4 hc4 30 (by omega)).mono ?_
        rintro e w5 ⟨b5, rfl, hc5, hm5⟩
        have hO5 := own_mod hO4 hm5 (fun j hj (e : j = g) => by omega)
        have hM5 := hM4.trans hm5
        cases b5
        · go_wp2
          go_ret
          refine ⟨a1, c1', l ++ [y], ?_, by rw [Hl4.out]; omega, ?_, hc5, hM5⟩
          · rw [Hl4.out]; rfl
          · rw [Hl4.out]; exact hO5
        · go_wp2
          go_loopw [3] (fun v wr => ∃ (k : Nat) (a' : Option Addr) (c' : Nat) (l : List Int), k ≤ 66 ∧ l.length = k ∧ v = .slice a' k c' ∧ wr.ownsRow w.heap.size 3 1 (.slice a' k c') k (l.map icell).flatten ∧ Cur B 123 wr g ∧ Mod (fun k => k = g) w wr) (fun v _ => 66 - lenV v)
          case atStart => exact ⟨_, _, _, l ++ [y], by omega, Hl4.out, rfl, hO5, hc5, hM5⟩
          case round =>
            obtain ⟨n, a3, c3, l3, hn, hl3, rfl, hO5, hC5, hM5⟩ := hrel
            have Hl3 := hid hl3
            clear hl3
            go_wp2_with fail
            refine (l01Below_any B g _ hC5 2 (by omega)).mono ?_
            rintro e w6 ⟨x6, hx6, rfl, hc6, hm6⟩
            have hO6 := own_mod hO5 hm6 (fun j hj (e : j = g) => by omega)
            have hM6 := hM5.trans hm6
            have hx6' : 0 ≤ x6 ∧ x6 < 2 := by omega
            obtain ⟨hx60, hx61⟩ := hx6'
            by_cases hlt : (n : Int) < 64 + x6
            · have h3 : n + 1 ≤ maxLen := by unfold maxLen; omega
              have h4 : (n + 1) * 8 ≤ 140737488355328 := by omega
              go_wp2_with (first | (at_builtin; refine wpList_append_own _ rfl _ _ 37 rfl w.heap.size 3 i0 _ 1 8 Try.underlying37 Hi.out Hz0.out Hz1.out Hz2.out rfl (by decide) _ _ _ rfl (hO6.alloc _) ⟨w6.heap.size, 0, none⟩ 1 1 [.int .i64 1] rfl rfl (cells_new _ _ _) (ones_of rfl) h3 h4 (own_room hM6 _) ?_))
              intro v' w7 hown hgrow _
              obtain ⟨a7, c7, hv⟩ := own_form hown
              rw [hv] at hown ⊢
              have hM7 := hM6.appended hO6 (Nat.le_refl _) hgrow
              have hc7 := hc6.appended hO6 hgs hgrow
              clear hv hgrow h3 h4
              go_wp2
              go_roundw
              case rel => exact ⟨n + 1, a7, c7, l3 ++ [1], by omega, by rw [List.length_append, Hl3.out]; rfl, rfl, by rw [icells_append]; simpa [icell] using hown, hc7, hM7⟩
              case measure => simp [lenV]; omega
            · go_wp2
              go_ret
              obtain rfl := Hl3.out
              exact ⟨a3, c3, l3, rfl, by omega, hO6, hc6, hM6⟩


end Go.Proofs.Ytefgjjmnjanleaa
