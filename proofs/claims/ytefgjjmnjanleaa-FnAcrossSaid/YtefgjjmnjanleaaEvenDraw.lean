/-
  PROVED: the reference's draws of numbers and lists of numbers for even shares, scaled sizes, wants. No condition.
-/
import Derived.Test.YtefgjjmnjanleaaSharesDraw
import Derived.Test.YtefgjjmnjanleaaTotal
namespace Go.Proofs.Ytefgjjmnjanleaa
open Go.RowKit

set_option maxRecDepth 100000 in
set_option maxHeartbeats 4000000 in
theorem l02List_any (B g : Nat) (w : World) (hc : Cur B 123 w g) :
    Calls Try.prog 85 #[.pointer (some ⟨g, 0, none⟩)] w (DrewInts B 123 g w 6) := by
  have hgs := hc.size
  have hbg := hc.base
  have Hc := hid hc
  obtain ⟨i0, hi, hz0, hz1, hz2⟩ := info_parts info_int
  have Hi := hid hi
  have Hz0 := hid hz0
  have Hz1 := hid hz1
  have Hz2 := hid hz2
  clear hi hz0 hz1 hz2 hc
  go_enter Try.func85, Try.ntmps85
  go_wp2
  go_loopw [3, 4] (fun v i wr => ∃ (k : Nat) (a' : Option Addr) (c' : Nat) (l : List Int), k ≤ 6 ∧ i = .int .i64 k ∧ l.length = k ∧ v = .slice a' k c' ∧ wr.ownsRow w.heap.size 3 1 (.slice a' k c') k (l.map icell).flatten ∧ Cur B 123 wr g ∧ Mod (fun k => k = g) w wr) (fun _ i _ => 6 - (intOf i).toNat)
  case atStart => exact ⟨0, _, _, [], by omega, rfl, rfl, rfl, World.ownsRow_made w #[] 0 (Nat.le_refl _) (by unfold maxLen; omega) rfl, Hc.out.alloc _, (Mod.refl _ w).alloc _⟩
  case round =>
    obtain ⟨k, a', c', l, hk, rfl, hlk, rfl, hO, hC, hM⟩ := hrel
    have Hlk := hid hlk
    clear hlk
    go_wp2_with fail
    refine (l01Below_any B g wr hC 6 (by omega)).mono ?_
    rintro e w1 ⟨x, hx, rfl, hc1, hm1⟩
    have hO1 := own_mod hO hm1 (fun j hj (e : j = g) => by omega)
    have hM1 := hM.trans hm1
    by_cases hlt : (k : Int) < x
    · go_wp2_with fail
      refine (l02Int_any B g w1 hc1).mono ?_
      rintro e w3 ⟨y, hy, rfl, hc3, hm3⟩
      have hO3 := own_mod hO1 hm3 (fun j hj (e : j = g) => by omega)
      have hM3 := hM1.trans hm3
      have h3 : k + 1 ≤ maxLen := by unfold maxLen; omega
      have h4 : (k + 1) * 8 ≤ 140737488355328 := by omega
      go_wp2_with (first | (at_builtin; refine wpList_append_own _ rfl _ _ 37 rfl w.heap.size 3 i0 _ 1 8 Try.underlying37 Hi.out Hz0.out Hz1.out Hz2.out rfl (by decide) _ _ _ rfl (hO3.alloc _) ⟨w3.heap.size, 0, none⟩ 1 1 [.int .i64 y] rfl rfl (cells_new _ _ _) (ones_of rfl) h3 h4 (own_room hM3 _) ?_))
      intro v' w4 hown hgrow _
      obtain ⟨a1, c1', hv⟩ := own_form hown
      rw [hv] at hown ⊢
      have hM4 := hM3.appended hO3 (Nat.le_refl _) hgrow
      have hc4 := hc3.appended hO3 hgs hgrow
      clear hv hgrow h3 h4
      go_wp2
      go_roundw
      case rel => exact ⟨k + 1, a1, c1', l ++ [y], by omega, by go_num, by rw [List.length_append, Hlk.out]; rfl, rfl, by rw [icells_append]; simpa [icell] using hown, hc4, hM4⟩
      case measure => simp [intOf]; omega
    · go_wp2
      go_ret
      obtain rfl := Hlk.out
      exact ⟨a', c', l, rfl, by omega, hO1, hc1, hM1⟩

/-- Two numbers out of a draw. -/
theorem drawEvenly_any (B : Nat) (w : World) (a : Option Addr) (len cap : Nat) (hB : B ≤ w.heap.size) (hl : len ≤ 1048576) (hy : Bytes B w a len) :
    Calls Try.prog 22 #[.slice a len cap] w fun e w' => ∃ n m : Int, e = .returned (.tuple #[.int .i64 n, .int .i64 m]) ∧ Mod (fun _ => False) w w' := by
  go_enter Try.func22, Try.ntmps22
  go_wp2_with fail
  refine (l01New_any B w a len cap hB hl hy).mono ?_
  rintro e w1 ⟨g, hg, rfl, hc1, hm1⟩
  go_wp2_with fail
  refine (l02Int_any B g w1 hc1).mono ?_
  rintro e w2 ⟨n, _, rfl, hc2, hm2⟩
  go_wp2_with fail
  refine (l01PickLit_any B g w2 hc2 [0, 1, 3, 5, 64, 65, -1, 9223372036854775807] _ rfl _ _ rfl (by simp) (by simp)).mono ?_
  rintro e w3 ⟨m, _, rfl, hc3, hm3⟩
  go_wp2
  go_ret2
  exact ⟨n, m, rfl, hm1.thenNew (hm2.trans hm3) hg⟩

theorem owned_ints {B : Nat} {w w' : World} {b c : Nat} {a : Option Addr} {l : List Int} (h : w'.ownsRow b 3 1 (.slice a l.length c) l.length (l.map icell).flatten) (hb : w.heap.size ≤ b) : IntSlice (fun k => w.heap.size ≤ k) w' a l := by
  obtain ⟨rows, q1, q2, q3⟩ := own_slice (cells := icell) h (fun _ => rfl) (by decide)
  exact ⟨rows, q1.weaken fun k _ (hk : b ≤ k) => Nat.le_trans hb hk, q2, q3⟩

theorem drawScaled_any (B : Nat) (w : World) (a : Option Addr) (len cap : Nat) (hB : B ≤ w.heap.size) (hl : len ≤ 1048576) (hy : Bytes B w a len) :
    Calls Try.prog 25 #[.slice a len cap] w fun e w' => ∃ (a1 a2 : Option Addr) (c1 c2 : Nat) (l m : List Int), e = .returned (.tuple #[.slice a1 l.length c1, .slice a2 m.length c2]) ∧ l.length ≤ 6 ∧ m.length ≤ 100 ∧ IntSlice (fun k => w.heap.size ≤ k) w' a1 l ∧ IntSlice (fun k => w.heap.size ≤ k) w' a2 m ∧ Mod (fun _ => False) w w' := by
  go_enter Try.func25, Try.ntmps25
  go_wp2_with fail
  refine (l01New_any B w a len cap hB hl hy).mono ?_
  rintro e w1 ⟨g, hg, rfl, hc1, hm1⟩
  have hgs := hc1.size
  go_wp2_with fail
  refine (l02List_any B g w1 hc1).mono ?_
  rintro e w2 ⟨a2, c2, l, rfl, hl2, hO2, hc2, hm2⟩
  have hs1 := hm1.size
  have hs2 := hm2.size
  go_wp2_with fail
  refine (l03Weights_any B g w2 hc2).mono ?_
  rintro e w3 ⟨a3, c3, m, rfl, hl3, hO3, hc3, hm3⟩
  have hO4 := own_mod hO2 hm3 (fun j hj (e : j = g) => by omega)
  go_wp2
  go_ret2
  exact ⟨a2, a3, c2, c3, l, m, rfl, hl2, hl3, owned_ints (B := B) hO4 hs1, owned_ints (B := B) hO3 (by omega), hm1.thenNew (hm2.trans hm3) hg⟩

theorem drawWanting_any (B : Nat) (w : World) (a : Option Addr) (len cap : Nat) (hB : B ≤ w.heap.size) (hl : len ≤ 1048576) (hy : Bytes B w a len) :
    Calls Try.prog 26 #[.slice a len cap] w fun e w' => ∃ (n : Int) (a2 : Option Addr) (c2 : Nat) (l : List Int), e = .returned (.tuple #[.int .i64 n, .slice a2 l.length c2]) ∧ (0 ≤ n ∧ n < 100000) ∧ l.length ≤ 6 ∧ IntSlice (fun k => w.heap.size ≤ k) w' a2 l ∧ Mod (fun _ => False) w w' := by
  go_enter Try.func26, Try.ntmps26
  go_wp2_with fail
  refine (l01New_any B w a len cap hB hl hy).mono ?_
  rintro e w1 ⟨g, hg, rfl, hc1, hm1⟩
  have hs1 := hm1.size
  go_wp2_with fail
  refine (l01Below_any B g w1 hc1 100000 (by omega)).mono ?_
  rintro e w2 ⟨n, hn, rfl, hc2, hm2⟩
  have hs2 := hm2.size
  go_wp2_with fail
  refine (l02List_any B g w2 hc2).mono ?_
  rintro e w3 ⟨a3, c3, l, rfl, hl3, hO3, hc3, hm3⟩
  go_wp2
  go_ret2
  exact ⟨n, a3, c3, l, rfl, by omega, hl3, owned_ints (B := B) hO3 (by omega), hm1.thenNew (hm2.trans hm3) hg⟩

theorem wanting_any (n : Int) (l : List Int) (a : Option Addr) (c : Nat) (R : Nat → Prop) (w : World) (hn : -1000000 ≤ n ∧ n ≤ 1000000) (hl : l.length ≤ 1048576) (h : IntSlice R w a l) :
    Calls Try.prog 29 #[.int .i64 n, .slice a l.length c] w fun e w' => e = .returned (.int .i64 (n - total l)) ∧ w = w' := by
  obtain ⟨n0, n1⟩ := hn
  obtain ⟨t0, t1⟩ := totTo_bd l l.length
  have T : totTo l l.length = total l := rfl
  rw [T] at t0 t1
  have H := hid h
  clear h T
  go_enter Try.func29, Try.ntmps29
  go_wp2_with (first | (go_at_call 31; refine (total_any l _ _ R _ hl ?_).mono ?_; (exact H.out.flatKeep (by (repeat (first | with_reducible exact Mod.refl _ _ | with_reducible refine Mod.drewN ?_ _ | with_reducible refine Mod.drew ?_ | with_reducible refine Mod.alloc ?_ _ | ((with_reducible refine Mod.setNew ?_ ?_ _ _ _); (rotate_left; omega)) | with_reducible refine Mod.setAt ?_ _ _ _ )))); rintro e w' ⟨rfl, rfl⟩))
  go_ret
  exact ⟨rfl, rfl⟩

end Go.Proofs.Ytefgjjmnjanleaa
