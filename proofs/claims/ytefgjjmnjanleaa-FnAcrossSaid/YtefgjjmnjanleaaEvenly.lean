/-
  PROVED: Evenly, Scaled: the program's and the reference's hand back the plain list in a new slice. No condition but a bound on the length.
-/
import Derived.Test.YtefgjjmnjanleaaTotal
import Derived.Test.YtefgjjmnjanleaaShares2
import Derived.Test.YtefgjjmnjanleaaSharesMath
namespace Go.Proofs.Ytefgjjmnjanleaa
open Go.RowKit

def ones (n : Nat) : List Int := List.replicate n 1
theorem ones_length (n : Nat) : (ones n).length = n := List.length_replicate
theorem ones_succ (n : Nat) : ones (n + 1) = ones n ++ [1] := List.replicate_succ'
theorem ones_ok {n : Nat} (h : n ≤ 64) : wOk (ones n) = true := by
  unfold wOk
  rw [ones_length, Bool.and_eq_true, List.all_eq_true]
  refine ⟨fun x hx => ?_, by simpa using h⟩
  rw [List.eq_of_mem_replicate hx]
  rfl
def evenly (n many : Int) : List Int := if 0 ≤ many ∧ many ≤ 64 then shares n (ones many.toNat) else []
theorem evenly_none {n many : Int} (h : ¬ (0 ≤ many ∧ many ≤ 64)) : evenly n many = [] := if_neg h
theorem evenly_some {n many : Int} (h0 : 0 ≤ many) (h1 : many ≤ 64) : evenly n many = shares n (ones many.toNat) := if_pos ⟨h0, h1⟩
def sevenly (n many : Int) : List Int := if many ≤ 64 then shares n (ones many.toNat) else shares n (ones 0)
theorem sevenly_eq (n many : Int) : sevenly n many = evenly n many := by
  unfold sevenly evenly
  have h0 : shares n (ones 0) = [] := by
    unfold shares
    rw [if_pos (ones_ok (by omega))]
    rfl
  by_cases h1 : many ≤ 64
  · rw [if_pos h1]
    by_cases h2 : 0 ≤ many
    · rw [if_pos ⟨h2, h1⟩]
    · rw [if_neg (by omega), show many.toNat = 0 by omega, h0]
  · rw [if_neg h1, if_neg (by omega), h0]
theorem evenly_length (n many : Int) : (evenly n many).length ≤ 64 := by
  unfold evenly
  split
  · unfold shares
    split
    · rw [sharesTo_length, ones_length]; omega
    · simp
  · simp
theorem ones_slice {w : World} {a : Option Addr} {n c : Nat} {B : Nat} (h : w.ownsRow B 3 1 (.slice a n c) n ((ones n).map icell).flatten) : IntSlice (fun k => B ≤ k) w a (ones n) :=
  own_slice (cells := icell) h (fun _ => rfl) (by decide)

set_option maxRecDepth 100000 in
set_option maxHeartbeats 400000 in
theorem evenly_any (n many : Int) (w : World) :
    Calls Try.prog 23 #[.int .i64 n, .int .i64 many] w (NewSlice 3 1 w (evenly n many).length ((evenly n many).map icell).flatten) := by
  by_cases h0 : 0 ≤ many
  · by_cases h1 : many ≤ 64
    · have hin : inB many 0 64 = true := inB_true h0 h1
      rw [evenly_some h0 h1]
      obtain ⟨m, rfl⟩ : ∃ m : Nat, many = m := ⟨many.toNat, by omega⟩
      simp only [Int.toNat_natCast]
      have hm : m ≤ 64 := by omega
      obtain ⟨i0, hi, hz0, hz1, hz2⟩ := info_parts info_int
      have Hi := hid hi
      have Hz0 := hid hz0
      have Hz1 := hid hz1
      have Hz2 := hid hz2
      clear hi hz0 hz1 hz2 h0 h1
      go_enter Try.func23, Try.ntmps23
      go_wp2_with (first | (go_at_call 75; refine (in_any _ _ _ _).mono ?_; rintro e w' ⟨rfl, rfl⟩))
      go_loopw [5, 10] (fun v i wr => ∃ (k : Nat) (a' : Option Addr) (c' : Nat), k ≤ m ∧ i = .int .i64 k ∧ v = .slice a' k c' ∧ wr.ownsRow w.heap.size 3 1 (.slice a' k c') k ((ones k).map icell).flatten ∧ Mod (fun _ => False) w wr) (fun _ i _ => m - (intOf i).toNat)
      case atStart => exact ⟨0, _, _, by omega, rfl, rfl, World.ownsRow_nil _ _ _ _, Mod.refl _ w⟩
      case round =>
        obtain ⟨k, a', c', hk, rfl, rfl, hO, hM⟩ := hrel
        by_cases hlt : k < m
        · have h3 : k + 1 ≤ maxLen := by unfold maxLen; omega
          have h4 : (k + 1) * 8 ≤ 140737488355328 := by omega
          go_wp2_with (first | (at_builtin; refine wpList_append_own _ rfl _ _ 37 rfl w.heap.size 3 i0 _ 1 8 Try.underlying37 Hi.out Hz0.out Hz1.out Hz2.out rfl (by decide) _ _ _ rfl (hO.alloc _) ⟨wr.heap.size, 0, none⟩ 1 1 [.int .i64 1] rfl rfl (cells_new _ _ _) (ones_of rfl) h3 h4 (own_room hM _) ?_))
          intro v' w1 hown1 hgrow _
          obtain ⟨a1, c1', hv⟩ := own_form hown1
          rw [hv] at hown1 ⊢
          have hM1 := hM.appended hO (Nat.le_refl _) hgrow
          clear hv hgrow h3 h4
          go_wp2
          go_roundw
          case rel => exact ⟨k + 1, a1, c1', by omega, by go_num, rfl, by rw [ones_succ, icells_append]; simpa [icell] using hown1, hM1⟩
          case measure => simp [intOf]; omega
        · obtain rfl : k = m := by omega
          go_wp2_with fail
          have hcall := shares_any n (ones k) a' c' _ wr (by rw [ones_length]; omega) (ones_slice hO)
          rw [ones_length] at hcall
          refine hcall.mono ?_
          clear hcall
          rintro e w1 ⟨a1, c1, rfl, hO1, hM1⟩
          go_wp2
          go_ret
          refine ⟨a1, c1, ?_, ?_, ?_⟩
          · rfl
          · exact own_base hO1 hM.size
          · exact hM.thenNone hM1
    · have hin : inB many 0 64 = false := inB_high (by omega)
      rw [evenly_none (by omega)]
      go_enter Try.func23, Try.ntmps23
      go_wp2_with (first | (go_at_call 75; refine (in_any _ _ _ _).mono ?_; rintro e w' ⟨rfl, rfl⟩))
      go_ret
      exact ⟨_, _, rfl, World.ownsRow_nil _ _ _ _, Mod.refl _ w⟩
  · have hin : inB many 0 64 = false := inB_low (by omega)
    rw [evenly_none (by omega)]
    go_enter Try.func23, Try.ntmps23
    go_wp2_with (first | (go_at_call 75; refine (in_any _ _ _ _).mono ?_; rintro e w' ⟨rfl, rfl⟩))
    go_ret
    exact ⟨_, _, rfl, World.ownsRow_nil _ _ _ _, Mod.refl _ w⟩

set_option maxRecDepth 100000 in
set_option maxHeartbeats 400000 in
theorem sevenly_any (n many : Int) (w : World) :
    Calls Try.prog 24 #[.int .i64 n, .int .i64 many] w (NewSlice 3 1 w (sevenly n many).length ((sevenly n many).map icell).flatten) := by
  obtain ⟨m, hm, hm2, hmm⟩ : ∃ m : Nat, sevenly n many = shares n (ones m) ∧ m ≤ 64 ∧ (many ≤ 64 ∧ many ≤ m ∧ (m : Int) ≤ max many 0 ∨ 64 < many ∧ m = 0) := by
    by_cases h1 : many ≤ 64
    · exact ⟨many.toNat, by unfold sevenly; rw [if_pos h1], by omega, .inl (by omega)⟩
    · exact ⟨0, by unfold sevenly; rw [if_neg h1], by omega, .inr (by omega)⟩
  rw [hm]
  obtain ⟨i0, hi, hz0, hz1, hz2⟩ := info_parts info_int
  have Hi := hid hi
  have Hz0 := hid hz0
  have Hz1 := hid hz1
  have Hz2 := hid hz2
  clear hi hz0 hz1 hz2 hm
  have hfin : ∀ k : Nat, k ≤ m → ¬ k < m → (many ≤ (k : Int) ∨ 64 < many) := by omega
  have hstep : ∀ k : Nat, k < m → (k : Int) < many ∧ many ≤ 64 := by omega
  clear hmm
  go_enter Try.func24, Try.ntmps24
  go_wp2
  go_loopw [5, 6] (fun v i wr => ∃ (k : Nat) (a' : Option Addr) (c' : Nat), k ≤ m ∧ i = .int .i64 k ∧ v = .slice a' k c' ∧ wr.ownsRow w.heap.size 3 1 (.slice a' k c') k ((ones k).map icell).flatten ∧ Mod (fun _ => False) w wr) (fun _ i _ => m - (intOf i).toNat)
  case atStart => exact ⟨0, _, _, by omega, rfl, rfl, World.ownsRow_made w #[] 0 (Nat.le_refl _) (by unfold maxLen; omega) rfl, (Mod.refl _ w).alloc _⟩
  case round =>
    obtain ⟨k, a', c', hk, rfl, rfl, hO, hM⟩ := hrel
    by_cases hlt : k < m
    · obtain ⟨g0, g1⟩ := hstep k hlt
      clear hstep hfin
      have h3 : k + 1 ≤ maxLen := by unfold maxLen; omega
      have h4 : (k + 1) * 8 ≤ 140737488355328 := by omega
      go_wp2_with (first | (at_builtin; refine wpList_append_own _ rfl _ _ 37 rfl w.heap.size 3 i0 _ 1 8 Try.underlying37 Hi.out Hz0.out Hz1.out Hz2.out rfl (by decide) _ _ _ rfl (hO.alloc _) ⟨wr.heap.size, 0, none⟩ 1 1 [.int .i64 1] rfl rfl (cells_new _ _ _) (ones_of rfl) h3 h4 (own_room hM _) ?_))
      intro v' w1 hown1 hgrow _
      obtain ⟨a1, c1', hv⟩ := own_form hown1
      rw [hv] at hown1 ⊢
      have hM1 := hM.appended hO (Nat.le_refl _) hgrow
      clear hv hgrow h3 h4
      go_wp2
      go_roundw
      case rel => exact ⟨k + 1, a1, c1', by omega, by go_num, rfl, by rw [ones_succ, icells_append]; simpa [icell] using hown1, hM1⟩
      case measure => simp [intOf]; omega
    · have g := hfin k hk hlt
      obtain rfl : k = m := by omega
      clear hstep hfin
      rcases g with g | g
      all_goals
        go_wp2_with fail
        have hcall := sshares_any n (ones k) a' c' _ wr (by rw [ones_length]; omega) (ones_slice hO)
        rw [ones_length] at hcall
        refine hcall.mono ?_
        clear hcall
        rintro e w1 ⟨a1, c1, rfl, hO1, hM1⟩
        go_wp2
        go_ret
        refine ⟨a1, c1, ?_, ?_, ?_⟩
        · rfl
        · exact own_base hO1 hM.size
        · exact hM.thenNone hM1

end Go.Proofs.Ytefgjjmnjanleaa
