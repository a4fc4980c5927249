/-
  PROVED: contracts of the exact laws' functions at slices of ints: comparison, count, marks; of hasInt. No condition but a bound on the length.
-/
import Derived.Test.YtcolkidnjojlmaaInts
import Derived.Test.YtcolkidnjojlmaaReg
import Derived.Test.YtcolkidnjojlmaaChecked
import Derived.Outline
import Derived.WalkLawsBesides
import Derived.Deep.RegionHeld3
import Derived.Deep.QuietTactic
import Derived.BigQuiet
namespace Go.Proofs.Ytcolkidnjojlmaa
open Go.RowKit

theorem info_ints : (Try.prog.info? 3).map (fun i => (i.zero, i.size, i.bytes)) = some (some (.int .i64 0), 1, 8) := by kernel_rfl
theorem szIntS_any (n c : Nat) (a : Option Addr) (left : Int) (h0 : 0 ≤ left) (h1 : left ≤ 1048576) (hn : n ≤ 9223372036854775807) (w : World) : Calls Try.prog 158 #[.slice a n c, .int .i64 left] w fun e w' => e = .returned (.int .i64 (if left < n then -1 else left - n)) ∧ w = w' := by
  by_cases h : left < n
  · rw [if_pos h]
    have h2 : left - n < 0 := by omega
    have h3 : -9223372036854775807 ≤ left - n := by omega
    go_enter Try.func158, Try.ntmps158
    go_wp2
    go_ret
    exact ⟨rfl, rfl⟩
  · rw [if_neg h]
    have h2 : 0 ≤ left - n := by omega
    go_enter Try.func158, Try.ntmps158
    go_wp2
    go_ret
    exact ⟨rfl, rfl⟩

set_option maxRecDepth 100000 in
set_option maxHeartbeats 1000000 in
theorem eqIntS_any (l m : List Int) (a a' : Option Addr) (c c' : Nat) (R S : Nat → Prop) (w : World) (hl : l.length ≤ 9223372036854775807) (_hm : m.length ≤ 9223372036854775807) (h : IntSlice R w a l) (h' : IntSlice S w a' m) :
    Calls Try.prog 41 #[.slice a l.length c, .slice a' m.length c'] w fun e w' => e = .returned (.bool (decide (l = m))) ∧ Mod (fun _ => False) w w' := by
  have H := hid h
  have H' := hid h'
  clear h h'
  by_cases hlen : l.length = m.length
  · have hn0 : ((l.length : Int) != (m.length : Int)) = false := by simp [hlen]
    have hn1 : l.length ≤ m.length := by omega
    have hn2 : m.length ≤ l.length := by omega
    clear hlen
    go_enter Try.func41, Try.ntmps41
    go_wp2
    go_loopw [5] (fun i wr => ∃ k : Nat, k ≤ l.length ∧ i = .int .i64 k ∧ SameTo l m k ∧ Mod (fun _ => False) w wr) (fun i _ => l.length - (intOf i).toNat)
    case atStart => exact ⟨0, by omega, rfl, rfl, Mod.refl _ _⟩
    case round =>
      obtain ⟨k, hk, rfl, hsame, hmod⟩ := hrel
      by_cases hlt : k < l.length
      · obtain ⟨b, o, x, rfl, _, hbw, hx, c0⟩ := IntSlice.get (H.out.flatKeep hmod) hlt
        obtain ⟨b', o', y, rfl, _, hbw', hy, d0⟩ := IntSlice.get (H'.out.flatKeep hmod) (show k < m.length by omega)
        have hlt2 : k < m.length := by omega
        by_cases hxy : x = y
        · subst hxy
          go_wp2
          go_quiet (fail)
          go_wp2
          go_roundw
          case rel => exact ⟨k + 1, by omega, by go_num, hsame.succ hx hy, hmod.drewN _⟩
          case measure => simp [intOf]; omega
        · have hd : (x != y) = true := by simpa using hxy
          have Hxy := hid hxy
          clear hxy
          go_wp2
          go_quiet (fail)
          go_wp2
          go_ret
          exact ⟨ret_bool (decide_eq_false (ne_at hx hy Hxy.out)).symm, hmod.drewN _⟩
      · go_wp2
        go_ret
        exact ⟨ret_bool (decide_eq_true (hsame.all (by omega) (by omega))).symm, hmod⟩
  · have hn0 : ((l.length : Int) != (m.length : Int)) = true := by simp; omega
    have hne : l ≠ m := fun h => hlen (by rw [h])
    clear hlen
    go_enter Try.func41, Try.ntmps41
    go_wp2
    go_ret
    exact ⟨ret_bool (decide_eq_false hne).symm, Mod.refl _ _⟩

/-- The cells of marks from q on. -/
def IntM.marks (q : Int) : Nat → List Value
  | 0 => []
  | k + 1 => IntM.marks q k ++ icell (q + k)
theorem IntM.marks_length (q : Int) (k : Nat) : (IntM.marks q k).length = k := by
  induction k with
  | zero => simp [IntM.marks]
  | succ k ih => simp [IntM.marks, icell, ih]

set_option maxRecDepth 100000 in
set_option maxHeartbeats 1000000 in
theorem markIntS_any (n c : Nat) (a : Option Addr) (g N : Nat) (w : World) (q0 : Int) (hq0 : 1 ≤ q0) (hq1 : q0 ≤ 1000000000000000) (hn : n ≤ 1048577) (h : n = 0 ∨ a = some ⟨g, 0, none⟩ ∧ n * 1 ≤ N ∧ Filled g 3 N w []) :
    Calls Try.prog 43 #[.slice a n c, .int .i64 q0] w fun e w' => e = .returned (.int .i64 (q0 + n)) ∧ Mod (fun k => k = g) w w' ∧ (n = 0 ∨ Filled g 3 N w' (IntM.marks q0 n)) := by
  have H := hid h
  clear h
  have hgs : n = 0 ∨ g < w.heap.size := by
    rcases H.out with h | ⟨_, _, h⟩
    · exact .inl h
    · exact .inr h.size
  go_enter Try.func43, Try.ntmps43
  go_wp2
  go_loopw [1, 5] (fun z i wr => ∃ (k : Nat) (q : Int), k ≤ n ∧ z = .int .i64 q ∧ Hid (q = q0 + k) ∧ 1 ≤ q ∧ q ≤ 10000000000000000 ∧ i = .int .i64 k ∧ Mod (fun k => k = g) w wr ∧ (n = 0 ∨ Filled g 3 N wr (IntM.marks q0 k))) (fun _ i _ => n - (intOf i).toNat)
  case atStart =>
    refine ⟨0, q0, by omega, rfl, by show q0 = q0 + _; omega, by omega, by omega, rfl, Mod.refl _ _, ?_⟩
    rcases H.out with h | ⟨_, _, h⟩
    · exact .inl h
    · exact .inr h
  case round =>
    obtain ⟨k, q, hk, rfl, hq, q1, q2, rfl, hM, hF0⟩ := hrel
    by_cases hlt : k < n
    · rcases H.out with h | ⟨rfl, hN, _⟩
      · omega
      have hF := hF0.resolve_left (by omega)
      clear hF0
      have hF1 := hF
      have hM1 := hM
      have hl0 := IntM.marks_length q0 k
      obtain ⟨v0, d0⟩ := hF1.cell (off := k) (by omega)
      have z0 := hF1.free k
      have HF := hid hF1
      have Hl0 := hid hl0
      clear hF hF1 hl0 hM
      go_wp2
      go_roundw
      case rel =>
        have hq' := hq.out
        refine ⟨k + 1, q + 1, by omega, rfl, by show q + 1 = _; omega, by omega, by omega, by go_num, by (repeat (first | with_reducible exact Mod.refl _ _ | with_reducible refine Mod.drewN ?_ _ | with_reducible refine Mod.drew ?_ | with_reducible refine Mod.alloc ?_ _ | ((with_reducible refine Mod.setNew ?_ ?_ _ _ _); (rotate_left; omega)) | with_reducible refine Mod.setAt ?_ _ _ _ | with_reducible exact hM1 | with_reducible refine Mod.thenNone ?_ hM1 )), .inr ?_⟩
        have e : IntM.marks q0 (k + 1) = IntM.marks q0 k ++ [.int .i64 q] := by
          simp [IntM.marks, icell, ← hq']
        rw [e]
        exact HF.out.push (by simp [Hl0.out]) (by omega) _
      case measure => simp [intOf]; omega
    · have hk' : k = n := by omega
      subst hk'
      go_wp2
      go_ret
      exact ⟨ret_int hq.out, hM, hF0⟩

theorem IntM.marks_at (q0 : Int) (n k : Nat) (hk : k < n) : (IntM.marks q0 n)[k]? = some (.int .i64 (q0 + k)) := by
  induction n with
  | zero => omega
  | succ n ih =>
    have hl := IntM.marks_length q0 n
    unfold IntM.marks
    by_cases e : k = n
    · subst e
      rw [List.getElem?_append_right (by omega), hl, Nat.sub_self]
      rfl
    · rw [List.getElem?_append_left (by rw [hl]; omega)]
      exact ih (by omega)

set_option maxRecDepth 100000 in
set_option maxHeartbeats 1000000 in
theorem heldIntS_any (n c : Nat) (a : Option Addr) (g N : Nat) (w : World) (q0 : Int) (hq0 : 1 ≤ q0) (hq1 : q0 ≤ 1000000000000000) (hn : n ≤ 1048577) (h : n = 0 ∨ a = some ⟨g, 0, none⟩ ∧ n * 1 ≤ N ∧ Filled g 3 N w (IntM.marks q0 n)) :
    Calls Try.prog 44 #[.slice a n c, .int .i64 q0] w fun e w' => e = .returned (.int .i64 (q0 + n)) ∧ Mod (fun _ => False) w w' := by
  have H := hid h
  clear h
  go_enter Try.func44, Try.ntmps44
  go_wp2
  go_loopw [1, 5] (fun z i wr => ∃ (k : Nat) (q : Int), k ≤ n ∧ z = .int .i64 q ∧ Hid (q = q0 + k) ∧ 1 ≤ q ∧ q ≤ 10000000000000000 ∧ i = .int .i64 k ∧ Mod (fun _ => False) w wr) (fun _ i _ => n - (intOf i).toNat)
  case atStart => exact ⟨0, q0, by omega, rfl, by show q0 = q0 + _; omega, by omega, by omega, rfl, Mod.refl _ _⟩
  case round =>
    obtain ⟨k, q, hk, rfl, hq, q1, q2, rfl, hM⟩ := hrel
    by_cases hlt : k < n
    · rcases H.out with h | ⟨rfl, hN, hF⟩
      · omega
      have hc := (hF.mod hM (fun f => f)).read (IntM.marks_at q0 n k hlt)
      rw [← hq.out] at hc
      clear hF
      go_wp2
      go_roundw
      case rel => exact ⟨k + 1, q + 1, by omega, rfl, by have := hq.out; show q + 1 = _; omega, by omega, by have := hq.out; omega, by go_num, hM⟩
      case measure => simp [intOf]; omega
    · have hk' : k = n := by omega
      subst hk'
      go_wp2
      go_ret
      exact ⟨ret_int hq.out, hM⟩

set_option maxRecDepth 100000 in
theorem hasInt_any (l : List Int) (n : Int) (a : Option Addr) (c : Nat) (R : Nat → Prop) (w : World) (hl : l.length ≤ 9223372036854775807) (h : IntSlice R w a l) :
    Calls Try.prog 60 #[.slice a l.length c, .int .i64 n] w fun e w' => e = .returned (.bool (decide (n ∈ l))) ∧ Mod (fun _ => False) w w' := by
  have H := hid h
  clear h
  go_enter Try.func60, Try.ntmps60
  go_wp2
  go_loopw [9] (fun i wr => ∃ k : Nat, k ≤ l.length ∧ i = .int .i64 k ∧ Hid (n ∉ l.take k) ∧ Mod (fun _ => False) w wr) (fun i _ => l.length - (intOf i).toNat)
  case atStart => exact ⟨0, by omega, rfl, hid (by simp), Mod.refl _ _⟩
  case round =>
    obtain ⟨k, hk, rfl, hno, hM⟩ := hrel
    by_cases hlt : k < l.length
    · obtain ⟨b, o, x, rfl, _, _, hx, c0⟩ := IntSlice.get (H.out.flatKeep hM) hlt
      by_cases hxn : x = n
      · subst hxn
        go_wp2
        go_ret
        exact ⟨ret_bool (decide_eq_true (List.mem_of_getElem? hx.out)).symm, hM⟩
      · have hne : (x == n) = false := by simpa using hxn
        have hno' : Hid (n ∉ l.take (k + 1)) := by
          rw [List.take_add_one, hx.out]
          refine hid ?_
          simp only [Option.toList_some, List.mem_append, List.mem_singleton, not_or]
          exact ⟨hno.out, fun e => hxn e.symm⟩
        go_wp2
        go_roundw
        case rel => exact ⟨k + 1, by omega, by go_num, hno', hM⟩
        case measure => simp [intOf]; omega
    · have hk' : k = l.length := by omega
      subst hk'
      have h2 := hno.out
      rw [List.take_length] at h2
      have H2 := hid h2
      clear hno h2
      go_wp2
      go_ret
      exact ⟨ret_bool (decide_eq_false H2.out).symm, hM⟩

set_option maxRecDepth 100000 in
set_option maxHeartbeats 1000000 in
theorem toIntS_any (l : List Int) (a : Option Addr) (c : Nat) (R : Nat → Prop) (w : World) (hl : l.length ≤ 1048576) (h : IntSlice R w a l) :
    Calls Try.prog 165 #[.slice a l.length c] w (NewRows 3 w l.length (l.map icell).flatten) := by
  have H := hid h
  clear h
  obtain ⟨i0, hi, hz0, hz1, hz2⟩ := info_parts info_ints
  have hmk : ∀ W : World, (Instr.makeSlice 29 (.int .i64 (l.length : Int)) (.int .i64 (l.length : Int))).run Try.prog W = .ok (.slice (some ⟨W.heap.size, 0, none⟩) l.length l.length) (W.alloc (.cells (madeCells (Value.cells (.int .i64 0)) (l.length * 1)) 3)) := by
    intro W
    have := run_make (P := Try.prog) W 29 3 i0 _ Try.underlying29 hi hz0 .i64 .i64 l.length l.length (by omega) (by omega) (by rw [hz2]; omega) (by omega)
    simpa [hz1] using this
  clear hz0 hz1 hz2 hi
  go_enter Try.func165, Try.ntmps165
  go_wp2
  go_loopw [4] (fun i wr => ∃ k : Nat, k ≤ l.length ∧ i = .int .i64 k ∧ Filled w.heap.size 3 l.length wr ((l.take k).map icell).flatten ∧ Mod (fun _ => False) w wr) (fun i _ => l.length - (intOf i).toNat)
  case atStart => exact ⟨0, by omega, rfl, Filled.made w _ _ _ (size_madeCells _ _), (Mod.refl _ w).alloc _⟩
  case round =>
    obtain ⟨k, hk, rfl, hF, hM⟩ := hrel
    clear hmk
    by_cases hlt : k < l.length
    · obtain ⟨b, o, x, rfl, _, hbw, hx, c0⟩ := IntSlice.get (H.out.flatKeep hM) hlt
      obtain ⟨v0, d0⟩ := hF.cell (off := k) (by omega)
      have z0 := hF.free k
      have HF := hid hF
      clear hF
      go_wp2
      go_roundw
      case rel =>
        refine ⟨k + 1, by omega, by go_num, ?_, ?_⟩
        · have hl0 := icells_length (l.take k)
          rw [take_length_of_lt hk] at hl0
          rw [flat_succ hx]
          exact HF.out.push (by rw [hl0]; omega) (by omega) _
        · (repeat (first | with_reducible exact Mod.refl _ _ | with_reducible refine Mod.drewN ?_ _ | with_reducible refine Mod.drew ?_ | with_reducible refine Mod.alloc ?_ _ | ((with_reducible refine Mod.setNew ?_ ?_ _ _ _); (rotate_left; omega)) | with_reducible refine Mod.setAt ?_ _ _ _ | with_reducible exact hM | with_reducible refine Mod.thenNone ?_ hM ))
      case measure => simp [intOf]; omega
    · have hk' : k = l.length := by omega
      subst hk'
      go_wp2
      go_ret
      refine ⟨w.heap.size, rfl, Nat.le_refl _, ?_, hM⟩
      rw [List.take_length] at hF
      exact hF.full (by rw [icells_length, Nat.mul_one])

end Go.Proofs.Ytcolkidnjojlmaa
