/-
  PROVED: szAct counts an action's letters and rules; ActOk: the program's and the reference's are one. No condition.
-/
import Derived.Test.YtpmbobopkfacmaaActCodec
import Derived.Test.YtpmbobopkfacmaaNum
import Derived.Test.YtpmbobopkfacmaaRd
namespace Go.Proofs.Ytpmbobopkfacmaa
open Go.RowKit

theorem szTable_any (n c : Nat) (a : Option Addr) (left : Int) (h0 : 0 ≤ left) (h1 : left ≤ 1048576) (hn : n ≤ 9223372036854775807) (w : World) : Calls Try.prog 57 #[.agg #[.slice a n c], .int .i64 left] w fun e w' => e = .returned (.int .i64 (if left < n then -1 else left - n)) ∧ Mod (fun _ => False) w w' := by
  by_cases h : left < n
  · rw [if_pos h]
    go_enter Try.func57, Try.ntmps57
    go_wp2_with fail
    refine (szRuleS_any _ _ _ _ h0 h1 hn _).mono ?_
    rintro e w' ⟨rfl, rfl⟩
    rw [if_pos h]
    go_wp2
    go_ret
    exact ⟨rfl, by (repeat (first | with_reducible exact Mod.refl _ _ | with_reducible refine Mod.drewN ?_ _ | with_reducible refine Mod.drew ?_ | with_reducible refine Mod.alloc ?_ _ | ((with_reducible refine Mod.setNew ?_ ?_ _ _ _); (rotate_left; omega)) | with_reducible refine Mod.setAt ?_ _ _ _ ))⟩
  · rw [if_neg h]
    have h2 : 0 ≤ left - n := by omega
    go_enter Try.func57, Try.ntmps57
    go_wp2_with fail
    refine (szRuleS_any _ _ _ _ h0 h1 hn _).mono ?_
    rintro e w' ⟨rfl, rfl⟩
    rw [if_neg (by omega)]
    go_wp2
    go_ret
    exact ⟨rfl, by (repeat (first | with_reducible exact Mod.refl _ _ | with_reducible refine Mod.drewN ?_ _ | with_reducible refine Mod.drew ?_ | with_reducible refine Mod.alloc ?_ _ | ((with_reducible refine Mod.setNew ?_ ?_ _ _ _); (rotate_left; omega)) | with_reducible refine Mod.setAt ?_ _ _ _ ))⟩

/-- Too great: a negative count; else what is left, and the action is small. -/
def SzPost (w : World) (left k : Int) (e : Ending) (w' : World) : Prop :=
  (left < k ∧ e = .returned (.int .i64 (-1)) ∨ k ≤ left ∧ e = .returned (.int .i64 (left - k))) ∧ Mod (fun _ => False) w w'

theorem szAct_any (x : Act) (a : Option Addr) (c : Nat) (left : Int) (h0 : 0 ≤ left) (h1 : left ≤ 1048576) (hn : x.table.length ≤ 9223372036854775807) (hk : x.key.size ≤ 9223372036854775807) (w : World) :
    Calls Try.prog 30 #[.agg #[.int .i64 x.kind, .int .i64 x.n, .int .i64 x.kid, .int .i64 x.pl, .string x.key, .int .i64 x.value.kind, .int .i64 x.value.n, .slice a x.table.length c, .int .i64 x.wide, .int .i64 x.high, .bool x.rtl], .int .i64 left] w (SzPost w left (x.key.size + x.table.length)) := by
  by_cases h : left < x.key.size
  · have b1 : left - x.key.size < 0 := by omega
    have b2 : -9223372036854775808 ≤ left - x.key.size := by omega
    go_enter Try.func30, Try.ntmps30
    go_wp2
    go_ret
    exact ⟨.inl ⟨by omega, rfl⟩, by (repeat (first | with_reducible exact Mod.refl _ _ | with_reducible refine Mod.drewN ?_ _ | with_reducible refine Mod.drew ?_ | with_reducible refine Mod.alloc ?_ _ | ((with_reducible refine Mod.setNew ?_ ?_ _ _ _); (rotate_left; omega)) | with_reducible refine Mod.setAt ?_ _ _ _ ))⟩
  · have b1 : 0 ≤ left - x.key.size := by omega
    have b2 : left - x.key.size ≤ 1048576 := by omega
    by_cases h2 : left - x.key.size < x.table.length
    · go_enter Try.func30, Try.ntmps30
      go_wp2_with fail
      refine (szTable_any _ _ _ _ b1 b2 hn _).mono ?_
      rintro e w1 ⟨rfl, hm1⟩
      rw [if_pos h2]
      go_wp2
      go_ret
      exact ⟨.inl ⟨by omega, rfl⟩, by (repeat (first | with_reducible exact Mod.refl _ _ | with_reducible refine Mod.drewN ?_ _ | with_reducible refine Mod.drew ?_ | with_reducible refine Mod.alloc ?_ _ | ((with_reducible refine Mod.setNew ?_ ?_ _ _ _); (rotate_left; omega)) | with_reducible refine Mod.setAt ?_ _ _ _ | with_reducible exact hm1 | with_reducible refine Mod.thenNone ?_ hm1 ))⟩
    · have b3 : 0 ≤ left - x.key.size - x.table.length := by omega
      go_enter Try.func30, Try.ntmps30
      go_wp2_with fail
      refine (szTable_any _ _ _ _ b1 b2 hn _).mono ?_
      rintro e w1 ⟨rfl, hm1⟩
      rw [if_neg (by omega)]
      go_wp2
      go_ret
      exact ⟨.inr ⟨by omega, ret_int (by omega)⟩, by (repeat (first | with_reducible exact Mod.refl _ _ | with_reducible refine Mod.drewN ?_ _ | with_reducible refine Mod.drew ?_ | with_reducible refine Mod.alloc ?_ _ | ((with_reducible refine Mod.setNew ?_ ?_ _ _ _); (rotate_left; omega)) | with_reducible refine Mod.setAt ?_ _ _ _ | with_reducible exact hm1 | with_reducible refine Mod.thenNone ?_ hm1 ))⟩

def actOk (x : Act) : Bool := inB x.kind 1 7 && decide (x.table.length ≤ 8)

theorem actOk_any (x : Act) (a : Option Addr) (c : Nat) (w : World) : Calls Try.prog 33 #[.agg #[.int .i64 x.kind, .int .i64 x.n, .int .i64 x.kid, .int .i64 x.pl, .string x.key, .int .i64 x.value.kind, .int .i64 x.value.n, .slice a x.table.length c, .int .i64 x.wide, .int .i64 x.high, .bool x.rtl]] w fun e w' => e = .returned (.bool (actOk x)) ∧ Mod (fun _ => False) w w' := by
  unfold actOk
  by_cases h : inB x.kind 1 7 = true
  · by_cases hl : x.table.length ≤ 8
    · go_enter Try.func33, Try.ntmps33
      go_wp2_with (first | (go_at_call 52; refine (in_any _ _ _ _).mono ?_; rintro e w' ⟨rfl, rfl⟩))
      go_ret
      exact ⟨ret_bool (by simp [h, hl]; try omega), by (repeat (first | with_reducible exact Mod.refl _ _ | with_reducible refine Mod.drewN ?_ _ | with_reducible refine Mod.drew ?_ | with_reducible refine Mod.alloc ?_ _ | ((with_reducible refine Mod.setNew ?_ ?_ _ _ _); (rotate_left; omega)) | with_reducible refine Mod.setAt ?_ _ _ _ ))⟩
    · go_enter Try.func33, Try.ntmps33
      go_wp2_with (first | (go_at_call 52; refine (in_any _ _ _ _).mono ?_; rintro e w' ⟨rfl, rfl⟩))
      go_ret
      exact ⟨ret_bool (by simp [h, hl]; try omega), by (repeat (first | with_reducible exact Mod.refl _ _ | with_reducible refine Mod.drewN ?_ _ | with_reducible refine Mod.drew ?_ | with_reducible refine Mod.alloc ?_ _ | ((with_reducible refine Mod.setNew ?_ ?_ _ _ _); (rotate_left; omega)) | with_reducible refine Mod.setAt ?_ _ _ _ ))⟩
  · replace h : inB x.kind 1 7 = false := by simpa using h
    go_enter Try.func33, Try.ntmps33
    go_wp2_with (first | (go_at_call 52; refine (in_any _ _ _ _).mono ?_; rintro e w' ⟨rfl, rfl⟩))
    go_ret
    exact ⟨ret_bool (by simp [h]), by (repeat (first | with_reducible exact Mod.refl _ _ | with_reducible refine Mod.drewN ?_ _ | with_reducible refine Mod.drew ?_ | with_reducible refine Mod.alloc ?_ _ | ((with_reducible refine Mod.setNew ?_ ?_ _ _ _); (rotate_left; omega)) | with_reducible refine Mod.setAt ?_ _ _ _ ))⟩

theorem sactOk_any (x : Act) (a : Option Addr) (c : Nat) (w : World) : Calls Try.prog 31 #[.agg #[.int .i64 x.kind, .int .i64 x.n, .int .i64 x.kid, .int .i64 x.pl, .string x.key, .int .i64 x.value.kind, .int .i64 x.value.n, .slice a x.table.length c, .int .i64 x.wide, .int .i64 x.high, .bool x.rtl]] w fun e w' => e = .returned (.bool (actOk x)) ∧ Mod (fun _ => False) w w' := by
  unfold actOk
  by_cases h : inB x.kind 1 7 = true
  · by_cases hl : x.table.length ≤ 8
    · go_enter Try.func31, Try.ntmps31
      go_wp2_with (first | (go_at_call 47; refine (l01In_any _ _ _ _).mono ?_; rintro e w' ⟨rfl, rfl⟩))
      go_ret
      exact ⟨ret_bool (by simp [h, hl]; try omega), by (repeat (first | with_reducible exact Mod.refl _ _ | with_reducible refine Mod.drewN ?_ _ | with_reducible refine Mod.drew ?_ | with_reducible refine Mod.alloc ?_ _ | ((with_reducible refine Mod.setNew ?_ ?_ _ _ _); (rotate_left; omega)) | with_reducible refine Mod.setAt ?_ _ _ _ ))⟩
    · go_enter Try.func31, Try.ntmps31
      go_wp2_with (first | (go_at_call 47; refine (l01In_any _ _ _ _).mono ?_; rintro e w' ⟨rfl, rfl⟩))
      go_ret
      exact ⟨ret_bool (by simp [h, hl]; try omega), by (repeat (first | with_reducible exact Mod.refl _ _ | with_reducible refine Mod.drewN ?_ _ | with_reducible refine Mod.drew ?_ | with_reducible refine Mod.alloc ?_ _ | ((with_reducible refine Mod.setNew ?_ ?_ _ _ _); (rotate_left; omega)) | with_reducible refine Mod.setAt ?_ _ _ _ ))⟩
  · replace h : inB x.kind 1 7 = false := by simpa using h
    go_enter Try.func31, Try.ntmps31
    go_wp2_with (first | (go_at_call 47; refine (l01In_any _ _ _ _).mono ?_; rintro e w' ⟨rfl, rfl⟩))
    go_ret
    exact ⟨ret_bool (by simp [h]), by (repeat (first | with_reducible exact Mod.refl _ _ | with_reducible refine Mod.drewN ?_ _ | with_reducible refine Mod.drew ?_ | with_reducible refine Mod.alloc ?_ _ | ((with_reducible refine Mod.setNew ?_ ?_ _ _ _); (rotate_left; omega)) | with_reducible refine Mod.setAt ?_ _ _ _ ))⟩

set_option maxRecDepth 100000 in
theorem rd_Val {w : World} {cs : List Value} (h : Rd Try.prog w 47 cs) : ∃ x : Val, cs = x.cells := by
  obtain ⟨hl, hf⟩ := h.struct Try.underlying47
  have hl2 : cs.length = 2 := hl.trans (by kernel_rfl)
  have c1 : Try.prog.cellsOf 3 = 1 := by kernel_rfl
  match cs, hl2 with
  | [c0, c1'], _ =>
    obtain ⟨n0, e0, _⟩ := (hf 0 _ rfl).int Try.underlying3
    obtain ⟨n1, e1, _⟩ := (hf 1 _ rfl).int Try.underlying3
    simp [c1] at e0 e1
    exact ⟨⟨n0, n1⟩, by simp [Val.cells, e0, e1]⟩
set_option maxRecDepth 100000 in
theorem rd_Rule {w : World} {cs : List Value} (h : Rd Try.prog w 114 cs) : ∃ x : Rule, cs = x.cells := by
  obtain ⟨hl, hf⟩ := h.struct Try.underlying114
  have hl2 : cs.length = 3 := hl.trans (by kernel_rfl)
  have c1 : Try.prog.cellsOf 3 = 1 := by kernel_rfl
  match cs, hl2 with
  | [c0, c1', c2'], _ =>
    obtain ⟨n0, e0, _⟩ := (hf 0 _ rfl).int Try.underlying3
    obtain ⟨n1, e1, _⟩ := (hf 1 _ rfl).int Try.underlying3
    obtain ⟨n2, e2, _⟩ := (hf 2 _ rfl).int Try.underlying3
    simp [c1] at e0 e1 e2
    exact ⟨⟨n0, n1, n2⟩, by simp [Rule.cells, e0, e1, e2]⟩
set_option maxRecDepth 100000 in
theorem rd_Table {w : World} {cs : List Value} (h : Rd Try.prog w 50 cs) : ∃ (a : Option Addr) (l : List Rule) (c : Nat), cs = [.slice a l.length c] ∧ l.length ≤ 9223372036854775807 ∧ SliceAt (Flat Rule.cells) 3 (fun k => k < w.heap.size) w a l := by
  obtain ⟨hl, hf⟩ := h.struct Try.underlying50
  have hl2 : cs.length = 1 := hl.trans (by kernel_rfl)
  have c1 : Try.prog.cellsOf 48 = 1 := by kernel_rfl
  match cs, hl2 with
  | [q0], _ =>
    obtain ⟨a, l, c, e, hc, hm, hs⟩ := (hf 0 _ rfl).list (rep := Flat Rule.cells) (sz := 3) Try.underlying48 (by kernel_rfl) (by decide) (fun cs h => rd_Rule h)
    simp [c1] at e
    unfold maxLen at hm
    exact ⟨a, l, c, by simp [e], by omega, hs⟩
set_option maxRecDepth 100000 in
/-- An action that came in: its table's length is bounded by what a slice may hold. -/
theorem rd_Act {w : World} {cs : List Value} (h : Rd Try.prog w 52 cs) : ∃ x : Act, repAct (fun k => k < w.heap.size) w cs x ∧ x.table.length ≤ 9223372036854775807 ∧ x.key.size ≤ 9223372036854775807 := by
  obtain ⟨hl, hf⟩ := h.struct Try.underlying52
  have hl2 : cs.length = 11 := hl.trans (by kernel_rfl)
  have c1 : Try.prog.cellsOf 3 = 1 := by kernel_rfl
  have c2 : Try.prog.cellsOf 4 = 1 := by kernel_rfl
  have c3 : Try.prog.cellsOf 47 = 2 := by kernel_rfl
  have c4 : Try.prog.cellsOf 50 = 1 := by kernel_rfl
  have c5 : Try.prog.cellsOf 9 = 1 := by kernel_rfl
  match cs, hl2 with
  | [q0, q1, q2, q3, q4, q5, q6, q7, q8, q9, q10], _ =>
    obtain ⟨n0, e0, _⟩ := (hf 0 _ rfl).int Try.underlying3
    obtain ⟨n1, e1, _⟩ := (hf 1 _ rfl).int Try.underlying3
    obtain ⟨n2, e2, _⟩ := (hf 2 _ rfl).int Try.underlying3
    obtain ⟨n3, e3, _⟩ := (hf 3 _ rfl).int Try.underlying3
    obtain ⟨s4, e4, hs4⟩ := (hf 4 _ rfl).string Try.underlying9
    obtain ⟨v5, e5⟩ := rd_Val (hf 5 _ rfl)
    obtain ⟨a6, l6, c6, e6, hl6, hs6⟩ := rd_Table (hf 6 _ rfl)
    obtain ⟨n7, e7, _⟩ := (hf 7 _ rfl).int Try.underlying3
    obtain ⟨n8, e8, _⟩ := (hf 8 _ rfl).int Try.underlying3
    obtain ⟨b9, e9⟩ := (hf 9 _ rfl).bool Try.underlying4
    simp [c1, c2, c3, c4, c5, Val.cells] at e0 e1 e2 e3 e4 e5 e6 e7 e8 e9
    unfold maxLen at hs4
    exact ⟨⟨n0, n1, n2, n3, s4, v5, l6, n7, n8, b9⟩, ⟨a6, c6, by simp [e0, e1, e2, e3, e4, e5, e6, e7, e8, e9], hs6⟩, hl6, by show s4.size ≤ _; omega⟩

end Go.Proofs.Ytpmbobopkfacmaa
