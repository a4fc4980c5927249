/-
  PROVED: contracts of functions and words on memory, several texts put together: what each says stands at its theorems. Conditions: as told there.
-/
import Derived.Test.YtpkpkojmaebflaaGreatDoorMLb
import Derived.Test.YtpkpkojmaebflaaGreatDoorChecked
import Derived.Outline
import Derived.WalkLawsBesides
import Derived.Deep.RegionHeld3
import Derived.Deep.QuietTactic
import Derived.BigQuiet
import Derived.Lib.ItoaLen
set_option linter.unusedVariables false
set_option linter.unusedSimpArgs false
namespace Go.Proofs.YtpkpkojmaebflaaGreatDoor
open Go.RowKit

theorem info_ints : (Tryz.prog.info? 3).map (fun i => (i.zero, i.size, i.bytes)) = some (some (.int .i64 0), 1, 8) := by kernel_rfl
theorem szIntS_any (n c : Nat) (a : Option Addr) (left : Int) (h0 : 0 ≤ left) (h1 : left ≤ 1048576) (hn : n ≤ 9223372036854775807) (w : World) : Calls Tryz.prog 99 #[.slice a n c, .int .i64 left] w fun e w' => e = .returned (.int .i64 (if left < n then -1 else left - n)) ∧ w = w' := by
  by_cases h : left < n
  · rw [if_pos h]
    have h2 : left - n < 0 := by omega
    have h3 : -9223372036854775807 ≤ left - n := by omega
    go_enter Tryz.func99, Tryz.ntmps99
    go_wp2
    go_ret
    exact ⟨rfl, rfl⟩
  · rw [if_neg h]
    have h2 : 0 ≤ left - n := by omega
    go_enter Tryz.func99, Tryz.ntmps99
    go_wp2
    go_ret
    exact ⟨rfl, rfl⟩

set_option maxRecDepth 100000 in
set_option maxHeartbeats 1000000 in
theorem eqIntS_any (l m : List Int) (a a' : Option Addr) (c c' : Nat) (R S : Nat → Prop) (w : World) (hl : l.length ≤ 9223372036854775807) (_hm : m.length ≤ 9223372036854775807) (h : IntSlice R w a l) (h' : IntSlice S w a' m) :
    Calls Tryz.prog 121 #[.slice a l.length c, .slice a' m.length c'] w fun e w' => e = .returned (.bool (decide (l = m))) ∧ Mod (fun _ => False) w w' := by
  have H := hid h
  have H' := hid h'
  clear h h'
  by_cases hlen : l.length = m.length
  · have hn0 : ((l.length : Int) != (m.length : Int)) = false := by simp [hlen]
    have hn1 : l.length ≤ m.length := by omega
    have hn2 : m.length ≤ l.length := by omega
    clear hlen
    go_enter Tryz.func121, Tryz.ntmps121
    go_wp2
    go_loopw [5] (fun i wr => ∃ k : Nat, k ≤ l.length ∧ i = .int .i64 k ∧ SameTo l m k ∧ Mod (fun _ => False) w wr) (fun i _ => l.length - (intOf i).toNat)
    case atStart => exact ⟨0, by omega, rfl, rfl, Mod.refl _ _⟩
    case round =>
      obtain ⟨k, hk, rfl, hsame, hmod⟩ := hrel
      by_cases hlt : k < l.length
      · obtain ⟨b, o, x, rfl, _, hbw, hx, c0⟩ := IntSlice.get (H.out.flatKeep hmod) hlt
        obtain ⟨b', o', y, rfl, _, hbw', hy, d0⟩ := IntSlice.get (H'.out.flatKeep hmod) (show k < m.length by omega)
        have hlt2 : k < m.length := by omega
        by_cases hxy : x = y
        · subst hxy
          go_wp2
          go_quiet (fail)
          go_wp2
          go_roundw
          case rel => exact ⟨k + 1, by omega, by go_num, hsame.succ hx hy, hmod.drewN _⟩
          case measure => simp [intOf]; omega
        · have hd : (x != y) = true := by simpa using hxy
          have Hxy := hid hxy
          clear hxy
          go_wp2
          go_quiet (fail)
          go_wp2
          go_ret
          exact ⟨ret_bool (decide_eq_false (ne_at hx hy Hxy.out)).symm, hmod.drewN _⟩
      · go_wp2
        go_ret
        exact ⟨ret_bool (decide_eq_true (hsame.all (by omega) (by omega))).symm, hmod⟩
  · have hn0 : ((l.length : Int) != (m.length : Int)) = true := by simp; omega
    have hne : l ≠ m := fun h => hlen (by rw [h])
    clear hlen
    go_enter Tryz.func121, Tryz.ntmps121
    go_wp2
    go_ret
    exact ⟨ret_bool (decide_eq_false hne).symm, Mod.refl _ _⟩

/-- The cells of marks from q on. -/
def IntM.marks (q : Int) : Nat → List Value
  | 0 => []
  | k + 1 => IntM.marks q k ++ icell (q + k)
theorem IntM.marks_length (q : Int) (k : Nat) : (IntM.marks q k).length = k := by
  induction k with
  | zero => simp [IntM.marks]
  | succ k ih => simp [IntM.marks, icell, ih]

set_option maxRecDepth 100000 in
set_option maxHeartbeats 1000000 in
theorem markIntS_any (n c : Nat) (a : Option Addr) (g N : Nat) (w : World) (q0 : Int) (hq0 : 1 ≤ q0) (hq1 : q0 ≤ 1000000000000000) (hn : n ≤ 1048577) (h : n = 0 ∨ a = some ⟨g, 0, none⟩ ∧ n * 1 ≤ N ∧ Filled g 3 N w []) :
    Calls Tryz.prog 97 #[.slice a n c, .int .i64 q0] w fun e w' => e = .returned (.int .i64 (q0 + n)) ∧ Mod (fun k => k = g) w w' ∧ (n = 0 ∨ Filled g 3 N w' (IntM.marks q0 n)) := by
  have H := hid h
  clear h
  have hgs : n = 0 ∨ g < w.heap.size := by
    rcases H.out with h | ⟨_, _, h⟩
    · exact .inl h
    · exact .inr h.size
  go_enter Tryz.func97, Tryz.ntmps97
  go_wp2
  go_loopw [1, 5] (fun z i wr => ∃ (k : Nat) (q : Int), k ≤ n ∧ z = .int .i64 q ∧ Hid (q = q0 + k) ∧ 1 ≤ q ∧ q ≤ 10000000000000000 ∧ i = .int .i64 k ∧ Mod (fun k => k = g) w wr ∧ (n = 0 ∨ Filled g 3 N wr (IntM.marks q0 k))) (fun _ i _ => n - (intOf i).toNat)
  case atStart =>
    refine ⟨0, q0, by omega, rfl, by show q0 = q0 + _; omega, by omega, by omega, rfl, Mod.refl _ _, ?_⟩
    rcases H.out with h | ⟨_, _, h⟩
    · exact .inl h
    · exact .inr h
  case round =>
    obtain ⟨k, q, hk, rfl, hq, q1, q2, rfl, hM, hF0⟩ := hrel
    by_cases hlt : k < n
    · rcases H.out with h | ⟨rfl, hN, _⟩
      · omega
      have hF := hF0.resolve_left (by omega)
      clear hF0
      have hF1 := hF
      have hM1 := hM
      have hl0 := IntM.marks_length q0 k
      obtain ⟨v0, d0⟩ := hF1.cell (off := k) (by omega)
      have z0 := hF1.free k
      have HF := hid hF1
      have Hl0 := hid hl0
      clear hF hF1 hl0 hM
      go_wp2
      go_roundw
      case rel =>
        have hq' := hq.out
        refine ⟨k + 1, q + 1, by omega, rfl, by show q + 1 = _; omega, by omega, by omega, by go_num, by (repeat (first | with_reducible exact Mod.refl _ _ | with_reducible refine Mod.drewN ?_ _ | with_reducible refine Mod.drew ?_ | with_reducible refine Mod.alloc ?_ _ | ((with_reducible refine Mod.setNew ?_ ?_ _ _ _); (rotate_left; omega)) | with_reducible refine Mod.setAt ?_ _ _ _ | with_reducible exact hM1 | with_reducible refine Mod.thenNone ?_ hM1 )), .inr ?_⟩
        have e : IntM.marks q0 (k + 1) = IntM.marks q0 k ++ [.int .i64 q] := by
          simp [IntM.marks, icell, ← hq']
        rw [e]
        exact HF.out.push (by simp [Hl0.out]) (by omega) _
      case measure => simp [intOf]; omega
    · have hk' : k = n := by omega
      subst hk'
      go_wp2
      go_ret
      exact ⟨ret_int hq.out, hM, hF0⟩

theorem IntM.marks_at (q0 : Int) (n k : Nat) (hk : k < n) : (IntM.marks q0 n)[k]? = some (.int .i64 (q0 + k)) := by
  induction n with
  | zero => omega
  | succ n ih =>
    have hl := IntM.marks_length q0 n
    unfold IntM.marks
    by_cases e : k = n
    · subst e
      rw [List.getElem?_append_right (by omega), hl, Nat.sub_self]
      rfl
    · rw [List.getElem?_append_left (by rw [hl]; omega)]
      exact ih (by omega)

set_option maxRecDepth 100000 in
set_option maxHeartbeats 1000000 in
theorem toIntS_any (l : List Int) (a : Option Addr) (c : Nat) (R : Nat → Prop) (w : World) (hl : l.length ≤ 1048576) (h : IntSlice R w a l) :
    Calls Tryz.prog 106 #[.slice a l.length c] w (NewRows 3 w l.length (l.map icell).flatten) := by
  have H := hid h
  clear h
  obtain ⟨i0, hi, hz0, hz1, hz2⟩ := info_parts info_ints
  have hmk : ∀ W : World, (Instr.makeSlice 72 (.int .i64 (l.length : Int)) (.int .i64 (l.length : Int))).run Tryz.prog W = .ok (.slice (some ⟨W.heap.size, 0, none⟩) l.length l.length) (W.alloc (.cells (madeCells (Value.cells (.int .i64 0)) (l.length * 1)) 3)) := by
    intro W
    have := run_make (P := Tryz.prog) W 72 3 i0 _ Tryz.underlying72 hi hz0 .i64 .i64 l.length l.length (by omega) (by omega) (by rw [hz2]; omega) (by omega)
    simpa [hz1] using this
  clear hz0 hz1 hz2 hi
  go_enter Tryz.func106, Tryz.ntmps106
  go_wp2
  go_loopw [4] (fun i wr => ∃ k : Nat, k ≤ l.length ∧ i = .int .i64 k ∧ Filled w.heap.size 3 l.length wr ((l.take k).map icell).flatten ∧ Mod (fun _ => False) w wr) (fun i _ => l.length - (intOf i).toNat)
  case atStart => exact ⟨0, by omega, rfl, Filled.made w _ _ _ (size_madeCells _ _), (Mod.refl _ w).alloc _⟩
  case round =>
    obtain ⟨k, hk, rfl, hF, hM⟩ := hrel
    clear hmk
    by_cases hlt : k < l.length
    · obtain ⟨b, o, x, rfl, _, hbw, hx, c0⟩ := IntSlice.get (H.out.flatKeep hM) hlt
      obtain ⟨v0, d0⟩ := hF.cell (off := k) (by omega)
      have z0 := hF.free k
      have HF := hid hF
      clear hF
      go_wp2
      go_roundw
      case rel =>
        refine ⟨k + 1, by omega, by go_num, ?_, ?_⟩
        · have hl0 := icells_length (l.take k)
          rw [take_length_of_lt hk] at hl0
          rw [flat_succ hx]
          exact HF.out.push (by rw [hl0]; omega) (by omega) _
        · (repeat (first | with_reducible exact Mod.refl _ _ | with_reducible refine Mod.drewN ?_ _ | with_reducible refine Mod.drew ?_ | with_reducible refine Mod.alloc ?_ _ | ((with_reducible refine Mod.setNew ?_ ?_ _ _ _); (rotate_left; omega)) | with_reducible refine Mod.setAt ?_ _ _ _ | with_reducible exact hM | with_reducible refine Mod.thenNone ?_ hM ))
      case measure => simp [intOf]; omega
    · have hk' : k = l.length := by omega
      subst hk'
      go_wp2
      go_ret
      refine ⟨w.heap.size, rfl, Nat.le_refl _, ?_, hM⟩
      rw [List.take_length] at hF
      exact hF.full (by rw [icells_length, Nat.mul_one])

end Go.Proofs.YtpkpkojmaebflaaGreatDoor
namespace Go.Proofs.YtpkpkojmaebflaaGreatDoor
open Go.RowKit

structure Node where
  up : Int
  kids : List Int
  style : Style
  measured : Bool
  rules : List Rule
  deriving DecidableEq, Inhabited
/-- A node's cells: two slices among them. -/
def nodeRow (up : Int) (k : Option Addr) (n c : Nat) (s : Style) (m : Bool) (t : Option Addr) (n' c' : Nat) : List Value := [.int .i64 up, .slice k n c] ++ s.cells ++ [.bool m, .slice t n' c']

section
variable (up : Int) (k : Option Addr) (n c : Nat) (s : Style) (m : Bool) (t : Option Addr) (n' c' : Nat)
theorem nodeRow_len : (nodeRow up k n c s m t n' c').length = 64 := rfl
theorem nodeRow_ones : (nodeRow up k n c s m t n' c').toArray.all (·.oneCell') = true := by simp [nodeRow, Style.cells, Value.oneCell']
@[go_sem] theorem nodeRow_0 : (nodeRow up k n c s m t n' c')[0]? = some (.int .i64 up) := rfl
@[go_sem] theorem nodeRow_1 : (nodeRow up k n c s m t n' c')[1]? = some (.slice k n c) := rfl
@[go_sem] theorem nodeRow_62 : (nodeRow up k n c s m t n' c')[62]? = some (.bool m) := rfl
@[go_sem] theorem nodeRow_63 : (nodeRow up k n c s m t n' c')[63]? = some (.slice t n' c') := rfl
@[go_sem] theorem nodeRow_a0 : (nodeRow up k n c s m t n' c').toArray[0]? = some (.int .i64 up) := rfl
@[go_sem] theorem nodeRow_a1 : (nodeRow up k n c s m t n' c').toArray[1]? = some (.slice k n c) := rfl
@[go_sem] theorem nodeRow_a62 : (nodeRow up k n c s m t n' c').toArray[62]? = some (.bool m) := rfl
@[go_sem] theorem nodeRow_a63 : (nodeRow up k n c s m t n' c').toArray[63]? = some (.slice t n' c') := rfl
@[go_sem] theorem nodeRow_set0 (v : Int) : (nodeRow up k n c s m t n' c').set 0 (.int .i64 v) = nodeRow v k n c s m t n' c' := rfl
@[go_sem] theorem nodeRow_set1 (a : Option Addr) (p q : Nat) : (nodeRow up k n c s m t n' c').set 1 (.slice a p q) = nodeRow up a p q s m t n' c' := rfl
@[go_sem] theorem nodeRow_set62 (b : Bool) : (nodeRow up k n c s m t n' c').set 62 (.bool b) = nodeRow up k n c s b t n' c' := rfl
@[go_sem] theorem nodeRow_set63 (a : Option Addr) (p q : Nat) : (nodeRow up k n c s m t n' c').set 63 (.slice a p q) = nodeRow up k n c s m a p q := rfl
theorem nodeRow_style : ((nodeRow up k n c s m t n' c').drop 2).take 60 = s.cells := rfl
end

/-- A list written over an array from a place on. -/
theorem nodeRow_put {w : World} {b T : Nat} {up : Int} {k : Option Addr} {n c : Nat} {s s' : Style} {m : Bool} {t : Option Addr} {n' c' : Nat} (h : w.heap[b]? = some (.cells (nodeRow up k n c s m t n' c').toArray T (0, 0))) :
    (w.setCells b 2 s'.cells).heap[b]? = some (.cells (nodeRow up k n c s' m t n' c').toArray T (0, 0)) := by
  rw [setCells_heap b _ 2 w _ T (0, 0) h]
  have e := spl_mid [.int .i64 up, .slice k n c] s.cells [.bool m, .slice t n' c'] s'.cells (by rw [Style.len, Style.len])
  unfold nodeRow
  rw [← e]
  rfl
/-- A part of a block that is known whole. -/

@[go_sem] theorem cell_style_apart (w : World) (b o j : Nat) (s : Style) (h : o + 60 ≤ j) : (w.setCells b o s.cells).cell? ⟨b, j, none⟩ = w.cell? ⟨b, j, none⟩ := cell_setCells_apart b o j _ (.inr (by rw [Style.len]; exact h))

/-- Whole loads and stores of nodes and styles, as the walk meets them. -/
@[go_sem ↓] theorem exec_load_lNode (ρ : Operand → Value) (d : Option Tmp) (x : Operand) (ty : TypeId) (pos : String) (af : Array Edge) (g : Option (Nat × Bool)) (w : World) :
    (execOp ρ { dst := d, op := .load 129 x, type := ty, pos, after := af, guard := g }).run Tryz.prog w = LoadS Tryz.prog 129 (ρ x) w := rfl
@[go_sem ↓] theorem exec_load_iNode (ρ : Operand → Value) (d : Option Tmp) (x : Operand) (ty : TypeId) (pos : String) (af : Array Edge) (g : Option (Nat × Bool)) (w : World) :
    (execOp ρ { dst := d, op := .load 85 x, type := ty, pos, after := af, guard := g }).run Tryz.prog w = LoadS Tryz.prog 85 (ρ x) w := rfl
@[go_sem ↓] theorem exec_store_iNode (ρ : Operand → Value) (d : Option Tmp) (x y : Operand) (ty : TypeId) (pos : String) (af : Array Edge) (g : Option (Nat × Bool)) (w : World) :
    (execOp ρ { dst := d, op := .store 85 x y, type := ty, pos, after := af, guard := g }).run Tryz.prog w = StoreS Tryz.prog 85 (ρ x) (ρ y) w := rfl
@[go_sem] theorem LoadS_lNode {w : World} {b o : Nat} (h : hasRow w b o 64 = true) : LoadS Tryz.prog 129 (.pointer (some ⟨b, o, none⟩)) w = .ok (.value (.agg (rowOf w b o 64))) w := LoadS_row Tryz.underlying129 rfl (by kernel_rfl) h
@[go_sem] theorem LoadS_iNode {w : World} {b o : Nat} (h : hasRow w b o 64 = true) : LoadS Tryz.prog 85 (.pointer (some ⟨b, o, none⟩)) w = .ok (.value (.agg (rowOf w b o 64))) w := LoadS_row Tryz.underlying85 rfl (by kernel_rfl) h
@[go_sem] theorem StoreS_iNode {w : World} {b o : Nat} {up : Int} {k : Option Addr} {n c : Nat} {s : Style} {m : Bool} {t : Option Addr} {n' c' : Nat} (h : hasRow w b o 64 = true) (hz : openRow w b = true) :
    StoreS Tryz.prog 85 (.pointer (some ⟨b, o, none⟩)) (.agg (nodeRow up k n c s m t n' c').toArray) w = .ok .skip (w.setCells b o (nodeRow up k n c s m t n' c')) := StoreS_row (by kernel_rfl) h hz rfl (nodeRow_ones _ _ _ _ _ _ _ _ _)

theorem toStyle_row (x : Style) (w : World) : Calls Tryz.prog 107 #[.agg x.cells.toArray] w fun e w' => e = .returned (.agg x.cells.toArray) ∧ Mod (fun _ => False) w w' := toStyle_any x w
theorem eqStyle_row (x : Style) (w : World) : Calls Tryz.prog 122 #[.agg x.cells.toArray, .agg x.cells.toArray] w fun e w' => e = .returned (.bool true) ∧ Mod (fun _ => False) w w' := eqStyle_same x w
/-- A type's zero value, as a walk asks it. -/
theorem zero_as {P : Program} {t : TypeId} {v : Value} {n : Nat} (h : (P.info? t).map (fun i => (i.zero, i.size)) = some (some v, n)) (w : World) : (zeroValue t).run P w = .ok v w := by
  cases hq : P.info? t with
  | none => simp [hq] at h
  | some i =>
    simp [hq] at h
    simp [zeroValue, typeInfo, hq, h.1]
def Style.zero : Style := default
theorem zero_node : (Tryz.prog.info? 85).map (fun i => (i.zero, i.size)) = some (some (.agg (nodeRow 0 none 0 0 Style.zero false none 0 0).toArray), 64) := by kernel_rfl

end Go.Proofs.YtpkpkojmaebflaaGreatDoor
namespace Go.Proofs.YtpkpkojmaebflaaGreatDoor
open Go.RowKit

/-- A slice's block may be written. -/
def Wr (e sz : Nat) (R : Nat → Prop) (w : World) (a : Option Addr) (n : Nat) : Prop := n = 0 ∨ ∃ g N, a = some ⟨g, 0, none⟩ ∧ R g ∧ n * sz ≤ N ∧ Filled g e N w []
theorem Wr.mod {e sz : Nat} {R S : Nat → Prop} {w w' : World} {a : Option Addr} {n : Nat} (h : Wr e sz R w a n) (hm : Mod S w w') (hs : ∀ k, R k → ¬ S k) : Wr e sz R w' a n := by
  rcases h with h | ⟨g, N, h1, h2, h3, h4⟩
  · exact .inl h
  · exact .inr ⟨g, N, h1, h2, h3, h4.mod hm (hs g h2)⟩
theorem Wr.weaken {e sz : Nat} {R S : Nat → Prop} {w : World} {a : Option Addr} {n : Nat} (h : Wr e sz R w a n) (hs : ∀ k, k < w.heap.size → R k → S k) : Wr e sz S w a n := by
  rcases h with h | ⟨g, N, h1, h2, h3, h4⟩
  · exact .inl h
  · exact .inr ⟨g, N, h1, hs g h4.size h2, h3, h4⟩
theorem wr_of_blk {g e n sz : Nat} {w : World} {xs : List Value} {R : Nat → Prop} (hb : w.heap[g]? = some (.cells xs.toArray e (0, 0))) (hn : xs.length = n * sz) (hR : R g) : Wr e sz R w (some ⟨g, 0, none⟩) n :=
  .inr ⟨g, n * sz, rfl, hR, Nat.le_refl _, _, hb, by simpa using hn, by simp⟩
theorem Filled.none {g e N : Nat} {w : World} {xs : List Value} (h : Filled g e N w xs) : Filled g e N w [] := by
  obtain ⟨cur, h1, h2, _⟩ := h
  exact ⟨cur, h1, h2, by simp⟩
theorem Filled.ne {g g' e e' N N' : Nat} {w : World} {xs ys : List Value} (h : Filled g e N w xs) (h' : Filled g' e' N' w ys) (he : e ≠ e') : g ≠ g' := by
  rintro rfl
  obtain ⟨cur, h1, _⟩ := h
  obtain ⟨cur', h1', _⟩ := h'
  rw [h1] at h1'
  simp only [Option.some.injEq, Obj.cells.injEq] at h1'
  exact he h1'.2.1
/-- A written block stays one: a cell of it, or of another. -/
theorem Filled.set {g e N : Nat} {w : World} (h : Filled g e N w []) (b j : Nat) (s : Option Nat) (v : Value) : Filled g e N (w.setCell ⟨b, j, s⟩ v) [] := by
  obtain ⟨cur, h1, h2, _⟩ := h
  by_cases e' : g = b
  · subst e'
    cases s with
    | none => exact ⟨cur.setIfInBounds j v, by simp [World.setCell, Array.getElem?_modify, h1], by simpa using h2, by simp⟩
    | some s => exact ⟨_, by simp only [World.setCell, Array.getElem?_modify, h1]; rfl, by simp; exact h2, by simp⟩
  · exact ⟨cur, (Below.heap_setCell _ _ _ _ e').trans h1, h2, by simp⟩
theorem Wr.set {e sz : Nat} {R : Nat → Prop} {w : World} {a : Option Addr} {n : Nat} (h : Wr e sz R w a n) (b j : Nat) (s : Option Nat) (v : Value) : Wr e sz R (w.setCell ⟨b, j, s⟩ v) a n := by
  rcases h with h | ⟨g, N, h1, h2, h3, h4⟩
  · exact .inl h
  · exact .inr ⟨g, N, h1, h2, h3, h4.set b j s v⟩
/-- Behind a callee that wrote one block, and left it one that may be written. -/
theorem Filled.after {g e N n h e' N' : Nat} {w w' : World} {xs : List Value} (hf : Filled g e N w []) (hh : n = 0 ∨ Filled h e' N' w []) (hm : Mod (fun k => k = h) w w') (hp : n = 0 ∨ Filled h e' N' w' xs) (h0 : n = 0 → w = w') : Filled g e N w' [] := by
  by_cases hg : g = h
  · subst hg
    rcases hp with hp | hp
    · rw [← h0 hp]; exact hf
    · obtain ⟨cur, h1, h2, _⟩ := hf
      rcases hh with hn | ⟨cur2, h3, h4, _⟩
      · rw [← h0 hn]; exact ⟨cur, h1, h2, by simp⟩
      · rw [h1] at h3
        simp only [Option.some.injEq, Obj.cells.injEq] at h3
        obtain ⟨rfl, rfl, _⟩ := h3
        obtain ⟨cur3, h5, h6, _⟩ := hp
        exact ⟨cur3, h5, by omega, by simp⟩
  · exact hf.mod hm hg

theorem SliceAt.wide {α : Type} {cells : α → List Value} {sz : Nat} {R S : Nat → Prop} {w : World} {a : Option Addr} {l : List α} (h : SliceAt (Flat cells) sz R w a l) (hs : ∀ k, k < w.heap.size → R k → S k) : SliceAt (Flat cells) sz S w a l := by
  obtain ⟨rows, h1, h2, h3⟩ := h
  exact ⟨rows, h1.weaken hs, h2, h3⟩

theorem Filled.row {g e N : Nat} {w : World} {xs : List Value} (h : Filled g e N w xs) (off sz : Nat) (hn : off + sz ≤ N) : hasRow w g off sz = true := by
  obtain ⟨cur, h1, h2, _⟩ := h
  simp [hasRow, h1, h2, hn]
theorem Filled.open {g e N : Nat} {w : World} {xs : List Value} (h : Filled g e N w xs) : openRow w g = true := by
  obtain ⟨cur, h1, _⟩ := h
  simp [openRow, h1]
theorem Filled.pushRow {g e N : Nat} : ∀ (r : List Value) {w : World} {xs : List Value} (_ : Filled g e N w xs) {off : Nat} (_ : off = xs.length) (_ : off + r.length ≤ N), Filled g e N (w.setCells g off r) (xs ++ r)
  | [], w, xs, h, _, _, _ => by rw [List.append_nil]; exact h
  | v :: r, w, xs, h, off, ho, hn => by
    simp only [List.length_cons] at hn
    have h1 := h.push ho (by omega) v
    have h2 := Filled.pushRow r h1 (off := off + 1) (by simp [ho]) (by omega)
    have e : xs ++ v :: r = (xs ++ [v]) ++ r := by simp
    rw [e]
    exact h2

/-- What a copy of structs that hold slices hands back: its rows, each reading as its element in new blocks behind the rows' own. -/
def NewNest {α : Type} (rep : (Nat → Prop) → World → List Value → α → Prop) (e sz : Nat) (w : World) (l : List α) (en : Ending) (w' : World) : Prop :=
  ∃ g, ∃ rows : List (List Value), en = .returned (.slice (some ⟨g, 0, none⟩) l.length l.length) ∧ w.heap.size ≤ g ∧ w'.heap[g]? = some (.cells rows.flatten.toArray e (0, 0)) ∧ rows.length = l.length ∧ (∀ r ∈ rows, r.length = sz) ∧
    (∀ (i : Nat) (r : List Value) (x : α), rows[i]? = some r → l[i]? = some x → rep (fun b => w.heap.size ≤ b) w' r x) ∧ Mod (fun _ => False) w w'
theorem nest_of_blk {α : Type} {rep : World → List Value → α → Prop} {e sz g : Nat} {R : Nat → Prop} {w : World} {l : List α} {rows : List (List Value)} (hb : w.heap[g]? = some (.cells rows.flatten.toArray e (0, 0))) (hl : rows.length = l.length) (hr : ∀ r ∈ rows, r.length = sz)
    (h : ∀ (i : Nat) (r : List Value) (x : α), rows[i]? = some r → l[i]? = some x → rep w r x) (hR : R g) : SliceAt rep sz R w (some ⟨g, 0, none⟩) l :=
  ⟨rows, rowsAt_of_blk hb hr hR, hl, h⟩
/-- One row more. -/
theorem rows_succ {α : Type} {rep : World → List Value → α → Prop} {w : World} {l : List α} {k : Nat} {x : α} {rows : List (List Value)} {r : List Value} (hx : Hid (l[k]? = some x)) (hl : rows.length = k)
    (h : ∀ (i : Nat) (r : List Value) (x : α), rows[i]? = some r → l[i]? = some x → rep w r x) (hr : rep w r x) : ∀ (i : Nat) (r' : List Value) (y : α), (rows ++ [r])[i]? = some r' → l[i]? = some y → rep w r' y := by
  intro i r' y h1 h2
  by_cases hi : i < rows.length
  · rw [List.getElem?_append_left hi] at h1
    exact h i r' y h1 h2
  · have hi2 : i < (rows ++ [r]).length := (List.getElem?_eq_some_iff.1 h1).1
    simp only [List.length_append, List.length_singleton] at hi2
    have hik : i = k := by omega
    subst hik
    rw [hx.out] at h2
    simp only [Option.some.injEq] at h2
    subst h2
    rw [List.getElem?_append_right (by omega), hl, Nat.sub_self] at h1
    simp only [List.getElem?_cons_zero, Option.some.injEq] at h1
    subst h1
    exact hr
theorem lens_succ {rows : List (List Value)} {r : List Value} {sz : Nat} (h : ∀ r ∈ rows, r.length = sz) (hr : r.length = sz) : ∀ r' ∈ rows ++ [r], r'.length = sz := by
  intro r' h1
  simp only [List.mem_append, List.mem_singleton] at h1
  rcases h1 with h1 | rfl
  · exact h r' h1
  · exact hr
theorem rows_map {α : Type} {rep rep' : World → List Value → α → Prop} {w w' : World} {l : List α} {rows : List (List Value)} (h : ∀ (i : Nat) (r : List Value) (x : α), rows[i]? = some r → l[i]? = some x → rep w r x) (hr : ∀ r x, rep w r x → rep' w' r x) :
    ∀ (i : Nat) (r : List Value) (x : α), rows[i]? = some r → l[i]? = some x → rep' w' r x := fun i r x h1 h2 => hr r x (h i r x h1 h2)

/-- What a count hands back. -/
def szRes (left : Int) (n : Nat) : Int := if left < n then -1 else left - n
theorem szRes_less {left : Int} {n : Nat} (h : left < n) : szRes left n = -1 := if_pos h
theorem szRes_more {left : Int} {n : Nat} (h : (n : Int) ≤ left) : szRes left n = left - n := if_neg (by omega)
/-- Costs of the first elements. -/
def costs {α : Type} (f : α → Nat) (l : List α) : Nat := (l.map f).sum
theorem costs_succ {α : Type} (f : α → Nat) {l : List α} {k : Nat} {x : α} (hx : Hid (l[k]? = some x)) : costs f (l.take (k + 1)) = costs f (l.take k) + f x := by
  unfold costs
  rw [List.take_add_one, hx.out]
  simp
theorem costs_take {α : Type} (f : α → Nat) (l : List α) (k : Nat) : costs f (l.take k) ≤ costs f l := by
  have e : costs f l = costs f (l.take k) + costs f (l.drop k) := by
    unfold costs
    rw [← List.sum_append_nat, ← List.map_append, List.take_append_drop]
  omega
theorem costs_mem {α : Type} (f : α → Nat) {l : List α} {x : α} (h : x ∈ l) : f x ≤ costs f l := by
  unfold costs
  induction l with
  | nil => cases h
  | cons y l ih =>
    simp only [List.map_cons, List.sum_cons]
    rcases List.mem_cons.1 h with rfl | h
    · omega
    · have := ih h
      omega

/-- Blocks that may be written stay so; those whose type is not in P are as they were. -/
def KeepB (P : Nat → Prop) (w w' : World) : Prop := ∀ g e N, Filled g e N w [] → Filled g e N w' [] ∧ (¬ P e → w'.heap[g]? = w.heap[g]?)
theorem KeepB.refl (P : Nat → Prop) (w : World) : KeepB P w w := fun _ _ _ h => ⟨h, fun _ => rfl⟩
theorem KeepB.trans {P : Nat → Prop} {a b c : World} (h : KeepB P a b) (k : KeepB P b c) : KeepB P a c := fun g e N hf => by
  obtain ⟨h1, h2⟩ := h g e N hf
  obtain ⟨h3, h4⟩ := k g e N h1
  exact ⟨h3, fun hp => (h4 hp).trans (h2 hp)⟩
theorem KeepB.mono {P Q : Nat → Prop} {a b : World} (h : KeepB P a b) (hq : ∀ e, P e → Q e) : KeepB Q a b := fun g e N hf => ⟨(h g e N hf).1, fun hn => (h g e N hf).2 fun hp => hn (hq e hp)⟩
theorem KeepB.none {P : Nat → Prop} {a b : World} (h : Mod (fun _ => False) a b) : KeepB P a b := fun g _ _ hf => ⟨hf.mod h (fun f => f), fun _ => h.block g hf.size (fun f => f)⟩
theorem KeepB.set {P : Nat → Prop} {a w : World} (h : KeepB P a w) {b e N : Nat} (hb : Filled b e N a []) (he : P e) (j : Nat) (s : Option Nat) (v : Value) : KeepB P a (w.setCell ⟨b, j, s⟩ v) := fun g e' N' hf => by
  refine ⟨(h g e' N' hf).1.set b j s v, fun hn => ?_⟩
  have hg : g ≠ b := by
    rintro rfl
    refine hf.ne (g' := g) hb ?_ rfl
    rintro rfl
    exact hn he
  rw [Below.heap_setCell _ _ _ _ hg]
  exact (h g e' N' hf).2 hn
theorem Wr.keep {P : Nat → Prop} {e sz : Nat} {R : Nat → Prop} {w w' : World} {a : Option Addr} {n : Nat} (h : Wr e sz R w a n) (hk : KeepB P w w') : Wr e sz R w' a n := by
  rcases h with h | ⟨g, N, h1, h2, h3, h4⟩
  · exact .inl h
  · exact .inr ⟨g, N, h1, h2, h3, (hk g e N h4).1⟩
/-- A mark of a flat slice, told by what it leaves. -/
theorem mark_wr {P : Program} {f : FuncId} {args : Array Value} {E : Ending} {e sz n : Nat} {R : Nat → Prop} {w : World} {a : Option Addr} {ms : List Value} (h : Wr e sz R w a n)
    (hc : ∀ g N, (n = 0 ∨ a = some ⟨g, 0, none⟩ ∧ n * sz ≤ N ∧ Filled g e N w []) → Calls P f args w fun en w' => en = E ∧ Mod (fun k => k = g) w w' ∧ (n = 0 ∨ Filled g e N w' ms)) :
    Calls P f args w fun en w' => en = E ∧ Mod R w w' ∧ KeepB (fun t => t = e) w w' := by
  by_cases hn : n = 0
  · refine (hc w.heap.size 0 (.inl hn)).mono ?_
    rintro en w' ⟨he, hm, _⟩
    have hm' : Mod (fun _ => False) w w' := hm.mono (fun k hk (e : k = w.heap.size) => by omega)
    exact ⟨he, hm'.mono (fun _ _ f => f.elim), KeepB.none hm'⟩
  · rcases h with h | ⟨g, N, h1, h2, h3, h4⟩
    · exact (hn h).elim
    · refine (hc g N (.inr ⟨h1, h3, h4⟩)).mono ?_
      rintro en w' ⟨he, hm, hp⟩
      have hp' := hp.resolve_left hn
      refine ⟨he, hm.mono (fun k _ (e : k = g) => e ▸ h2), fun g' e' N' hf => ?_⟩
      by_cases hg : g' = g
      · subst hg
        obtain ⟨c1, q1, q2, _⟩ := hf
        obtain ⟨c2, q3, q4, _⟩ := h4
        rw [q1] at q3
        simp only [Option.some.injEq, Obj.cells.injEq] at q3
        obtain ⟨rfl, rfl, _⟩ := q3
        obtain ⟨c3, q5, q6, _⟩ := hp'
        exact ⟨⟨c3, q5, by omega, by simp⟩, fun hne => (hne rfl).elim⟩
      · exact ⟨hf.mod hm hg, fun _ => hm.block g' hf.size hg⟩
theorem SliceAt.wideBy {α : Type} {rep rep' : World → List Value → α → Prop} {sz : Nat} {R S : Nat → Prop} {w : World} {a : Option Addr} {l : List α} (h : SliceAt rep sz R w a l) (hs : ∀ k, k < w.heap.size → R k → S k) (hr : ∀ r x, rep w r x → rep' w r x) : SliceAt rep' sz S w a l := by
  obtain ⟨rows, h1, h2, h3⟩ := h
  exact ⟨rows, h1.weaken hs, h2, rows_map h3 hr⟩
/-- A copy, as the calls behind it use it. -/
theorem NewNest.use {α : Type} {rep : (Nat → Prop) → World → List Value → α → Prop} {e sz : Nat} {w w' : World} {l : List α} {en : Ending} (h : NewNest rep e sz w l en w') :
    ∃ g, en = .returned (.slice (some ⟨g, 0, none⟩) l.length l.length) ∧ w.heap.size ≤ g ∧ SliceAt (rep (fun b => w.heap.size ≤ b)) sz (fun b => w.heap.size ≤ b) w' (some ⟨g, 0, none⟩) l ∧ Wr e sz (fun b => w.heap.size ≤ b) w' (some ⟨g, 0, none⟩) l.length ∧ Mod (fun _ => False) w w' := by
  obtain ⟨g, rows, he, hg, hb, hl, hr, hrep, hm⟩ := h
  exact ⟨g, he, hg, nest_of_blk hb hl hr hrep hg, wr_of_blk hb (by rw [flatten_length hr, hl]) hg, hm⟩
theorem NewRows.wr {α : Type} {cells : α → List Value} {e sz : Nat} {w w' : World} {l : List α} {en : Ending} (h : NewRows e w l.length (l.map cells).flatten en w') (hc : ∀ x, (cells x).length = sz) :
    ∃ g, en = .returned (.slice (some ⟨g, 0, none⟩) l.length l.length) ∧ w.heap.size ≤ g ∧ SliceAt (Flat cells) sz (fun b => w.heap.size ≤ b) w' (some ⟨g, 0, none⟩) l ∧ Wr e sz (fun b => w.heap.size ≤ b) w' (some ⟨g, 0, none⟩) l.length ∧ Mod (fun _ => False) w w' := by
  obtain ⟨g, he, hg, hb, hm⟩ := h
  exact ⟨g, he, hg, (flat_of_blk hb hc).wide (fun k _ (hk : k = g) => hk ▸ hg), wr_of_blk hb (flat_length hc l) hg, hm⟩
theorem SliceAt.split2 {α : Type} {rep : World → List Value → α → Prop} {p : α → Prop} {sz : Nat} {R : Nat → Prop} {w : World} {a : Option Addr} {l : List α} (h : SliceAt (fun w r x => rep w r x ∧ p x) sz R w a l) : SliceAt rep sz R w a l ∧ ∀ x ∈ l, p x := by
  obtain ⟨rows, h1, h2, h3⟩ := h
  refine ⟨⟨rows, h1, h2, fun i r x hr hx => (h3 i r x hr hx).1⟩, fun x hx => ?_⟩
  obtain ⟨i, hi, rfl⟩ := List.mem_iff_getElem.1 hx
  have hr : rows[i]? = some (rows[i]'(by omega)) := List.getElem?_eq_getElem (by omega)
  exact (h3 i _ _ hr (List.getElem?_eq_getElem hi)).2

end Go.Proofs.YtpkpkojmaebflaaGreatDoor
namespace Go.Proofs.YtpkpkojmaebflaaGreatDoor
open Go.RowKit
attribute [local irreducible] Style.cells nodeRow

/-- A node's cells read as the node; o: its slices may be written. -/
def NodeIn (o : Bool) (R : Nat → Prop) (w : World) (cs : List Value) (x : Node) : Prop :=
  ∃ k c t c', cs = nodeRow x.up k x.kids.length c x.style x.measured t x.rules.length c' ∧ IntSlice R w k x.kids ∧ SliceAt (Flat Rule.cells) 3 R w t x.rules ∧ (o = true → Wr 3 1 R w k x.kids.length ∧ Wr 176 3 R w t x.rules.length)
theorem NodeIn.mod {o : Bool} {R S : Nat → Prop} {w w' : World} {cs : List Value} {x : Node} (h : NodeIn o R w cs x) (hm : Mod S w w') (hs : ∀ k, R k → ¬ S k) : NodeIn o R w' cs x := by
  obtain ⟨k, c, t, c', h1, h2, h3, h4⟩ := h
  exact ⟨k, c, t, c', h1, h2.flatMod hm hs, h3.flatMod hm hs, fun ho => ⟨(h4 ho).1.mod hm hs, (h4 ho).2.mod hm hs⟩⟩
theorem NodeIn.keep {o : Bool} {R : Nat → Prop} {w w' : World} {cs : List Value} {x : Node} (h : NodeIn o R w cs x) (hm : Mod (fun _ => False) w w') : NodeIn o R w' cs x := h.mod hm fun _ _ f => f
theorem NodeIn.wide {o : Bool} {R S : Nat → Prop} {w : World} {cs : List Value} {x : Node} (h : NodeIn o R w cs x) (hs : ∀ k, k < w.heap.size → R k → S k) : NodeIn o S w cs x := by
  obtain ⟨k, c, t, c', h1, h2, h3, h4⟩ := h
  exact ⟨k, c, t, c', h1, SliceAt.wide h2 hs, SliceAt.wide h3 hs, fun ho => ⟨(h4 ho).1.weaken hs, (h4 ho).2.weaken hs⟩⟩
theorem NodeIn.len {o : Bool} {R : Nat → Prop} {w : World} {cs : List Value} {x : Node} (h : NodeIn o R w cs x) : cs.length = 64 := by
  obtain ⟨k, c, t, c', rfl, _⟩ := h
  exact nodeRow_len _ _ _ _ _ _ _ _ _

set_option maxRecDepth 100000 in
set_option maxHeartbeats 4000000 in
theorem toNode_any (x : Node) (o : Bool) (cs : List Value) (R : Nat → Prop) (w : World) (hk : x.kids.length ≤ 1048576) (hr : x.rules.length ≤ 1048576) (h : NodeIn o R w cs x) :
    Calls Tryz.prog 77 #[.agg cs.toArray] w fun e w' => ∃ cs', e = .returned (.agg cs'.toArray) ∧ NodeIn true (fun b => w.heap.size ≤ b) w' cs' x ∧ Mod (fun _ => False) w w' := by
  obtain ⟨ka, kc, ra, rc, rfl, h1, h2, _⟩ := h
  have H1 := hid h1
  have H2 := hid h2
  clear h1 h2
  have hz := zero_as zero_node
  go_enter Tryz.func77, Tryz.ntmps77
  go_wp2_with fail
  refine (toIntS_any x.kids _ _ R _ hk (H1.out.flatKeep (by (repeat (first | with_reducible exact Mod.refl _ _ | with_reducible refine Mod.drewN ?_ _ | with_reducible refine Mod.drew ?_ | with_reducible refine Mod.alloc ?_ _ | ((with_reducible refine Mod.setNew ?_ ?_ _ _ _); (rotate_left; omega)) | with_reducible refine Mod.setAt ?_ _ _ _ ))))).mono ?_
  rintro e w1 ⟨g1, rfl, hg1, hb1, hm1⟩
  have hM1 : Mod (fun _ => False) w w1 := by (repeat (first | with_reducible exact Mod.refl _ _ | with_reducible refine Mod.drewN ?_ _ | with_reducible refine Mod.drew ?_ | with_reducible refine Mod.alloc ?_ _ | ((with_reducible refine Mod.setNew ?_ ?_ _ _ _); (rotate_left; omega)) | with_reducible refine Mod.setAt ?_ _ _ _ | with_reducible exact hm1 | with_reducible refine Mod.thenNone ?_ hm1 ))
  have hA1 : w1.heap[w.heap.size]? = some (.cells (nodeRow x.up ka x.kids.length kc x.style x.measured ra x.rules.length rc).toArray 129 (0, 0)) := hm1.blk (al3a _ _ _ _) (fun f => f)
  have hC1 : w1.heap[w.heap.size + 1]? = some (.cells (nodeRow 0 none 0 0 Style.zero false none 0 0).toArray 85 (0, 0)) := hm1.blk (al3b _ _ _ _) (fun f => f)
  have hD1 : w1.heap[w.heap.size + 1 + 1]? = some (.cells (nodeRow x.up none 0 0 Style.zero false none 0 0).toArray 85 (0, 0)) := hm1.blk (al3c _ _ _ _) (fun f => f)
  simp only [World.size_alloc] at hg1
  have hgA : w.heap.size + 1 + 1 < g1 := by omega
  obtain ⟨hr1, ho1, _⟩ := row_blk hA1 2 60 (by rw [nodeRow_len]; omega)
  rw [nodeRow_style] at ho1
  have d1 := blk_cell hD1 (nodeRow_1 _ _ _ _ _ _ _ _ _)
  have z1 := blk_free hD1 1
  have hr1_0 : w.heap.size < w1.heap.size := (Array.getElem?_eq_some_iff.1 hA1).1
  have hr1_1 : w.heap.size + 1 < w1.heap.size := (Array.getElem?_eq_some_iff.1 hC1).1
  have hr1_2 : w.heap.size + 1 + 1 < w1.heap.size := (Array.getElem?_eq_some_iff.1 hD1).1
  have hD1' := set_in (j := 1) (v := .slice (some ⟨g1, 0, none⟩) x.kids.length x.kids.length) hD1
  rw [nodeRow_set1] at hD1'
  have hA1' := set_far (c := w.heap.size + 1 + 1) (j := 1) (v := .slice (some ⟨g1, 0, none⟩) x.kids.length x.kids.length) hA1 (by omega)
  have hC1' := set_far (c := w.heap.size + 1 + 1) (j := 1) (v := .slice (some ⟨g1, 0, none⟩) x.kids.length x.kids.length) hC1 (by omega)
  have hb1' := set_far (c := w.heap.size + 1 + 1) (j := 1) (v := .slice (some ⟨g1, 0, none⟩) x.kids.length x.kids.length) hb1 (by omega)
  have hM1' : Mod (fun _ => False) w (w1.setCell ⟨w.heap.size + 1 + 1, 1, none⟩ (.slice (some ⟨g1, 0, none⟩) x.kids.length x.kids.length)) := hM1.setNew (by omega) _ _ _
  have HA := hid hA1'
  have HC := hid hC1'
  have HD := hid hD1'
  have HB := hid hb1'
  have HM := hid hM1'
  clear hm1 hg1 hA1 hC1 hD1 hb1 hM1 hA1' hC1' hD1' hb1' hM1'
  go_wp2_with fail
  rw [rowOf_setCell _ _ _ _ _ _ _ (by omega), ho1]
  refine (toStyle_row x.style _).mono ?_
  rintro e w2 ⟨rfl, hm2⟩
  have hA2 := hm2.blk HA.out (fun f => f)
  have hC2 := hm2.blk HC.out (fun f => f)
  have hD2 := hm2.blk HD.out (fun f => f)
  have hb2 := hm2.blk HB.out (fun f => f)
  have hM2 := HM.out.thenNone hm2
  clear HA HC HD HB HM hm2 hr1 ho1 d1 z1 hr1_0 hr1_1 hr1_2
  obtain ⟨hr3, _, hw3⟩ := row_blk hD2 2 60 (by rw [nodeRow_len]; omega)
  have hr2_0 : w.heap.size < w2.heap.size := (Array.getElem?_eq_some_iff.1 hA2).1
  have hr2_1 : w.heap.size + 1 < w2.heap.size := (Array.getElem?_eq_some_iff.1 hC2).1
  have hr2_2 : w.heap.size + 1 + 1 < w2.heap.size := (Array.getElem?_eq_some_iff.1 hD2).1
  have c62 := blk_cell hA2 (nodeRow_62 _ _ _ _ _ _ _ _ _)
  have c63 := blk_cell hA2 (nodeRow_63 _ _ _ _ _ _ _ _ _)
  have d62 := blk_cell hD2 (nodeRow_62 _ _ _ _ _ _ _ _ _)
  have z62 := blk_free hD2 62
  have e62 := (cell_setCells (w := w2) (w.heap.size + 1 + 1) 2 w.heap.size 62 x.style.cells (by omega)).trans c62
  have e63 := (cell_setCells (w := w2) (w.heap.size + 1 + 1) 2 w.heap.size 63 x.style.cells (by omega)).trans c63
  have f62 := (cell_style_apart w2 (w.heap.size + 1 + 1) 2 62 x.style (by omega)).trans d62
  clear c62 c63 d62
  have hD2' := set_in (j := 62) (v := .bool x.measured) (nodeRow_put (s' := x.style) hD2)
  rw [nodeRow_set62] at hD2'
  have hC2' : ((w2.setCells (w.heap.size + 1 + 1) 2 x.style.cells).setCell ⟨w.heap.size + 1 + 1, 62, none⟩ (.bool x.measured)).heap[w.heap.size + 1]? = _ := (set_far (c := w.heap.size + 1 + 1) ((setCells_far _ (by omega) _ _ _).trans hC2) (by omega))
  have hb2' : ((w2.setCells (w.heap.size + 1 + 1) 2 x.style.cells).setCell ⟨w.heap.size + 1 + 1, 62, none⟩ (.bool x.measured)).heap[g1]? = _ := (set_far (c := w.heap.size + 1 + 1) ((setCells_far _ (by omega) _ _ _).trans hb2) (by omega))
  have hM2' : Mod (fun _ => False) w ((w2.setCells (w.heap.size + 1 + 1) 2 x.style.cells).setCell ⟨w.heap.size + 1 + 1, 62, none⟩ (.bool x.measured)) := (hM2.setCellsNew (by omega) _ _).setNew (by omega) _ _ _
  have HC := hid hC2'
  have HD := hid hD2'
  have HB := hid hb2'
  have HM := hid hM2'
  clear hA2 hC2 hD2 hb2 hM2 hC2' hD2' hb2' hM2'
  go_wp2_with fail
  refine (toTable_any x.rules ra rc R _ hr (H2.out.flatKeep HM.out)).mono ?_
  rintro e w3 ⟨g2, rfl, hg2, hb3, hm3⟩
  have hC3 := hm3.blk HC.out (fun f => f)
  have hD3 := hm3.blk HD.out (fun f => f)
  have hB3 := hm3.blk HB.out (fun f => f)
  have hM3 := HM.out.thenNone hm3
  simp only [World.size_setCell, setCells_size] at hg2
  clear HC HD HB HM hm3 hr3 hw3 hr2_0 hr2_1 e62 e63 f62 z62
  obtain ⟨hq0, hq1, _⟩ := row_blk hD3 0 64 (by rw [nodeRow_len]; omega)
  rw [List.drop_zero, List.take_of_length_le (by rw [nodeRow_len]; omega)] at hq1
  obtain ⟨hq2, _, hq3⟩ := row_blk hC3 0 64 (by rw [nodeRow_len]; omega)
  have d63 := blk_cell hD3 (nodeRow_63 _ _ _ _ _ _ _ _ _)
  have z63 := blk_free hD3 63
  have HB := hid hB3
  have HB' := hid hb3
  have HM := hid hM3
  clear hC3 hD3 hB3 hb3 hM3
  dsimp only
  repeat (go_step)
  have hfin : ∀ b, b ≠ w.heap.size + 1 → b ≠ w.heap.size + 1 + 1 → (((w3.setCell ⟨w.heap.size + 1 + 1, 63, none⟩ (.slice (some ⟨g2, 0, none⟩) x.rules.length x.rules.length)).setCells (w.heap.size + 1) 0 (nodeRow x.up (some ⟨g1, 0, none⟩) x.kids.length x.kids.length x.style x.measured (some ⟨g2, 0, none⟩) x.rules.length x.rules.length))).heap[b]? = w3.heap[b]? := fun b h1 h2 =>
    (setCells_far _ h1 _ _ _).trans (Below.heap_setCell _ _ _ _ h2)
  have hB := (hfin g1 (by omega) (by omega)).trans HB.out
  have hB' := (hfin g2 (by omega) (by omega)).trans HB'.out
  refine bodyPost_ret (v := .agg (nodeRow x.up (some ⟨g1, 0, none⟩) x.kids.length x.kids.length x.style x.measured (some ⟨g2, 0, none⟩) x.rules.length x.rules.length).toArray) ?_ ?_ ?_
  · refine results_row (b := w.heap.size + 1) Tryz.results77 ?_ Tryz.underlying85 rfl (by kernel_rfl) ?_
    · rfl
    · refine range_setCells ?_
      simp only [hasRow_setCell, nodeRow_len, hq2]
  · rfl
  · refine ⟨_, rfl, ⟨_, _, _, _, rfl, ?_, ?_, fun _ => ⟨?_, ?_⟩⟩, ?_⟩
    · exact SliceAt.wide (flat_of_blk (sz := 1) hB (fun _ => rfl)) (fun k _ (hk : k = g1) => by show w.heap.size ≤ k; omega)
    · exact SliceAt.wide (flat_of_blk (sz := 3) hB' (fun _ => rfl)) (fun k _ (hk : k = g2) => by show w.heap.size ≤ k; omega)
    · exact wr_of_blk hB (icells_length _) (by show w.heap.size ≤ g1; omega)
    · exact wr_of_blk hB' (flat_length (cells := Rule.cells) (sz := 3) (fun _ => rfl) _) (by show w.heap.size ≤ g2; omega)
    · refine Mod.setCellsNew ?_ (by omega) _ _
      refine Mod.setNew ?_ (by omega) _ _ _
      exact HM.out

set_option maxRecDepth 100000 in
set_option maxHeartbeats 4000000 in
theorem eqNode_same (x : Node) (o o' : Bool) (cs cs' : List Value) (R S : Nat → Prop) (w : World) (hk : x.kids.length ≤ 1048576) (hr : x.rules.length ≤ 1048576) (h : NodeIn o R w cs x) (h' : NodeIn o' S w cs' x) :
    Calls Tryz.prog 94 #[.agg cs.toArray, .agg cs'.toArray] w fun e w' => e = .returned (.bool true) ∧ Mod (fun _ => False) w w' := by
  obtain ⟨ka, kc, ra, rc, rfl, h1, h2, _⟩ := h
  obtain ⟨ka', kc', ra', rc', rfl, h1', h2', _⟩ := h'
  have H1 := hid h1
  have H2 := hid h2
  have H1' := hid h1'
  have H2' := hid h2'
  clear h1 h2 h1' h2'
  go_enter Tryz.func94, Tryz.ntmps94
  go_wp2_with fail
  refine (eqIntS_any x.kids x.kids _ _ _ _ R S _ (by omega) (by omega) (H1.out.flatKeep (by (repeat (first | with_reducible exact Mod.refl _ _ | with_reducible refine Mod.drewN ?_ _ | with_reducible refine Mod.drew ?_ | with_reducible refine Mod.alloc ?_ _ | ((with_reducible refine Mod.setNew ?_ ?_ _ _ _); (rotate_left; omega)) | with_reducible refine Mod.setAt ?_ _ _ _ )))) (H1'.out.flatKeep (by (repeat (first | with_reducible exact Mod.refl _ _ | with_reducible refine Mod.drewN ?_ _ | with_reducible refine Mod.drew ?_ | with_reducible refine Mod.alloc ?_ _ | ((with_reducible refine Mod.setNew ?_ ?_ _ _ _); (rotate_left; omega)) | with_reducible refine Mod.setAt ?_ _ _ _ ))))).mono ?_
  rintro e w1 ⟨rfl, hm1⟩
  rw [decide_eq_true rfl]
  have hM1 : Mod (fun _ => False) w w1 := by (repeat (first | with_reducible exact Mod.refl _ _ | with_reducible refine Mod.drewN ?_ _ | with_reducible refine Mod.drew ?_ | with_reducible refine Mod.alloc ?_ _ | ((with_reducible refine Mod.setNew ?_ ?_ _ _ _); (rotate_left; omega)) | with_reducible refine Mod.setAt ?_ _ _ _ | with_reducible exact hm1 | with_reducible refine Mod.thenNone ?_ hm1 ))
  have hA1 : w1.heap[w.heap.size]? = some (.cells (nodeRow x.up ka x.kids.length kc x.style x.measured ra x.rules.length rc).toArray 85 (0, 0)) := hm1.blk (al2a _ _ _) (fun f => f)
  have hB1 : w1.heap[w.heap.size + 1]? = some (.cells (nodeRow x.up ka' x.kids.length kc' x.style x.measured ra' x.rules.length rc').toArray 85 (0, 0)) := hm1.blk (al2b _ _ _) (fun f => f)
  obtain ⟨hr1, ho1, _⟩ := row_blk hA1 2 60 (by rw [nodeRow_len]; omega)
  rw [nodeRow_style] at ho1
  obtain ⟨hr2, ho2, _⟩ := row_blk hB1 2 60 (by rw [nodeRow_len]; omega)
  rw [nodeRow_style] at ho2
  have HA := hid hA1
  have HB := hid hB1
  have HM := hid hM1
  clear hm1 hA1 hB1 hM1
  go_wp2_with fail
  refine (eqStyle_row x.style _).mono ?_
  rintro e w2 ⟨rfl, hm2⟩
  have hA2 := hm2.blk HA.out (fun f => f)
  have hB2 := hm2.blk HB.out (fun f => f)
  have hM2 := HM.out.thenNone hm2
  clear HA HB HM hm2 hr1 ho1 hr2 ho2
  have c62 := blk_cell hA2 (nodeRow_62 _ _ _ _ _ _ _ _ _)
  have c63 := blk_cell hA2 (nodeRow_63 _ _ _ _ _ _ _ _ _)
  have d62 := blk_cell hB2 (nodeRow_62 _ _ _ _ _ _ _ _ _)
  have d63 := blk_cell hB2 (nodeRow_63 _ _ _ _ _ _ _ _ _)
  have HM := hid hM2
  clear hA2 hB2 hM2
  go_wp2_with fail
  refine (eqTable_any x.rules x.rules _ _ _ _ R S _ (by omega) (by omega) (H2.out.flatKeep HM.out) (H2'.out.flatKeep HM.out)).mono ?_
  rintro e w3 ⟨rfl, hm3⟩
  rw [decide_eq_true rfl]
  go_wp2
  go_ret
  exact ⟨rfl, HM.out.thenNone hm3⟩

/-- What a node counts besides itself. -/
def Node.cost (x : Node) : Nat := x.kids.length + x.rules.length
set_option maxRecDepth 100000 in
set_option maxHeartbeats 4000000 in
theorem szNode_any (x : Node) (o : Bool) (cs : List Value) (R : Nat → Prop) (left : Int) (w : World) (h0 : 0 ≤ left) (h1 : left ≤ 1048576) (hk : x.kids.length ≤ 9223372036854775807) (hr : x.rules.length ≤ 9223372036854775807) (h : NodeIn o R w cs x) :
    Calls Tryz.prog 69 #[.agg cs.toArray, .int .i64 left] w fun e w' => e = .returned (.int .i64 (szRes left x.cost)) ∧ Mod (fun _ => False) w w' := by
  obtain ⟨ka, kc, ra, rc, rfl, _, _, _⟩ := h
  go_enter Tryz.func69, Tryz.ntmps69
  go_wp2_with fail
  refine (szIntS_any _ _ _ _ h0 h1 hk _).mono ?_
  rintro e w1 ⟨rfl, hw1⟩
  have hA : w1.heap[w.heap.size]? = some (.cells (nodeRow x.up ka x.kids.length kc x.style x.measured ra x.rules.length rc).toArray 129 (0, 0)) := by
    rw [← hw1]
    exact heap_alloc_new _ _
  have hM : Mod (fun _ => False) w w1 := by
    rw [← hw1]
    (repeat (first | with_reducible exact Mod.refl _ _ | with_reducible refine Mod.drewN ?_ _ | with_reducible refine Mod.drew ?_ | with_reducible refine Mod.alloc ?_ _ | ((with_reducible refine Mod.setNew ?_ ?_ _ _ _); (rotate_left; omega)) | with_reducible refine Mod.setAt ?_ _ _ _ ))
  have c63 := blk_cell hA (nodeRow_63 _ _ _ _ _ _ _ _ _)
  clear hA hw1
  by_cases hs : left < x.kids.length
  · rw [if_pos hs]
    have hc := hid (szRes_less (left := left) (n := x.cost) (by unfold Node.cost; omega))
    go_wp2
    go_ret
    exact ⟨ret_int hc.out.symm, hM⟩
  · rw [if_neg hs]
    have h2 : 0 ≤ left - x.kids.length := by omega
    go_wp2_with fail
    refine (szTable_any _ _ _ _ h2 (by omega) hr _).mono ?_
    rintro e w2 ⟨rfl, hm2⟩
    by_cases hs2 : left - x.kids.length < x.rules.length
    · rw [if_pos hs2]
      have hc := hid (szRes_less (left := left) (n := x.cost) (by unfold Node.cost; omega))
      go_wp2
      go_ret
      exact ⟨ret_int hc.out.symm, hM.thenNone hm2⟩
    · rw [if_neg hs2]
      have h3 : 0 ≤ left - x.kids.length - x.rules.length := by omega
      have hc := hid (show left - x.kids.length - x.rules.length = szRes left x.cost by rw [szRes_more (by unfold Node.cost; omega)]; unfold Node.cost; omega)
      go_wp2
      go_ret
      exact ⟨ret_int hc.out, hM.thenNone hm2⟩

end Go.Proofs.YtpkpkojmaebflaaGreatDoor
namespace Go.Proofs.YtpkpkojmaebflaaGreatDoor
open Go.RowKit
attribute [local irreducible] Style.cells nodeRow

abbrev NodeSlice (o : Bool) (R : Nat → Prop) (w : World) (a : Option Addr) (l : List Node) : Prop := SliceAt (NodeIn o R) 64 R w a l
theorem NodeSlice.mod {o : Bool} {R S : Nat → Prop} {w w' : World} {a : Option Addr} {l : List Node} (h : NodeSlice o R w a l) (hm : Mod S w w') (hs : ∀ k, R k → ¬ S k) : NodeSlice o R w' a l := SliceAt.mod h hm hs fun _ _ hx => hx.mod hm hs
theorem NodeSlice.keep {o : Bool} {R : Nat → Prop} {w w' : World} {a : Option Addr} {l : List Node} (h : NodeSlice o R w a l) (hm : Mod (fun _ => False) w w') : NodeSlice o R w' a l := h.mod hm fun _ _ f => f
/-- Lengths that a walk can bear. -/
def Node.fits (n : Nat) (x : Node) : Prop := x.kids.length ≤ n ∧ x.rules.length ≤ n

theorem info_Node : (Tryz.prog.info? 85).map (fun i => (i.zero, i.size, i.bytes)) = some (some (.agg (nodeRow 0 none 0 0 Style.zero false none 0 0).toArray), 64, 536) := by kernel_rfl
/-- A row of a slice, as the walk loads it. -/
theorem row_of_get {w : World} {b p : Nat} {r : List Value} {n : Nat} (hn : r.length = n) (h0 : 0 < n) (h : ∀ j v, r[j]? = some v → w.cell? ⟨b, p + j, none⟩ = some v) : hasRow w b p n = true ∧ rowOf w b p n = r.toArray := by
  subst hn
  exact rowOf_told h0 h

set_option maxRecDepth 100000 in
set_option maxHeartbeats 4000000 in
theorem toNodeS_any (l : List Node) (o : Bool) (a : Option Addr) (c : Nat) (R : Nat → Prop) (w : World) (hl : l.length ≤ 1048576) (hf : ∀ x ∈ l, x.fits 1048576) (h : NodeSlice o R w a l) :
    Calls Tryz.prog 47 #[.slice a l.length c] w (NewNest (NodeIn true) 85 64 w l) := by
  have H := hid h
  have HF := hid hf
  clear h hf
  obtain ⟨i0, hi, hz0, hz1, hz2⟩ := info_parts info_Node
  have hmk : ∀ W : World, (Instr.makeSlice 35 (.int .i64 (l.length : Int)) (.int .i64 (l.length : Int))).run Tryz.prog W = .ok (.slice (some ⟨W.heap.size, 0, none⟩) l.length l.length) (W.alloc (.cells (madeCells (Value.cells (.agg (nodeRow 0 none 0 0 Style.zero false none 0 0).toArray)) (l.length * 64)) 85)) := by
    intro W
    have := run_make (P := Tryz.prog) W 35 85 i0 _ Tryz.underlying35 hi hz0 .i64 .i64 l.length l.length (by omega) (by omega) (by rw [hz2]; omega) (by omega)
    simpa [hz1] using this
  clear hz0 hz1 hz2 hi
  go_enter Tryz.func47, Tryz.ntmps47
  go_wp2
  go_loopw [4] (fun i wr => ∃ (k : Nat) (rows : List (List Value)), k ≤ l.length ∧ i = .int .i64 k ∧ Hid (rows.length = k ∧ (∀ r ∈ rows, r.length = 64) ∧ (∀ (i : Nat) (r : List Value) (x : Node), rows[i]? = some r → l[i]? = some x → NodeIn true (fun b => w.heap.size < b) wr r x)) ∧ Filled w.heap.size 85 (l.length * 64) wr rows.flatten ∧ Mod (fun _ => False) w wr) (fun i _ => l.length - (intOf i).toNat)
  case atStart => exact ⟨0, [], by omega, rfl, hid ⟨rfl, (fun _ h => by simp at h), (fun _ _ _ h => by simp at h)⟩, Filled.made w _ _ _ (size_madeCells _ _), (Mod.refl _ w).alloc _⟩
  case round =>
    obtain ⟨k, rows, hk, rfl, HR, hF, hM⟩ := hrel
    clear hmk
    by_cases hlt : k < l.length
    · obtain ⟨b, o', x, r, rfl, hb, hbw, hx, hin, hrl', hc⟩ := (H.out.keep hM).get hlt
      obtain ⟨hxk, hxr⟩ := HF.out x (List.mem_of_getElem? hx.out)
      obtain ⟨q0, q1⟩ := row_of_get hrl' (by omega) hc
      have Hin := hid hin
      have hF0 := hF.size
      have HFl := hid hF
      have HM := hid hM
      clear hc hrl' hin hF hM
      go_wp2_with fail
      refine (toNode_any x o r R _ hxk hxr (Hin.out.keep (by (repeat (first | with_reducible exact Mod.refl _ _ | with_reducible refine Mod.drewN ?_ _ | with_reducible refine Mod.drew ?_ | with_reducible refine Mod.alloc ?_ _ | ((with_reducible refine Mod.setNew ?_ ?_ _ _ _); (rotate_left; omega)) | with_reducible refine Mod.setAt ?_ _ _ _ ))))).mono ?_
      rintro e w1 ⟨cs1, rfl, ⟨k1, c1, t1, c1', rfl, n1, n2, n3⟩, hm1⟩
      have HN := hid (show NodeIn true (fun b => wr.heap.size ≤ b) w1 (nodeRow x.up k1 x.kids.length c1 x.style x.measured t1 x.rules.length c1') x from ⟨k1, c1, t1, c1', rfl, n1, n2, n3⟩)
      have hF1 := HFl.out.mod hm1 (fun f => f)
      have q2 := hF1.row (k * 64) 64 (by omega)
      have q3 := hF1.open
      have HF1 := hid hF1
      have Hm1 := hid hm1
      clear n1 n2 n3 hF1 hm1 q0 q1
      go_wp2
      go_roundw
      case rel =>
        obtain ⟨hrl, hrs, hrep⟩ := HR.out
        have hmr : Mod (fun k => k = w.heap.size) wr (w1.setCells w.heap.size (k * 64) (nodeRow x.up k1 x.kids.length c1 x.style x.measured t1 x.rules.length c1')) := Mod.setCells (R := fun k => k = w.heap.size) (Hm1.out.mono (fun _ _ f => f.elim)) (fun _ => .inl rfl) _ _
        have hms : Mod (fun k => k = w.heap.size) w1 (w1.setCells w.heap.size (k * 64) (nodeRow x.up k1 x.kids.length c1 x.style x.measured t1 x.rules.length c1')) := Mod.setCells (R := fun k => k = w.heap.size) (Mod.refl _ _) (fun _ => .inl rfl) _ _
        refine ⟨k + 1, rows ++ [nodeRow x.up k1 x.kids.length c1 x.style x.measured t1 x.rules.length c1'], by omega, by go_num, hid ⟨by simp [hrl], lens_succ hrs (nodeRow_len _ _ _ _ _ _ _ _ _), ?_⟩, ?_, ?_⟩
        · refine rows_succ hx hrl (rows_map hrep fun r x hq => hq.mod hmr (fun k hk e => by omega)) ?_
          exact (HN.out.mod hms (fun k hk (e : k = w.heap.size) => by omega)).wide (fun k _ hk => by show w.heap.size < k; omega)
        · have hl0 := flatten_length hrs
          rw [hrl] at hl0
          rw [List.flatten_append, List.flatten_singleton]
          exact HF1.out.pushRow _ hl0.symm (by rw [nodeRow_len]; omega)
        · exact (HM.out.thenNone Hm1.out).setCellsNew (Nat.le_refl _) _ _
      case measure => simp [intOf]; omega
    · have hk' : k = l.length := by omega
      subst hk'
      obtain ⟨hrl, hrs, hrep⟩ := HR.out
      go_wp2
      go_ret
      refine ⟨w.heap.size, rows, rfl, Nat.le_refl _, ?_, hrl, hrs, rows_map hrep fun r x hq => hq.wide fun _ _ hk => Nat.le_of_lt hk, hM⟩
      exact hF.full (by rw [flatten_length hrs, hrl])

set_option maxRecDepth 100000 in
set_option maxHeartbeats 4000000 in
theorem eqNodeS_same (l : List Node) (o o' : Bool) (a a' : Option Addr) (c c' : Nat) (R S : Nat → Prop) (w : World) (hl : l.length ≤ 1048576) (hf : ∀ x ∈ l, x.fits 1048576) (h : NodeSlice o R w a l) (h' : NodeSlice o' S w a' l) :
    Calls Tryz.prog 62 #[.slice a l.length c, .slice a' l.length c'] w fun e w' => e = .returned (.bool true) ∧ Mod (fun _ => False) w w' := by
  have H := hid h
  have H' := hid h'
  have HF := hid hf
  clear h h' hf
  have hn0 : ((l.length : Int) != (l.length : Int)) = false := by simp
  go_enter Tryz.func62, Tryz.ntmps62
  go_wp2
  go_loopw [5] (fun i wr => ∃ k : Nat, k ≤ l.length ∧ i = .int .i64 k ∧ Mod (fun _ => False) w wr) (fun i _ => l.length - (intOf i).toNat)
  case atStart => exact ⟨0, by omega, rfl, Mod.refl _ _⟩
  case round =>
    obtain ⟨k, hk, rfl, hM⟩ := hrel
    by_cases hlt : k < l.length
    · obtain ⟨b, o1, x, r, rfl, hb, hbw, hx, hin, hrl, hc⟩ := (H.out.keep hM).get hlt
      obtain ⟨b', o2, y, r', rfl, hb', hbw', hy, hin', hrl', hd⟩ := (H'.out.keep hM).get hlt
      obtain rfl : x = y := Option.some.inj (hx.out.symm.trans hy.out)
      obtain ⟨hxk, hxr⟩ := HF.out x (List.mem_of_getElem? hx.out)
      obtain ⟨q0, q1⟩ := row_of_get hrl (by omega) hc
      obtain ⟨q2, q3⟩ := row_of_get hrl' (by omega) hd
      have Hin := hid hin
      have Hin' := hid hin'
      have HM := hid hM
      clear hc hd hrl hrl' hin hin' hM
      go_wp2
      go_still_tail 8, (by kernel_rfl)
      go_wp2_with fail
      try rw [q1]
      try rw [q3]
      refine (eqNode_same x o o' r r' R S _ hxk hxr (Hin.out.keep (by (repeat (first | with_reducible exact Mod.refl _ _ | with_reducible refine Mod.drewN ?_ _ | with_reducible refine Mod.drew ?_ | with_reducible refine Mod.alloc ?_ _ | ((with_reducible refine Mod.setNew ?_ ?_ _ _ _); (rotate_left; omega)) | with_reducible refine Mod.setAt ?_ _ _ _ )))) (Hin'.out.keep (by (repeat (first | with_reducible exact Mod.refl _ _ | with_reducible refine Mod.drewN ?_ _ | with_reducible refine Mod.drew ?_ | with_reducible refine Mod.alloc ?_ _ | ((with_reducible refine Mod.setNew ?_ ?_ _ _ _); (rotate_left; omega)) | with_reducible refine Mod.setAt ?_ _ _ _ ))))).mono ?_
      rintro e w1 ⟨rfl, hm1⟩
      go_wp2
      go_roundw
      case rel => exact ⟨k + 1, by omega, by go_num, HM.out.drew.thenNone hm1⟩
      case measure => simp [intOf]; omega
    · go_wp2
      go_ret
      exact ⟨rfl, hM⟩

set_option maxRecDepth 100000 in
set_option maxHeartbeats 4000000 in
theorem szNodeS_any (l : List Node) (o : Bool) (a : Option Addr) (c : Nat) (R : Nat → Prop) (left : Int) (w : World) (h0 : 0 ≤ left) (h1 : left ≤ 1048576) (hl : l.length ≤ 9223372036854775807) (hf : ∀ x ∈ l, x.fits 9223372036854775807) (h : NodeSlice o R w a l) :
    Calls Tryz.prog 34 #[.slice a l.length c, .int .i64 left] w fun e w' => e = .returned (.int .i64 (szRes left (l.length + costs Node.cost l))) ∧ Mod (fun _ => False) w w' := by
  have H := hid h
  have HF := hid hf
  clear h hf
  by_cases hs : left < l.length
  · rw [szRes_less (by omega)]
    have h2 : left - l.length < 0 := by omega
    have h3 : -9223372036854775807 ≤ left - l.length := by omega
    go_enter Tryz.func34, Tryz.ntmps34
    go_wp2
    go_ret
    exact ⟨rfl, Mod.refl _ _⟩
  · have h2 : 0 ≤ left - l.length := by omega
    go_enter Tryz.func34, Tryz.ntmps34
    go_wp2
    go_loopw [1, 5] (fun z i wr => ∃ (k : Nat) (q : Int), k ≤ l.length ∧ z = .int .i64 q ∧ Hid (q = left - l.length - costs Node.cost (l.take k)) ∧ 0 ≤ q ∧ q ≤ 1048576 ∧ i = .int .i64 k ∧ Mod (fun _ => False) w wr) (fun _ i _ => l.length - (intOf i).toNat)
    case atStart => exact ⟨0, _, by omega, rfl, hid (by simp [costs]), h2, by omega, rfl, Mod.refl _ _⟩
    case round =>
      obtain ⟨k, q, hk, rfl, hq, q1, q2, rfl, hM⟩ := hrel
      by_cases hlt : k < l.length
      · obtain ⟨b, o', x, r, rfl, hb, hbw, hx, hin, hrl', hc⟩ := (H.out.keep hM).get hlt
        obtain ⟨hxk, hxr⟩ := HF.out x (List.mem_of_getElem? hx.out)
        obtain ⟨p0, p1⟩ := row_of_get hrl' (by omega) hc
        have Hin := hid hin
        have HM := hid hM
        clear hc hrl' hin hM
        have hs1 := hid (costs_succ Node.cost hx)
        have hs2 := hid (costs_take Node.cost l (k + 1))
        go_wp2_with fail
        refine (szNode_any x o r R q _ q1 q2 hxk hxr (Hin.out.keep (by (repeat (first | with_reducible exact Mod.refl _ _ | with_reducible refine Mod.drewN ?_ _ | with_reducible refine Mod.drew ?_ | with_reducible refine Mod.alloc ?_ _ | ((with_reducible refine Mod.setNew ?_ ?_ _ _ _); (rotate_left; omega)) | with_reducible refine Mod.setAt ?_ _ _ _ ))))).mono ?_
        rintro e w1 ⟨rfl, hm1⟩
        have HM1 := hid (HM.out.thenNone hm1)
        clear hm1
        by_cases hsx : q < x.cost
        · rw [szRes_less hsx]
          have hlast := hid (szRes_less (left := left) (n := l.length + costs Node.cost l) (by have := hs1.out; have := hs2.out; have := hq.out; omega))
          go_wp2
          go_ret
          exact ⟨ret_int hlast.out.symm, HM1.out⟩
        · rw [szRes_more (by omega)]
          have q3 : 0 ≤ q - x.cost := by omega
          have hq2 := hid (show q - x.cost = left - l.length - costs Node.cost (l.take (k + 1)) by have := hs1.out; have := hq.out; omega)
          go_wp2
          go_roundw
          case rel => exact ⟨k + 1, _, by omega, rfl, hq2, q3, by omega, by go_num, HM1.out⟩
          case measure => simp [intOf]; omega
      · have hk' : k = l.length := by omega
        subst hk'
        have hlast := hid (show q = szRes left (l.length + costs Node.cost l) by have h5 := hq.out; rw [List.take_length] at h5; rw [szRes_more (by omega)]; omega)
        go_wp2
        go_ret
        exact ⟨ret_int hlast.out, hM⟩

end Go.Proofs.YtpkpkojmaebflaaGreatDoor
namespace Go.Proofs.YtpkpkojmaebflaaGreatDoor
open Go.RowKit
set_option linter.unusedVariables false
set_option linter.unusedSimpArgs false

set_option maxRecDepth 100000 in
theorem isNode_any (m : Nat) (a : Option Addr) (c : Nat) (n : Int) (w : World) : Calls Tryz.prog 59 #[.agg #[.slice a m c], .int .i64 n] w fun e w' => e = .returned (.bool (inB n 1 m)) ∧ Mod (fun _ => False) w w' := by
  refine calls_sx Tryz.func59 rfl rfl (fun a h1 h2 h3 => ((Fr.nil h1 h2).arg (h3 1 _ rfl)).arg (h3 0 _ rfl)) ?_
  repeat (first | refine SX.seq ?_ | refine SXl.nil ?_ | refine SX.region ?_ | refine SQ.thenNormal ?_ | (refine l_call ?_; (refine SXl.v (OpW.calls rfl (fun w _ => in_any _ _ _ _)) rfl ?_ ?_ ?_); rfl; rfl) | (refine l_load ?_; (refine SXl.v (OpW.load 0 rfl rfl rfl) rfl ?_ ?_ ?_); rfl; rfl) | (refine l_fieldAddr ?_; (refine SXl.v (OpW.fieldAddr rfl) rfl ?_ ?_ ?_); rfl; rfl) | (refine l_move ?_; (refine SXl.v (OpW.move rfl) rfl ?_ ?_ ?_); rfl; rfl) | (refine l_assign ?_; (refine SXl.v (OpW.assign rfl) rfl ?_ ?_ ?_); rfl; rfl) | (refine l_len ?_; (refine SXl.v (OpW.len rfl) rfl ?_ ?_ ?_); rfl; rfl) | (refine l_box ?_; refine SXl.box ?_ ?_ rfl rfl (fun g => ?_); rfl; rfl) | refine SX.ret ?_)
  refine SQ.body1 rfl rfl (fun w' hl => ⟨rfl, hl.mod⟩)
set_option maxRecDepth 100000 in
theorem sisNode_any (m : Nat) (a : Option Addr) (c : Nat) (n : Int) (w : World) : Calls Tryz.prog 44 #[.agg #[.slice a m c], .int .i64 n] w fun e w' => e = .returned (.bool (inB n 1 m)) ∧ Mod (fun _ => False) w w' := by
  refine calls_sx Tryz.func44 rfl rfl (fun a h1 h2 h3 => ((Fr.nil h1 h2).arg (h3 1 _ rfl)).arg (h3 0 _ rfl)) ?_
  repeat (first | refine SX.seq ?_ | refine SXl.nil ?_ | refine SX.region ?_ | refine SQ.thenNormal ?_ | (refine l_call ?_; (refine SXl.v (OpW.calls rfl (fun w _ => l01In_any _ _ _ _)) rfl ?_ ?_ ?_); rfl; rfl) | (refine l_load ?_; (refine SXl.v (OpW.load 0 rfl rfl rfl) rfl ?_ ?_ ?_); rfl; rfl) | (refine l_fieldAddr ?_; (refine SXl.v (OpW.fieldAddr rfl) rfl ?_ ?_ ?_); rfl; rfl) | (refine l_move ?_; (refine SXl.v (OpW.move rfl) rfl ?_ ?_ ?_); rfl; rfl) | (refine l_assign ?_; (refine SXl.v (OpW.assign rfl) rfl ?_ ?_ ?_); rfl; rfl) | (refine l_len ?_; (refine SXl.v (OpW.len rfl) rfl ?_ ?_ ?_); rfl; rfl) | (refine l_box ?_; refine SXl.box ?_ ?_ rfl rfl (fun g => ?_); rfl; rfl) | refine SX.ret ?_)
  refine SQ.body1 rfl rfl (fun w' hl => ⟨rfl, hl.mod⟩)

set_option maxRecDepth 100000 in
set_option maxHeartbeats 4000000 in
theorem node_any (m b o c k : Nat) (up : Int) (q : Option Addr) (qn qc : Nat) (st : Style) (me : Bool) (u : Option Addr) (un uc : Nat) (w : World) (hm : m ≤ 1048576) (hk : k < m) (hc : ∀ j v, (nodeRow up q qn qc st me u un uc)[j]? = some v → w.cell? ⟨b, o + k * 64 + j, none⟩ = some v) :
    Calls Tryz.prog 56 #[.agg #[.slice (some ⟨b, o, none⟩) m c], .int .i64 ((k + 1 : Nat) : Int)] w fun e w' => e = .returned (.agg (nodeRow up q qn qc st me u un uc).toArray) ∧ Mod (fun _ => False) w w' := by
  refine calls_sx Tryz.func56 rfl rfl (fun a h1 h2 h3 => ((Fr.nil h1 h2).arg (h3 1 _ rfl)).arg (h3 0 _ rfl)) ?_
  repeat (first | refine SX.seq ?_ | refine SXl.nil ?_ | refine SX.region ?_ | refine SQ.thenNormal ?_ | (refine l_load ?_; (first | refine SXl.v (OpW.loadRowOld rfl hc (nodeRow_len _ _ _ _ _ _ _ _ _) (Nat.succ_pos _) (fun h => h)) rfl ?_ ?_ ?_ | refine SXl.v (OpW.load 1 rfl rfl rfl) rfl ?_ ?_ ?_); rfl; rfl) | (refine l_indexAddr ?_; (refine SXl.v ((OpW.indexAddr (i := k) hk rfl (congrArg (fun i : Int => some (Value.int .i64 i)) (by omega : ((k + 1 : Nat) : Int) - 1 = (k : Int))))) rfl ?_ ?_ ?_); rfl; rfl) | (refine l_fieldAddr ?_; (refine SXl.v (OpW.fieldAddr rfl) rfl ?_ ?_ ?_); rfl; rfl) | (refine l_move ?_; (refine SXl.v (OpW.move rfl) rfl ?_ ?_ ?_); rfl; rfl) | (refine l_sub ?_; (refine SXl.v (OpW.subi rfl rfl (by omega) (by omega)) rfl ?_ ?_ ?_); rfl; rfl) | (refine l_alloc ?_; refine SXl.alloc ?_ ?_ (fun g => ?_); rfl; rfl) | (refine l_box ?_; refine SXl.box ?_ ?_ rfl rfl (fun g => ?_); rfl; rfl) | (refine l_store ?_; first | (refine SXl.storeAll 0 ?_ rfl rfl rfl rfl rfl rfl rfl ?_; rfl; simp only [List.set_cons_zero, List.set_cons_succ]) | (refine SXl.storeAll 1 ?_ rfl rfl rfl rfl rfl rfl rfl ?_; rfl; simp only [List.set_cons_zero, List.set_cons_succ]) | (refine SXl.storeAll 2 ?_ rfl rfl rfl rfl rfl rfl rfl ?_; rfl; simp only [List.set_cons_zero, List.set_cons_succ]) | (refine SXl.storeRow 0 ?_ rfl rfl rfl rfl rfl rfl rfl ?_; rfl; simp only [over, List.set_cons_zero, List.set_cons_succ]) | (refine SXl.storeRow 1 ?_ rfl rfl rfl rfl rfl rfl rfl ?_; rfl; simp only [over, List.set_cons_zero, List.set_cons_succ]) | (refine SXl.storeRow 2 ?_ rfl rfl rfl rfl rfl rfl rfl ?_; rfl; simp only [over, List.set_cons_zero, List.set_cons_succ])) | refine SX.ret ?_)
  refine SQ.bodyCell 0 rfl rfl rfl rfl (fun w' hl => ⟨rfl, hl.mod⟩)

set_option maxRecDepth 100000 in
set_option maxHeartbeats 4000000 in
theorem snode_any (m b o c k : Nat) (up : Int) (q : Option Addr) (qn qc : Nat) (st : Style) (me : Bool) (u : Option Addr) (un uc : Nat) (w : World) (hm : m ≤ 1048576) (hk : k < m) (hc : ∀ j v, (nodeRow up q qn qc st me u un uc)[j]? = some v → w.cell? ⟨b, o + k * 64 + j, none⟩ = some v) :
    Calls Tryz.prog 38 #[.agg #[.slice (some ⟨b, o, none⟩) m c], .int .i64 ((k + 1 : Nat) : Int)] w fun e w' => e = .returned (.agg (nodeRow up q qn qc st me u un uc).toArray) ∧ Mod (fun _ => False) w w' := by
  refine calls_sx Tryz.func38 rfl rfl (fun a h1 h2 h3 => ((Fr.nil h1 h2).arg (h3 1 _ rfl)).arg (h3 0 _ rfl)) ?_
  repeat (first | refine SX.seq ?_ | refine SXl.nil ?_ | refine SX.region ?_ | refine SQ.thenNormal ?_ | (refine l_load ?_; (first | refine SXl.v (OpW.loadRowOld rfl hc (nodeRow_len _ _ _ _ _ _ _ _ _) (Nat.succ_pos _) (fun h => h)) rfl ?_ ?_ ?_ | refine SXl.v (OpW.load 1 rfl rfl rfl) rfl ?_ ?_ ?_); rfl; rfl) | (refine l_indexAddr ?_; (refine SXl.v ((OpW.indexAddr (i := k) hk rfl (congrArg (fun i : Int => some (Value.int .i64 i)) (by omega : ((k + 1 : Nat) : Int) - 1 = (k : Int))))) rfl ?_ ?_ ?_); rfl; rfl) | (refine l_fieldAddr ?_; (refine SXl.v (OpW.fieldAddr rfl) rfl ?_ ?_ ?_); rfl; rfl) | (refine l_move ?_; (refine SXl.v (OpW.move rfl) rfl ?_ ?_ ?_); rfl; rfl) | (refine l_sub ?_; (refine SXl.v (OpW.subi rfl rfl (by omega) (by omega)) rfl ?_ ?_ ?_); rfl; rfl) | (refine l_alloc ?_; refine SXl.alloc ?_ ?_ (fun g => ?_); rfl; rfl) | (refine l_box ?_; refine SXl.box ?_ ?_ rfl rfl (fun g => ?_); rfl; rfl) | (refine l_store ?_; first | (refine SXl.storeAll 0 ?_ rfl rfl rfl rfl rfl rfl rfl ?_; rfl; simp only [List.set_cons_zero, List.set_cons_succ]) | (refine SXl.storeAll 1 ?_ rfl rfl rfl rfl rfl rfl rfl ?_; rfl; simp only [List.set_cons_zero, List.set_cons_succ]) | (refine SXl.storeAll 2 ?_ rfl rfl rfl rfl rfl rfl rfl ?_; rfl; simp only [List.set_cons_zero, List.set_cons_succ]) | (refine SXl.storeRow 0 ?_ rfl rfl rfl rfl rfl rfl rfl ?_; rfl; simp only [over, List.set_cons_zero, List.set_cons_succ]) | (refine SXl.storeRow 1 ?_ rfl rfl rfl rfl rfl rfl rfl ?_; rfl; simp only [over, List.set_cons_zero, List.set_cons_succ]) | (refine SXl.storeRow 2 ?_ rfl rfl rfl rfl rfl rfl rfl ?_; rfl; simp only [over, List.set_cons_zero, List.set_cons_succ])) | refine SX.ret ?_)
  refine SQ.bodyCell 0 rfl rfl rfl rfl (fun w' hl => ⟨rfl, hl.mod⟩)

instance : TFv Tryz.prog 85 0 0 := ⟨_, _, _, Tryz.underlying85, rfl, rfl, Tryz.underlying3, rfl⟩
/-- The depth of node n, counted on from d, within a number of steps. -/
def depthF (l : List Node) : Nat → Int → Nat → Int
  | 0, _, _ => 0
  | f + 1, n, d => if n = 0 then d else if inB n 1 l.length then depthF l f ((l[(n - 1).toNat]?).getD default).up (d + 1) else 0
theorem depthF_zero {l : List Node} {d : Nat} (h : d ≤ l.length) : depthF l (l.length + 1 - d) 0 d = d := by
  rw [show l.length + 1 - d = (l.length - d) + 1 by omega]; rfl
theorem depthF_out {l : List Node} {d : Nat} {n : Int} (h : d ≤ l.length) (h0 : n ≠ 0) (hq : inB n 1 l.length = false) : depthF l (l.length + 1 - d) n d = 0 := by
  rw [show l.length + 1 - d = (l.length - d) + 1 by omega]; simp [depthF, h0, hq]
theorem depthF_up {l : List Node} {d k : Nat} {x : Node} (h : d ≤ l.length) (hx : l[k]? = some x) : depthF l (l.length + 1 - d) ((k + 1 : Nat) : Int) d = depthF l (l.length + 1 - (d + 1)) x.up (d + 1) := by
  have hk := (List.getElem?_eq_some_iff.1 hx).1
  rw [show l.length + 1 - d = (l.length + 1 - (d + 1)) + 1 by omega]
  show (if ((k + 1 : Nat) : Int) = 0 then _ else if inB ((k + 1 : Nat) : Int) 1 l.length then _ else _) = _
  rw [if_neg (by omega), inB_true (by omega) (by omega), if_pos rfl, show (((k + 1 : Nat) : Int) - 1).toNat = k by omega, hx]; rfl
theorem depthF_over {l : List Node} {d : Nat} {n : Int} (h : l.length + 1 ≤ d) : depthF l (l.length + 1 - d) n d = 0 := by
  rw [show l.length + 1 - d = 0 by omega]; rfl
theorem depthF_end {l : List Node} {d : Nat} {n : Int} (h : d ≤ l.length) (hd : l.length ≤ d) (h0 : n ≠ 0) : depthF l (l.length + 1 - d) n d = 0 := by
  rw [show l.length + 1 - d = 0 + 1 by omega]; simp [depthF, h0]
theorem inB_node {n : Int} {m : Nat} (h : inB n 1 m = true) : ∃ k : Nat, n = ((k + 1 : Nat) : Int) ∧ k < m := by
  have := of_decide_eq_true h
  exact ⟨(n - 1).toNat, by omega, by omega⟩

set_option maxRecDepth 100000 in
set_option maxHeartbeats 4000000 in
theorem depthOf_any (l : List Node) (n0 : Int) (o : Bool) (a : Option Addr) (c : Nat) (R : Nat → Prop) (w : World) (hlen : l.length ≤ 1048576) (h : NodeSlice o R w a l) :
    Calls Tryz.prog 54 #[.agg #[.slice a l.length c], .int .i64 n0] w fun e w' => e = .returned (.int .i64 (depthF l (l.length + 1) n0 0)) ∧ Mod (fun _ => False) w w' := by
  refine calls_sx Tryz.func54 rfl rfl (fun a h1 h2 h3 => ((Fr.nil h1 h2).arg (h3 1 _ rfl)).arg (h3 0 _ rfl)) ?_
  repeat (first | refine SX.seq ?_ | refine SXl.nil ?_ | refine SX.region ?_ | refine SQ.thenNormal ?_ | refine SX.block ?_ | (refine l_assign ?_; (refine SXl.v (OpW.assign rfl) rfl ?_ ?_ ?_); rfl; rfl) | (refine l_box ?_; refine SXl.box ?_ ?_ rfl rfl (fun g => ?_); rfl; rfl))
  refine SX.loop3 (fun (d : Nat) (n : Int) (_ : Unit) => d ≤ l.length ∧ depthF l (l.length + 1) n0 0 = depthF l (l.length + 1 - d) n d) (fun d _ _ => l.length + 1 - d) (fun _ _ _ => [⟨g, [.slice a l.length c], 37⟩]) (fun _ _ _ => []) (fun _ _ _ => []) (fun d n _ => [(1, .int .i64 n), (2, .pointer (some ⟨g, 0, none⟩)), (5, .int .i64 (d : Nat))]) 0 n0 () ⟨by omega, rfl⟩ ?_ (fun _ hl => hl) ?_
  · (repeat (first | exact subF_nil _ | (refine subF_cons rfl ?_) | (refine subF_consv rfl (by rfl) ?_)))
  · rintro d n _ ⟨hd, he⟩
    have hf : d ≤ l.length := hd
    · by_cases h0 : n = 0
      · subst h0
        have hv := he.trans (depthF_zero hf)
        repeat (first | refine SX.seq ?_ | refine SXl.nil ?_ | refine SX.region ?_ | refine SQ.thenNormal ?_ | refine SX.condF rfl ?_ | (refine l_move ?_; (refine SXl.v (OpW.move rfl) rfl ?_ ?_ ?_); rfl; rfl) | (refine l_assign ?_; (refine SXl.v (OpW.assign rfl) rfl ?_ ?_ ?_); rfl; rfl) | (refine l_neq ?_; (refine SXl.v (OpW.neqF rfl rfl (by omega)) rfl ?_ ?_ ?_); rfl; rfl) | refine SX.ret ?_ | refine SX.exit ?_ | refine SQ.thenExit ?_ | refine SQ.blockExit ?_)
        refine SQ.body1 rfl rfl (fun w' hl => ⟨by rw [hv], hl.mod⟩)
      · cases hq : inB n 1 l.length
        · have hv := he.trans (depthF_out hf h0 hq)
          repeat (first | refine SX.seq ?_ | refine SXl.nil ?_ | refine SX.region ?_ | refine SQ.thenNormal ?_ | refine SX.block ?_ | refine SX.skip ?_ | refine SX.condT rfl ?_ | (refine SXl.no rfl rfl rfl ?_) | (refine l_call ?_; (refine SXl.v (OpW.call rfl (fun w hl => isNode_any _ _ _ _ _)) rfl ?_ ?_ ?_); rfl; rfl) | (refine l_load ?_; (refine SXl.v (OpW.loadAll 0 rfl rfl rfl) rfl ?_ ?_ ?_); rfl; rfl) | (refine l_move ?_; (refine SXl.v (OpW.move rfl) rfl ?_ ?_ ?_); rfl; rfl) | (refine l_assign ?_; (refine SXl.v (OpW.assign rfl) rfl ?_ ?_ ?_); rfl; rfl) | (refine l_add ?_; (refine SXl.v (OpW.succ rfl rfl (by omega)) rfl ?_ ?_ ?_); rfl; rfl) | (refine l_neq ?_; (refine SXl.v (OpW.neqT rfl rfl (by omega)) rfl ?_ ?_ ?_); rfl; rfl) | (refine l_not ?_; (refine SXl.v (OpW.not rfl) rfl ?_ ?_ ?_); rfl; rfl) | (refine l_pick ?_; (refine SXl.v (OpW.pick rfl rfl rfl) rfl ?_ ?_ ?_); rfl; rfl) | (rw [hq]) | refine SX.ret ?_ | refine SQ.thenRet ?_ | refine SQ.blockRet ?_)
          refine SQ.body1 rfl rfl (fun w' hl => ⟨by rw [hv]; first | done | rfl, hl.mod⟩)
        · by_cases hd2 : d + 1 ≤ l.length
          · obtain ⟨k, rfl, hlt⟩ := inB_node hq
            obtain ⟨b1, o1, x, r1, rfl, _, _, hxk, hr1, hl1, hc1⟩ := h.get hlt
            obtain ⟨ka, kc, ra, rc, rfl, hk1, ht1, _⟩ := hr1
            have hv := he.trans (depthF_up hf hxk.out)
            repeat (first | refine SX.seq ?_ | refine SXl.nil ?_ | refine SX.region ?_ | refine SQ.thenNormal ?_ | refine SX.block ?_ | refine SX.skip ?_ | refine SX.condT rfl ?_ | refine SX.condF rfl ?_ | (refine l_call ?_; (first | refine SXl.v (OpW.call rfl (fun w hl => isNode_any _ _ _ _ _)) rfl ?_ ?_ ?_ | refine SXl.v (OpW.call rfl (fun w hl => node_any _ _ _ _ k _ _ _ _ _ _ _ _ _ w (by omega) hlt (fun j v hv => hl.old (hc1 j v hv) (fun h => h)))) rfl ?_ ?_ ?_); rfl; rfl) | (refine l_field ?_; (refine SXl.v (OpW.field rfl (nodeRow_a0 _ _ _ _ _ _ _ _ _)) rfl ?_ ?_ ?_); rfl; rfl) | (refine l_load ?_; (first | refine SXl.v (OpW.load 0 rfl rfl rfl) rfl ?_ ?_ ?_ | refine SXl.v (OpW.loadAll 0 rfl rfl rfl) rfl ?_ ?_ ?_); rfl; rfl) | (refine l_fieldAddr ?_; (refine SXl.v (OpW.fieldAddr rfl) rfl ?_ ?_ ?_); rfl; rfl) | (refine l_move ?_; (refine SXl.v (OpW.move rfl) rfl ?_ ?_ ?_); rfl; rfl) | (refine l_assign ?_; (refine SXl.v (OpW.assign rfl) rfl ?_ ?_ ?_); rfl; rfl) | (refine l_len ?_; (refine SXl.v (OpW.len rfl) rfl ?_ ?_ ?_); rfl; rfl) | (refine l_add ?_; (refine SXl.v (OpW.succ rfl rfl (by omega)) rfl ?_ ?_ ?_); rfl; rfl) | (refine l_gtr ?_; (refine SXl.v (OpW.gtrF rfl rfl (by omega)) rfl ?_ ?_ ?_); rfl; rfl) | (refine l_neq ?_; (refine SXl.v (OpW.neqT rfl rfl (by omega)) rfl ?_ ?_ ?_); rfl; rfl) | (refine l_not ?_; (refine SXl.v (OpW.not rfl) rfl ?_ ?_ ?_); rfl; rfl) | (refine l_pick ?_; (refine SXl.v (OpW.pick rfl rfl rfl) rfl ?_ ?_ ?_); rfl; rfl) | (rw [hq]) | refine SQ.blockNormal ?_)
            refine SQ.round3 (d + 1) x.up () ⟨by omega, hv⟩ (by omega) ?_ (fun _ hl => hl)
            (repeat (first | exact subF_nil _ | (refine subF_cons rfl ?_) | (refine subF_consv rfl (by rfl) ?_)))
          · have hv := he.trans (depthF_end (d := d) (n := n) hf (by omega) h0)
            repeat (first | refine SX.seq ?_ | refine SXl.nil ?_ | refine SX.region ?_ | refine SQ.thenNormal ?_ | refine SX.block ?_ | refine SX.skip ?_ | refine SX.condT rfl ?_ | (refine l_call ?_; (refine SXl.v (OpW.call rfl (fun w hl => isNode_any _ _ _ _ _)) rfl ?_ ?_ ?_); rfl; rfl) | (refine l_load ?_; (first | refine SXl.v (OpW.load 0 rfl rfl rfl) rfl ?_ ?_ ?_ | refine SXl.v (OpW.loadAll 0 rfl rfl rfl) rfl ?_ ?_ ?_); rfl; rfl) | (refine l_fieldAddr ?_; (refine SXl.v (OpW.fieldAddr rfl) rfl ?_ ?_ ?_); rfl; rfl) | (refine l_move ?_; (refine SXl.v (OpW.move rfl) rfl ?_ ?_ ?_); rfl; rfl) | (refine l_assign ?_; (refine SXl.v (OpW.assign rfl) rfl ?_ ?_ ?_); rfl; rfl) | (refine l_len ?_; (refine SXl.v (OpW.len rfl) rfl ?_ ?_ ?_); rfl; rfl) | (refine l_add ?_; (refine SXl.v (OpW.succ rfl rfl (by omega)) rfl ?_ ?_ ?_); rfl; rfl) | (refine l_gtr ?_; (refine SXl.v (OpW.gtrT rfl rfl (by omega)) rfl ?_ ?_ ?_); rfl; rfl) | (refine l_neq ?_; (refine SXl.v (OpW.neqT rfl rfl (by omega)) rfl ?_ ?_ ?_); rfl; rfl) | (refine l_not ?_; (refine SXl.v (OpW.not rfl) rfl ?_ ?_ ?_); rfl; rfl) | (refine l_pick ?_; (refine SXl.v (OpW.pick rfl rfl rfl) rfl ?_ ?_ ?_); rfl; rfl) | (rw [hq]) | refine SX.ret ?_ | refine SQ.thenRet ?_ | refine SQ.blockRet ?_)
            refine SQ.body1 rfl rfl (fun w' hl => ⟨by rw [hv]; first | done | rfl, hl.mod⟩)

set_option maxRecDepth 100000 in
set_option maxHeartbeats 4000000 in
theorem sdepthOf_any (l : List Node) (n0 : Int) (o : Bool) (a : Option Addr) (c : Nat) (R : Nat → Prop) (w : World) (hlen : l.length ≤ 1048576) (h : NodeSlice o R w a l) :
    Calls Tryz.prog 41 #[.agg #[.slice a l.length c], .int .i64 n0] w fun e w' => e = .returned (.int .i64 (depthF l (l.length + 1) n0 0)) ∧ Mod (fun _ => False) w w' := by
  refine calls_sx Tryz.func41 rfl rfl (fun a h1 h2 h3 => ((Fr.nil h1 h2).arg (h3 1 _ rfl)).arg (h3 0 _ rfl)) ?_
  repeat (first | refine SX.seq ?_ | refine SXl.nil ?_ | refine SX.region ?_ | refine SQ.thenNormal ?_ | refine SX.block ?_ | (refine l_assign ?_; (refine SXl.v (OpW.assign rfl) rfl ?_ ?_ ?_); rfl; rfl) | (refine l_box ?_; refine SXl.box ?_ ?_ rfl rfl (fun g => ?_); rfl; rfl))
  refine SX.loop3 (fun (d : Nat) (n : Int) (_ : Unit) => d ≤ l.length + 1 ∧ depthF l (l.length + 1) n0 0 = depthF l (l.length + 1 - d) n d) (fun d _ _ => l.length + 1 - d) (fun _ _ _ => [⟨g, [.slice a l.length c], 37⟩]) (fun _ _ _ => []) (fun _ _ _ => []) (fun d n _ => [(1, .int .i64 n), (2, .pointer (some ⟨g, 0, none⟩)), (5, .int .i64 (d : Nat))]) 0 n0 () ⟨by omega, rfl⟩ ?_ (fun _ hl => hl) ?_
  · (repeat (first | exact subF_nil _ | (refine subF_cons rfl ?_) | (refine subF_consv rfl (by rfl) ?_)))
  · rintro d n _ ⟨hd, he⟩
    · by_cases hf : d ≤ l.length
      · by_cases h0 : n = 0
        · subst h0
          have hv := he.trans (depthF_zero hf)
          repeat (first | refine SX.seq ?_ | refine SXl.nil ?_ | refine SX.region ?_ | refine SQ.thenNormal ?_ | refine SX.block ?_ | refine SX.skip ?_ | refine SX.condT rfl ?_ | (refine l_load ?_; (refine SXl.v (OpW.load 0 rfl rfl rfl) rfl ?_ ?_ ?_); rfl; rfl) | (refine l_fieldAddr ?_; (refine SXl.v (OpW.fieldAddr rfl) rfl ?_ ?_ ?_); rfl; rfl) | (refine l_move ?_; (refine SXl.v (OpW.move rfl) rfl ?_ ?_ ?_); rfl; rfl) | (refine l_assign ?_; (refine SXl.v (OpW.assign rfl) rfl ?_ ?_ ?_); rfl; rfl) | (refine l_len ?_; (refine SXl.v (OpW.len rfl) rfl ?_ ?_ ?_); rfl; rfl) | (refine l_eql ?_; (refine SXl.v (OpW.eqlT rfl rfl (by omega)) rfl ?_ ?_ ?_); rfl; rfl) | (refine l_leq ?_; (refine SXl.v (OpW.leqT rfl rfl (by omega)) rfl ?_ ?_ ?_); rfl; rfl) | refine SX.ret ?_ | refine SQ.thenRet ?_ | refine SQ.blockRet ?_)
          refine SQ.body1 rfl rfl (fun w' hl => ⟨by rw [hv], hl.mod⟩)
        · cases hq : inB n 1 l.length
          · have hv := he.trans (depthF_out hf h0 hq)
            repeat (first | refine SX.seq ?_ | refine SXl.nil ?_ | refine SX.region ?_ | refine SQ.thenNormal ?_ | refine SX.block ?_ | refine SX.skip ?_ | refine SX.condT rfl ?_ | refine SX.condF rfl ?_ | (refine l_call ?_; (refine SXl.v (OpW.call rfl (fun w hl => sisNode_any _ _ _ _ _)) rfl ?_ ?_ ?_); rfl; rfl) | (refine l_load ?_; (first | refine SXl.v (OpW.load 0 rfl rfl rfl) rfl ?_ ?_ ?_ | refine SXl.v (OpW.loadAll 0 rfl rfl rfl) rfl ?_ ?_ ?_); rfl; rfl) | (refine l_fieldAddr ?_; (refine SXl.v (OpW.fieldAddr rfl) rfl ?_ ?_ ?_); rfl; rfl) | (refine l_move ?_; (refine SXl.v (OpW.move rfl) rfl ?_ ?_ ?_); rfl; rfl) | (refine l_assign ?_; (refine SXl.v (OpW.assign rfl) rfl ?_ ?_ ?_); rfl; rfl) | (refine l_len ?_; (refine SXl.v (OpW.len rfl) rfl ?_ ?_ ?_); rfl; rfl) | (refine l_eql ?_; (refine SXl.v (OpW.eqlF rfl rfl (by omega)) rfl ?_ ?_ ?_); rfl; rfl) | (refine l_leq ?_; (refine SXl.v (OpW.leqT rfl rfl (by omega)) rfl ?_ ?_ ?_); rfl; rfl) | (refine l_not ?_; (refine SXl.v (OpW.not rfl) rfl ?_ ?_ ?_); rfl; rfl) | (rw [hq]) | refine SX.ret ?_ | refine SQ.thenRet ?_ | refine SQ.blockRet ?_)
            refine SQ.body1 rfl rfl (fun w' hl => ⟨by rw [hv]; first | done | rfl, hl.mod⟩)
          · obtain ⟨k, rfl, hlt⟩ := inB_node hq
            obtain ⟨b1, o1, x, r1, rfl, _, _, hxk, hr1, hl1, hc1⟩ := h.get hlt
            obtain ⟨ka, kc, ra, rc, rfl, hk1, ht1, _⟩ := hr1
            have hv := he.trans (depthF_up hf hxk.out)
            repeat (first | refine SX.seq ?_ | refine SXl.nil ?_ | refine SX.region ?_ | refine SQ.thenNormal ?_ | refine SX.block ?_ | refine SX.skip ?_ | refine SX.condT rfl ?_ | refine SX.condF rfl ?_ | (refine l_call ?_; (first | refine SXl.v (OpW.call rfl (fun w hl => sisNode_any _ _ _ _ _)) rfl ?_ ?_ ?_ | refine SXl.v (OpW.call rfl (fun w hl => snode_any _ _ _ _ k _ _ _ _ _ _ _ _ _ w (by omega) hlt (fun j v hv => hl.old (hc1 j v hv) (fun h => h)))) rfl ?_ ?_ ?_); rfl; rfl) | (refine l_field ?_; (refine SXl.v (OpW.field rfl (nodeRow_a0 _ _ _ _ _ _ _ _ _)) rfl ?_ ?_ ?_); rfl; rfl) | (refine l_load ?_; (first | refine SXl.v (OpW.load 0 rfl rfl rfl) rfl ?_ ?_ ?_ | refine SXl.v (OpW.loadAll 0 rfl rfl rfl) rfl ?_ ?_ ?_); rfl; rfl) | (refine l_fieldAddr ?_; (refine SXl.v (OpW.fieldAddr rfl) rfl ?_ ?_ ?_); rfl; rfl) | (refine l_move ?_; (refine SXl.v (OpW.move rfl) rfl ?_ ?_ ?_); rfl; rfl) | (refine l_assign ?_; (refine SXl.v (OpW.assign rfl) rfl ?_ ?_ ?_); rfl; rfl) | (refine l_len ?_; (refine SXl.v (OpW.len rfl) rfl ?_ ?_ ?_); rfl; rfl) | (refine l_add ?_; (refine SXl.v (OpW.succ rfl rfl (by omega)) rfl ?_ ?_ ?_); rfl; rfl) | (refine l_eql ?_; (refine SXl.v (OpW.eqlF rfl rfl (by omega)) rfl ?_ ?_ ?_); rfl; rfl) | (refine l_leq ?_; (refine SXl.v (OpW.leqT rfl rfl (by omega)) rfl ?_ ?_ ?_); rfl; rfl) | (refine l_not ?_; (refine SXl.v (OpW.not rfl) rfl ?_ ?_ ?_); rfl; rfl) | (rw [hq]) | refine SQ.blockNormal ?_)
            refine SQ.round3 (d + 1) x.up () ⟨by omega, hv⟩ (by omega) ?_ (fun _ hl => hl)
            (repeat (first | exact subF_nil _ | (refine subF_cons rfl ?_) | (refine subF_consv rfl (by rfl) ?_)))
      · have hv := he.trans (depthF_over (n := n) (by omega))
        repeat (first | refine SX.seq ?_ | refine SXl.nil ?_ | refine SX.region ?_ | refine SQ.thenNormal ?_ | refine SX.condF rfl ?_ | (refine l_load ?_; (refine SXl.v (OpW.load 0 rfl rfl rfl) rfl ?_ ?_ ?_); rfl; rfl) | (refine l_fieldAddr ?_; (refine SXl.v (OpW.fieldAddr rfl) rfl ?_ ?_ ?_); rfl; rfl) | (refine l_move ?_; (refine SXl.v (OpW.move rfl) rfl ?_ ?_ ?_); rfl; rfl) | (refine l_assign ?_; (refine SXl.v (OpW.assign rfl) rfl ?_ ?_ ?_); rfl; rfl) | (refine l_len ?_; (refine SXl.v (OpW.len rfl) rfl ?_ ?_ ?_); rfl; rfl) | (refine l_leq ?_; (refine SXl.v (OpW.leqF rfl rfl (by omega)) rfl ?_ ?_ ?_); rfl; rfl) | refine SX.ret ?_ | refine SX.exit ?_ | refine SQ.thenExit ?_ | refine SQ.blockExit ?_)
        refine SQ.body1 rfl rfl (fun w' hl => ⟨by rw [hv]; first | done | rfl, hl.mod⟩)

end Go.Proofs.YtpkpkojmaebflaaGreatDoor
namespace Go.Proofs.YtpkpkojmaebflaaGreatDoor
open Go.RowKit
set_option linter.unusedVariables false
set_option linter.unusedSimpArgs false

def styleOk (x : Style) : Bool := (inB x.dir 1 4 && inB x.wrap 1 3 && inB x.justify 1 6 && inB x.items 1 5 && inB x.self 0 5 && inB x.content 1 6) && (inB x.order (-1000) 1000 && inB x.grow 0 1000 && inB x.shrink 0 1000 && inB x.ratio 0 6400) && (sizeOk x.basis && sizeOk x.width && sizeOk x.height && sizeOk x.minWidth && sizeOk x.minHeight && sizeOk x.maxWidth && sizeOk x.maxHeight) && (sidesOk x.margin && sidesOk x.inset && edgesOk x.pad && edgesOk x.border && inB x.rowGap 0 1048576 && inB x.colGap 0 1048576)
set_option maxRecDepth 100000 in
set_option maxHeartbeats 8000000 in
theorem sstyleOk_any (x : Style) (w : World) : Calls Tryz.prog 71 #[.agg #[.int .i64 x.dir, .int .i64 x.wrap, .int .i64 x.justify, .int .i64 x.items, .int .i64 x.self, .int .i64 x.content, .bool x.apart, .bool x.hidden, .int .i64 x.order, .int .i64 x.grow, .int .i64 x.shrink, .int .i64 x.basis.kind, .int .i64 x.basis.n, .int .i64 x.width.kind, .int .i64 x.width.n, .int .i64 x.height.kind, .int .i64 x.height.n, .int .i64 x.minWidth.kind, .int .i64 x.minWidth.n, .int .i64 x.minHeight.kind, .int .i64 x.minHeight.n, .int .i64 x.maxWidth.kind, .int .i64 x.maxWidth.n, .int .i64 x.maxHeight.kind, .int .i64 x.maxHeight.n, .int .i64 x.ratio, .int .i64 x.margin.left.kind, .int .i64 x.margin.left.n, .int .i64 x.margin.top.kind, .int .i64 x.margin.top.n, .int .i64 x.margin.right.kind, .int .i64 x.margin.right.n, .int .i64 x.margin.bottom.kind, .int .i64 x.margin.bottom.n, .int .i64 x.margin.start.kind, .int .i64 x.margin.start.n, .int .i64 x.margin.stop.kind, .int .i64 x.margin.stop.n, .int .i64 x.inset.left.kind, .int .i64 x.inset.left.n, .int .i64 x.inset.top.kind, .int .i64 x.inset.top.n, .int .i64 x.inset.right.kind, .int .i64 x.inset.right.n, .int .i64 x.inset.bottom.kind, .int .i64 x.inset.bottom.n, .int .i64 x.inset.start.kind, .int .i64 x.inset.start.n, .int .i64 x.inset.stop.kind, .int .i64 x.inset.stop.n, .int .i64 x.pad.left, .int .i64 x.pad.top, .int .i64 x.pad.right, .int .i64 x.pad.bottom, .int .i64 x.border.left, .int .i64 x.border.top, .int .i64 x.border.right, .int .i64 x.border.bottom, .int .i64 x.rowGap, .int .i64 x.colGap]] w fun e w' => e = .returned (.bool (styleOk x)) ∧ Mod (fun _ => False) w w' := by
  refine calls_sx Tryz.func71 rfl rfl (fun a h1 h2 h3 => ((Fr.nil h1 h2).arg (h3 0 _ rfl))) ?_
  cases q0 : inB x.dir 1 4
  · have hv : styleOk x = false := by simp [styleOk, q0]
    repeat (first | refine SX.seq ?_ | refine SXl.nil ?_ | refine SX.region ?_ | refine SQ.thenNormal ?_ | refine SX.condT rfl ?_ | (refine SXl.no rfl rfl rfl ?_) | (refine l_call ?_; (refine SXl.v (OpW.calls rfl (fun w _ => l01In_any _ _ _ _)) rfl ?_ ?_ ?_); rfl; rfl) | (refine l_load ?_; (refine SXl.v (OpW.load 0 rfl rfl rfl) rfl ?_ ?_ ?_); rfl; rfl) | (refine l_fieldAddr ?_; (refine SXl.v (OpW.fieldAddr rfl) rfl ?_ ?_ ?_); rfl; rfl) | (refine l_move ?_; (refine SXl.v (OpW.move rfl) rfl ?_ ?_ ?_); rfl; rfl) | (refine l_assign ?_; (refine SXl.v (OpW.assign rfl) rfl ?_ ?_ ?_); rfl; rfl) | (refine l_not ?_; (refine SXl.v (OpW.not rfl) rfl ?_ ?_ ?_); rfl; rfl) | (refine l_pick ?_; (refine SXl.v (OpW.pick rfl rfl rfl) rfl ?_ ?_ ?_); rfl; rfl) | (refine l_box ?_; refine SXl.box ?_ ?_ rfl rfl (fun g => ?_); rfl; rfl) | (rw [q0]) | refine SX.ret ?_ | refine SQ.thenRet ?_)
    refine SQ.body1 rfl rfl (fun w' hl => ⟨ret_bool hv.symm, hl.mod⟩)
  cases q1 : inB x.wrap 1 3
  · have hv : styleOk x = false := by simp [styleOk, q1]
    repeat (first | refine SX.seq ?_ | refine SXl.nil ?_ | refine SX.region ?_ | refine SQ.thenNormal ?_ | refine SX.condT rfl ?_ | (refine SXl.no rfl rfl rfl ?_) | (refine l_call ?_; (refine SXl.v (OpW.calls rfl (fun w _ => l01In_any _ _ _ _)) rfl ?_ ?_ ?_); rfl; rfl) | (refine l_load ?_; (refine SXl.v (OpW.load 0 rfl rfl rfl) rfl ?_ ?_ ?_); rfl; rfl) | (refine l_fieldAddr ?_; (refine SXl.v (OpW.fieldAddr rfl) rfl ?_ ?_ ?_); rfl; rfl) | (refine l_move ?_; (refine SXl.v (OpW.move rfl) rfl ?_ ?_ ?_); rfl; rfl) | (refine l_assign ?_; (refine SXl.v (OpW.assign rfl) rfl ?_ ?_ ?_); rfl; rfl) | (refine l_not ?_; (refine SXl.v (OpW.not rfl) rfl ?_ ?_ ?_); rfl; rfl) | (refine l_pick ?_; (refine SXl.v (OpW.pick rfl rfl rfl) rfl ?_ ?_ ?_); rfl; rfl) | (refine l_box ?_; refine SXl.box ?_ ?_ rfl rfl (fun g => ?_); rfl; rfl) | ((first | rw [q0] | rw [q1])) | refine SX.ret ?_ | refine SQ.thenRet ?_)
    refine SQ.body1 rfl rfl (fun w' hl => ⟨ret_bool hv.symm, hl.mod⟩)
  cases q2 : inB x.justify 1 6
  · have hv : styleOk x = false := by simp [styleOk, q2]
    repeat (first | refine SX.seq ?_ | refine SXl.nil ?_ | refine SX.region ?_ | refine SQ.thenNormal ?_ | refine SX.condT rfl ?_ | (refine SXl.no rfl rfl rfl ?_) | (refine l_call ?_; (refine SXl.v (OpW.calls rfl (fun w _ => l01In_any _ _ _ _)) rfl ?_ ?_ ?_); rfl; rfl) | (refine l_load ?_; (refine SXl.v (OpW.load 0 rfl rfl rfl) rfl ?_ ?_ ?_); rfl; rfl) | (refine l_fieldAddr ?_; (refine SXl.v (OpW.fieldAddr rfl) rfl ?_ ?_ ?_); rfl; rfl) | (refine l_move ?_; (refine SXl.v (OpW.move rfl) rfl ?_ ?_ ?_); rfl; rfl) | (refine l_assign ?_; (refine SXl.v (OpW.assign rfl) rfl ?_ ?_ ?_); rfl; rfl) | (refine l_not ?_; (refine SXl.v (OpW.not rfl) rfl ?_ ?_ ?_); rfl; rfl) | (refine l_pick ?_; (refine SXl.v (OpW.pick rfl rfl rfl) rfl ?_ ?_ ?_); rfl; rfl) | (refine l_box ?_; refine SXl.box ?_ ?_ rfl rfl (fun g => ?_); rfl; rfl) | ((first | rw [q0] | rw [q1] | rw [q2])) | refine SX.ret ?_ | refine SQ.thenRet ?_)
    refine SQ.body1 rfl rfl (fun w' hl => ⟨ret_bool hv.symm, hl.mod⟩)
  cases q3 : inB x.items 1 5
  · have hv : styleOk x = false := by simp [styleOk, q3]
    repeat (first | refine SX.seq ?_ | refine SXl.nil ?_ | refine SX.region ?_ | refine SQ.thenNormal ?_ | refine SX.condT rfl ?_ | (refine SXl.no rfl rfl rfl ?_) | (refine l_call ?_; (refine SXl.v (OpW.calls rfl (fun w _ => l01In_any _ _ _ _)) rfl ?_ ?_ ?_); rfl; rfl) | (refine l_load ?_; (refine SXl.v (OpW.load 0 rfl rfl rfl) rfl ?_ ?_ ?_); rfl; rfl) | (refine l_fieldAddr ?_; (refine SXl.v (OpW.fieldAddr rfl) rfl ?_ ?_ ?_); rfl; rfl) | (refine l_move ?_; (refine SXl.v (OpW.move rfl) rfl ?_ ?_ ?_); rfl; rfl) | (refine l_assign ?_; (refine SXl.v (OpW.assign rfl) rfl ?_ ?_ ?_); rfl; rfl) | (refine l_not ?_; (refine SXl.v (OpW.not rfl) rfl ?_ ?_ ?_); rfl; rfl) | (refine l_pick ?_; (refine SXl.v (OpW.pick rfl rfl rfl) rfl ?_ ?_ ?_); rfl; rfl) | (refine l_box ?_; refine SXl.box ?_ ?_ rfl rfl (fun g => ?_); rfl; rfl) | ((first | rw [q0] | rw [q1] | rw [q2] | rw [q3])) | refine SX.ret ?_ | refine SQ.thenRet ?_)
    refine SQ.body1 rfl rfl (fun w' hl => ⟨ret_bool hv.symm, hl.mod⟩)
  cases q4 : inB x.self 0 5
  · have hv : styleOk x = false := by simp [styleOk, q4]
    repeat (first | refine SX.seq ?_ | refine SXl.nil ?_ | refine SX.region ?_ | refine SQ.thenNormal ?_ | refine SX.condT rfl ?_ | (refine SXl.no rfl rfl rfl ?_) | (refine l_call ?_; (refine SXl.v (OpW.calls rfl (fun w _ => l01In_any _ _ _ _)) rfl ?_ ?_ ?_); rfl; rfl) | (refine l_load ?_; (refine SXl.v (OpW.load 0 rfl rfl rfl) rfl ?_ ?_ ?_); rfl; rfl) | (refine l_fieldAddr ?_; (refine SXl.v (OpW.fieldAddr rfl) rfl ?_ ?_ ?_); rfl; rfl) | (refine l_move ?_; (refine SXl.v (OpW.move rfl) rfl ?_ ?_ ?_); rfl; rfl) | (refine l_assign ?_; (refine SXl.v (OpW.assign rfl) rfl ?_ ?_ ?_); rfl; rfl) | (refine l_not ?_; (refine SXl.v (OpW.not rfl) rfl ?_ ?_ ?_); rfl; rfl) | (refine l_pick ?_; (refine SXl.v (OpW.pick rfl rfl rfl) rfl ?_ ?_ ?_); rfl; rfl) | (refine l_box ?_; refine SXl.box ?_ ?_ rfl rfl (fun g => ?_); rfl; rfl) | ((first | rw [q0] | rw [q1] | rw [q2] | rw [q3] | rw [q4])) | refine SX.ret ?_ | refine SQ.thenRet ?_)
    refine SQ.body1 rfl rfl (fun w' hl => ⟨ret_bool hv.symm, hl.mod⟩)
  cases q5 : inB x.content 1 6
  · have hv : styleOk x = false := by simp [styleOk, q5]
    repeat (first | refine SX.seq ?_ | refine SXl.nil ?_ | refine SX.region ?_ | refine SQ.thenNormal ?_ | refine SX.condT rfl ?_ | (refine l_call ?_; (refine SXl.v (OpW.calls rfl (fun w _ => l01In_any _ _ _ _)) rfl ?_ ?_ ?_); rfl; rfl) | (refine l_load ?_; (refine SXl.v (OpW.load 0 rfl rfl rfl) rfl ?_ ?_ ?_); rfl; rfl) | (refine l_fieldAddr ?_; (refine SXl.v (OpW.fieldAddr rfl) rfl ?_ ?_ ?_); rfl; rfl) | (refine l_move ?_; (refine SXl.v (OpW.move rfl) rfl ?_ ?_ ?_); rfl; rfl) | (refine l_assign ?_; (refine SXl.v (OpW.assign rfl) rfl ?_ ?_ ?_); rfl; rfl) | (refine l_not ?_; (refine SXl.v (OpW.not rfl) rfl ?_ ?_ ?_); rfl; rfl) | (refine l_pick ?_; (refine SXl.v (OpW.pick rfl rfl rfl) rfl ?_ ?_ ?_); rfl; rfl) | (refine l_box ?_; refine SXl.box ?_ ?_ rfl rfl (fun g => ?_); rfl; rfl) | ((first | rw [q0] | rw [q1] | rw [q2] | rw [q3] | rw [q4] | rw [q5])) | refine SX.ret ?_ | refine SQ.thenRet ?_)
    refine SQ.body1 rfl rfl (fun w' hl => ⟨ret_bool hv.symm, hl.mod⟩)
  cases q6 : inB x.order (-1000) 1000
  · have hv : styleOk x = false := by simp [styleOk, q6]
    repeat (first | refine SX.seq ?_ | refine SXl.nil ?_ | refine SX.region ?_ | refine SQ.thenNormal ?_ | refine SX.skip ?_ | refine SX.condT rfl ?_ | refine SX.condF rfl ?_ | (refine SXl.no rfl rfl rfl ?_) | (refine l_call ?_; (refine SXl.v (OpW.calls rfl (fun w _ => l01In_any _ _ _ _)) rfl ?_ ?_ ?_); rfl; rfl) | (refine l_load ?_; (refine SXl.v (OpW.load 0 rfl rfl rfl) rfl ?_ ?_ ?_); rfl; rfl) | (refine l_fieldAddr ?_; (refine SXl.v (OpW.fieldAddr rfl) rfl ?_ ?_ ?_); rfl; rfl) | (refine l_move ?_; (refine SXl.v (OpW.move rfl) rfl ?_ ?_ ?_); rfl; rfl) | (refine l_assign ?_; (refine SXl.v (OpW.assign rfl) rfl ?_ ?_ ?_); rfl; rfl) | (refine l_not ?_; (refine SXl.v (OpW.not rfl) rfl ?_ ?_ ?_); rfl; rfl) | (refine l_pick ?_; (refine SXl.v (OpW.pick rfl rfl rfl) rfl ?_ ?_ ?_); rfl; rfl) | (refine l_box ?_; refine SXl.box ?_ ?_ rfl rfl (fun g => ?_); rfl; rfl) | ((first | rw [q0] | rw [q1] | rw [q2] | rw [q3] | rw [q4] | rw [q5] | rw [q6])) | refine SX.ret ?_ | refine SQ.thenRet ?_)
    refine SQ.body1 rfl rfl (fun w' hl => ⟨ret_bool hv.symm, hl.mod⟩)
  cases q7 : inB x.grow 0 1000
  · have hv : styleOk x = false := by simp [styleOk, q7]
    repeat (first | refine SX.seq ?_ | refine SXl.nil ?_ | refine SX.region ?_ | refine SQ.thenNormal ?_ | refine SX.skip ?_ | refine SX.condT rfl ?_ | refine SX.condF rfl ?_ | (refine SXl.no rfl rfl rfl ?_) | (refine l_call ?_; (refine SXl.v (OpW.calls rfl (fun w _ => l01In_any _ _ _ _)) rfl ?_ ?_ ?_); rfl; rfl) | (refine l_load ?_; (refine SXl.v (OpW.load 0 rfl rfl rfl) rfl ?_ ?_ ?_); rfl; rfl) | (refine l_fieldAddr ?_; (refine SXl.v (OpW.fieldAddr rfl) rfl ?_ ?_ ?_); rfl; rfl) | (refine l_move ?_; (refine SXl.v (OpW.move rfl) rfl ?_ ?_ ?_); rfl; rfl) | (refine l_assign ?_; (refine SXl.v (OpW.assign rfl) rfl ?_ ?_ ?_); rfl; rfl) | (refine l_not ?_; (refine SXl.v (OpW.not rfl) rfl ?_ ?_ ?_); rfl; rfl) | (refine l_pick ?_; (refine SXl.v (OpW.pick rfl rfl rfl) rfl ?_ ?_ ?_); rfl; rfl) | (refine l_box ?_; refine SXl.box ?_ ?_ rfl rfl (fun g => ?_); rfl; rfl) | ((first | rw [q0] | rw [q1] | rw [q2] | rw [q3] | rw [q4] | rw [q5] | rw [q6] | rw [q7])) | refine SX.ret ?_ | refine SQ.thenRet ?_)
    refine SQ.body1 rfl rfl (fun w' hl => ⟨ret_bool hv.symm, hl.mod⟩)
  cases q8 : inB x.shrink 0 1000
  · have hv : styleOk x = false := by simp [styleOk, q8]
    repeat (first | refine SX.seq ?_ | refine SXl.nil ?_ | refine SX.region ?_ | refine SQ.thenNormal ?_ | refine SX.skip ?_ | refine SX.condT rfl ?_ | refine SX.condF rfl ?_ | (refine SXl.no rfl rfl rfl ?_) | (refine l_call ?_; (refine SXl.v (OpW.calls rfl (fun w _ => l01In_any _ _ _ _)) rfl ?_ ?_ ?_); rfl; rfl) | (refine l_load ?_; (refine SXl.v (OpW.load 0 rfl rfl rfl) rfl ?_ ?_ ?_); rfl; rfl) | (refine l_fieldAddr ?_; (refine SXl.v (OpW.fieldAddr rfl) rfl ?_ ?_ ?_); rfl; rfl) | (refine l_move ?_; (refine SXl.v (OpW.move rfl) rfl ?_ ?_ ?_); rfl; rfl) | (refine l_assign ?_; (refine SXl.v (OpW.assign rfl) rfl ?_ ?_ ?_); rfl; rfl) | (refine l_not ?_; (refine SXl.v (OpW.not rfl) rfl ?_ ?_ ?_); rfl; rfl) | (refine l_pick ?_; (refine SXl.v (OpW.pick rfl rfl rfl) rfl ?_ ?_ ?_); rfl; rfl) | (refine l_box ?_; refine SXl.box ?_ ?_ rfl rfl (fun g => ?_); rfl; rfl) | ((first | rw [q0] | rw [q1] | rw [q2] | rw [q3] | rw [q4] | rw [q5] | rw [q6] | rw [q7] | rw [q8])) | refine SX.ret ?_ | refine SQ.thenRet ?_)
    refine SQ.body1 rfl rfl (fun w' hl => ⟨ret_bool hv.symm, hl.mod⟩)
  cases q9 : inB x.ratio 0 6400
  · have hv : styleOk x = false := by simp [styleOk, q9]
    repeat (first | refine SX.seq ?_ | refine SXl.nil ?_ | refine SX.region ?_ | refine SQ.thenNormal ?_ | refine SX.skip ?_ | refine SX.condT rfl ?_ | refine SX.condF rfl ?_ | (refine l_call ?_; (refine SXl.v (OpW.calls rfl (fun w _ => l01In_any _ _ _ _)) rfl ?_ ?_ ?_); rfl; rfl) | (refine l_load ?_; (refine SXl.v (OpW.load 0 rfl rfl rfl) rfl ?_ ?_ ?_); rfl; rfl) | (refine l_fieldAddr ?_; (refine SXl.v (OpW.fieldAddr rfl) rfl ?_ ?_ ?_); rfl; rfl) | (refine l_move ?_; (refine SXl.v (OpW.move rfl) rfl ?_ ?_ ?_); rfl; rfl) | (refine l_assign ?_; (refine SXl.v (OpW.assign rfl) rfl ?_ ?_ ?_); rfl; rfl) | (refine l_not ?_; (refine SXl.v (OpW.not rfl) rfl ?_ ?_ ?_); rfl; rfl) | (refine l_pick ?_; (refine SXl.v (OpW.pick rfl rfl rfl) rfl ?_ ?_ ?_); rfl; rfl) | (refine l_box ?_; refine SXl.box ?_ ?_ rfl rfl (fun g => ?_); rfl; rfl) | ((first | rw [q0] | rw [q1] | rw [q2] | rw [q3] | rw [q4] | rw [q5] | rw [q6] | rw [q7] | rw [q8] | rw [q9])) | refine SX.ret ?_ | refine SQ.thenRet ?_)
    refine SQ.body1 rfl rfl (fun w' hl => ⟨ret_bool hv.symm, hl.mod⟩)
  cases q10 : sizeOk x.basis
  · have hv : styleOk x = false := by simp [styleOk, q10]
    repeat (first | refine SX.seq ?_ | refine SXl.nil ?_ | refine SX.region ?_ | refine SQ.thenNormal ?_ | refine SX.skip ?_ | refine SX.condT rfl ?_ | refine SX.condF rfl ?_ | (refine SXl.no rfl rfl rfl ?_) | (refine l_call ?_; (first | refine SXl.v (OpW.call rfl (fun w hl => ssizeOk_any _ _)) rfl ?_ ?_ ?_ | refine SXl.v (OpW.calls rfl (fun w _ => l01In_any _ _ _ _)) rfl ?_ ?_ ?_); rfl; rfl) | (refine l_load ?_; (first | refine SXl.v (OpW.load 0 rfl rfl rfl) rfl ?_ ?_ ?_ | refine SXl.v (OpW.loadRow 0 rfl rfl rfl rfl) rfl ?_ ?_ ?_); rfl; rfl) | (refine l_fieldAddr ?_; (refine SXl.v (OpW.fieldAddr rfl) rfl ?_ ?_ ?_); rfl; rfl) | (refine l_move ?_; (refine SXl.v (OpW.move rfl) rfl ?_ ?_ ?_); rfl; rfl) | (refine l_assign ?_; (refine SXl.v (OpW.assign rfl) rfl ?_ ?_ ?_); rfl; rfl) | (refine l_not ?_; (refine SXl.v (OpW.not rfl) rfl ?_ ?_ ?_); rfl; rfl) | (refine l_pick ?_; (refine SXl.v (OpW.pick rfl rfl rfl) rfl ?_ ?_ ?_); rfl; rfl) | (refine l_box ?_; refine SXl.box ?_ ?_ rfl rfl (fun g => ?_); rfl; rfl) | ((first | rw [q0] | rw [q1] | rw [q2] | rw [q3] | rw [q4] | rw [q5] | rw [q6] | rw [q7] | rw [q8] | rw [q9] | rw [q10])) | refine SX.ret ?_ | refine SQ.thenRet ?_)
    refine SQ.body1 rfl rfl (fun w' hl => ⟨ret_bool hv.symm, hl.mod⟩)
  cases q11 : sizeOk x.width
  · have hv : styleOk x = false := by simp [styleOk, q11]
    repeat (first | refine SX.seq ?_ | refine SXl.nil ?_ | refine SX.region ?_ | refine SQ.thenNormal ?_ | refine SX.skip ?_ | refine SX.condT rfl ?_ | refine SX.condF rfl ?_ | (refine SXl.no rfl rfl rfl ?_) | (refine l_call ?_; (first | refine SXl.v (OpW.call rfl (fun w hl => ssizeOk_any _ _)) rfl ?_ ?_ ?_ | refine SXl.v (OpW.calls rfl (fun w _ => l01In_any _ _ _ _)) rfl ?_ ?_ ?_); rfl; rfl) | (refine l_load ?_; (first | refine SXl.v (OpW.load 0 rfl rfl rfl) rfl ?_ ?_ ?_ | refine SXl.v (OpW.loadRow 0 rfl rfl rfl rfl) rfl ?_ ?_ ?_); rfl; rfl) | (refine l_fieldAddr ?_; (refine SXl.v (OpW.fieldAddr rfl) rfl ?_ ?_ ?_); rfl; rfl) | (refine l_move ?_; (refine SXl.v (OpW.move rfl) rfl ?_ ?_ ?_); rfl; rfl) | (refine l_assign ?_; (refine SXl.v (OpW.assign rfl) rfl ?_ ?_ ?_); rfl; rfl) | (refine l_not ?_; (refine SXl.v (OpW.not rfl) rfl ?_ ?_ ?_); rfl; rfl) | (refine l_pick ?_; (refine SXl.v (OpW.pick rfl rfl rfl) rfl ?_ ?_ ?_); rfl; rfl) | (refine l_box ?_; refine SXl.box ?_ ?_ rfl rfl (fun g => ?_); rfl; rfl) | ((first | rw [q0] | rw [q1] | rw [q2] | rw [q3] | rw [q4] | rw [q5] | rw [q6] | rw [q7] | rw [q8] | rw [q9] | rw [q10] | rw [q11])) | refine SX.ret ?_ | refine SQ.thenRet ?_)
    refine SQ.body1 rfl rfl (fun w' hl => ⟨ret_bool hv.symm, hl.mod⟩)
  cases q12 : sizeOk x.height
  · have hv : styleOk x = false := by simp [styleOk, q12]
    repeat (first | refine SX.seq ?_ | refine SXl.nil ?_ | refine SX.region ?_ | refine SQ.thenNormal ?_ | refine SX.skip ?_ | refine SX.condT rfl ?_ | refine SX.condF rfl ?_ | (refine SXl.no rfl rfl rfl ?_) | (refine l_call ?_; (first | refine SXl.v (OpW.call rfl (fun w hl => ssizeOk_any _ _)) rfl ?_ ?_ ?_ | refine SXl.v (OpW.calls rfl (fun w _ => l01In_any _ _ _ _)) rfl ?_ ?_ ?_); rfl; rfl) | (refine l_load ?_; (first | refine SXl.v (OpW.load 0 rfl rfl rfl) rfl ?_ ?_ ?_ | refine SXl.v (OpW.loadRow 0 rfl rfl rfl rfl) rfl ?_ ?_ ?_); rfl; rfl) | (refine l_fieldAddr ?_; (refine SXl.v (OpW.fieldAddr rfl) rfl ?_ ?_ ?_); rfl; rfl) | (refine l_move ?_; (refine SXl.v (OpW.move rfl) rfl ?_ ?_ ?_); rfl; rfl) | (refine l_assign ?_; (refine SXl.v (OpW.assign rfl) rfl ?_ ?_ ?_); rfl; rfl) | (refine l_not ?_; (refine SXl.v (OpW.not rfl) rfl ?_ ?_ ?_); rfl; rfl) | (refine l_pick ?_; (refine SXl.v (OpW.pick rfl rfl rfl) rfl ?_ ?_ ?_); rfl; rfl) | (refine l_box ?_; refine SXl.box ?_ ?_ rfl rfl (fun g => ?_); rfl; rfl) | ((first | rw [q0] | rw [q1] | rw [q2] | rw [q3] | rw [q4] | rw [q5] | rw [q6] | rw [q7] | rw [q8] | rw [q9] | rw [q10] | rw [q11] | rw [q12])) | refine SX.ret ?_ | refine SQ.thenRet ?_)
    refine SQ.body1 rfl rfl (fun w' hl => ⟨ret_bool hv.symm, hl.mod⟩)
  cases q13 : sizeOk x.minWidth
  · have hv : styleOk x = false := by simp [styleOk, q13]
    repeat (first | refine SX.seq ?_ | refine SXl.nil ?_ | refine SX.region ?_ | refine SQ.thenNormal ?_ | refine SX.skip ?_ | refine SX.condT rfl ?_ | refine SX.condF rfl ?_ | (refine SXl.no rfl rfl rfl ?_) | (refine l_call ?_; (first | refine SXl.v (OpW.call rfl (fun w hl => ssizeOk_any _ _)) rfl ?_ ?_ ?_ | refine SXl.v (OpW.calls rfl (fun w _ => l01In_any _ _ _ _)) rfl ?_ ?_ ?_); rfl; rfl) | (refine l_load ?_; (first | refine SXl.v (OpW.load 0 rfl rfl rfl) rfl ?_ ?_ ?_ | refine SXl.v (OpW.loadRow 0 rfl rfl rfl rfl) rfl ?_ ?_ ?_); rfl; rfl) | (refine l_fieldAddr ?_; (refine SXl.v (OpW.fieldAddr rfl) rfl ?_ ?_ ?_); rfl; rfl) | (refine l_move ?_; (refine SXl.v (OpW.move rfl) rfl ?_ ?_ ?_); rfl; rfl) | (refine l_assign ?_; (refine SXl.v (OpW.assign rfl) rfl ?_ ?_ ?_); rfl; rfl) | (refine l_not ?_; (refine SXl.v (OpW.not rfl) rfl ?_ ?_ ?_); rfl; rfl) | (refine l_pick ?_; (refine SXl.v (OpW.pick rfl rfl rfl) rfl ?_ ?_ ?_); rfl; rfl) | (refine l_box ?_; refine SXl.box ?_ ?_ rfl rfl (fun g => ?_); rfl; rfl) | ((first | rw [q0] | rw [q1] | rw [q2] | rw [q3] | rw [q4] | rw [q5] | rw [q6] | rw [q7] | rw [q8] | rw [q9] | rw [q10] | rw [q11] | rw [q12] | rw [q13])) | refine SX.ret ?_ | refine SQ.thenRet ?_)
    refine SQ.body1 rfl rfl (fun w' hl => ⟨ret_bool hv.symm, hl.mod⟩)
  cases q14 : sizeOk x.minHeight
  · have hv : styleOk x = false := by simp [styleOk, q14]
    repeat (first | refine SX.seq ?_ | refine SXl.nil ?_ | refine SX.region ?_ | refine SQ.thenNormal ?_ | refine SX.skip ?_ | refine SX.condT rfl ?_ | refine SX.condF rfl ?_ | (refine SXl.no rfl rfl rfl ?_) | (refine l_call ?_; (first | refine SXl.v (OpW.call rfl (fun w hl => ssizeOk_any _ _)) rfl ?_ ?_ ?_ | refine SXl.v (OpW.calls rfl (fun w _ => l01In_any _ _ _ _)) rfl ?_ ?_ ?_); rfl; rfl) | (refine l_load ?_; (first | refine SXl.v (OpW.load 0 rfl rfl rfl) rfl ?_ ?_ ?_ | refine SXl.v (OpW.loadRow 0 rfl rfl rfl rfl) rfl ?_ ?_ ?_); rfl; rfl) | (refine l_fieldAddr ?_; (refine SXl.v (OpW.fieldAddr rfl) rfl ?_ ?_ ?_); rfl; rfl) | (refine l_move ?_; (refine SXl.v (OpW.move rfl) rfl ?_ ?_ ?_); rfl; rfl) | (refine l_assign ?_; (refine SXl.v (OpW.assign rfl) rfl ?_ ?_ ?_); rfl; rfl) | (refine l_not ?_; (refine SXl.v (OpW.not rfl) rfl ?_ ?_ ?_); rfl; rfl) | (refine l_pick ?_; (refine SXl.v (OpW.pick rfl rfl rfl) rfl ?_ ?_ ?_); rfl; rfl) | (refine l_box ?_; refine SXl.box ?_ ?_ rfl rfl (fun g => ?_); rfl; rfl) | ((first | rw [q0] | rw [q1] | rw [q2] | rw [q3] | rw [q4] | rw [q5] | rw [q6] | rw [q7] | rw [q8] | rw [q9] | rw [q10] | rw [q11] | rw [q12] | rw [q13] | rw [q14])) | refine SX.ret ?_ | refine SQ.thenRet ?_)
    refine SQ.body1 rfl rfl (fun w' hl => ⟨ret_bool hv.symm, hl.mod⟩)
  cases q15 : sizeOk x.maxWidth
  · have hv : styleOk x = false := by simp [styleOk, q15]
    repeat (first | refine SX.seq ?_ | refine SXl.nil ?_ | refine SX.region ?_ | refine SQ.thenNormal ?_ | refine SX.skip ?_ | refine SX.condT rfl ?_ | refine SX.condF rfl ?_ | (refine SXl.no rfl rfl rfl ?_) | (refine l_call ?_; (first | refine SXl.v (OpW.call rfl (fun w hl => ssizeOk_any _ _)) rfl ?_ ?_ ?_ | refine SXl.v (OpW.calls rfl (fun w _ => l01In_any _ _ _ _)) rfl ?_ ?_ ?_); rfl; rfl) | (refine l_load ?_; (first | refine SXl.v (OpW.load 0 rfl rfl rfl) rfl ?_ ?_ ?_ | refine SXl.v (OpW.loadRow 0 rfl rfl rfl rfl) rfl ?_ ?_ ?_); rfl; rfl) | (refine l_fieldAddr ?_; (refine SXl.v (OpW.fieldAddr rfl) rfl ?_ ?_ ?_); rfl; rfl) | (refine l_move ?_; (refine SXl.v (OpW.move rfl) rfl ?_ ?_ ?_); rfl; rfl) | (refine l_assign ?_; (refine SXl.v (OpW.assign rfl) rfl ?_ ?_ ?_); rfl; rfl) | (refine l_not ?_; (refine SXl.v (OpW.not rfl) rfl ?_ ?_ ?_); rfl; rfl) | (refine l_pick ?_; (refine SXl.v (OpW.pick rfl rfl rfl) rfl ?_ ?_ ?_); rfl; rfl) | (refine l_box ?_; refine SXl.box ?_ ?_ rfl rfl (fun g => ?_); rfl; rfl) | ((first | rw [q0] | rw [q1] | rw [q2] | rw [q3] | rw [q4] | rw [q5] | rw [q6] | rw [q7] | rw [q8] | rw [q9] | rw [q10] | rw [q11] | rw [q12] | rw [q13] | rw [q14] | rw [q15])) | refine SX.ret ?_ | refine SQ.thenRet ?_)
    refine SQ.body1 rfl rfl (fun w' hl => ⟨ret_bool hv.symm, hl.mod⟩)
  cases q16 : sizeOk x.maxHeight
  · have hv : styleOk x = false := by simp [styleOk, q16]
    repeat (first | refine SX.seq ?_ | refine SXl.nil ?_ | refine SX.region ?_ | refine SQ.thenNormal ?_ | refine SX.skip ?_ | refine SX.condT rfl ?_ | refine SX.condF rfl ?_ | (refine l_call ?_; (first | refine SXl.v (OpW.call rfl (fun w hl => ssizeOk_any _ _)) rfl ?_ ?_ ?_ | refine SXl.v (OpW.calls rfl (fun w _ => l01In_any _ _ _ _)) rfl ?_ ?_ ?_); rfl; rfl) | (refine l_load ?_; (first | refine SXl.v (OpW.load 0 rfl rfl rfl) rfl ?_ ?_ ?_ | refine SXl.v (OpW.loadRow 0 rfl rfl rfl rfl) rfl ?_ ?_ ?_); rfl; rfl) | (refine l_fieldAddr ?_; (refine SXl.v (OpW.fieldAddr rfl) rfl ?_ ?_ ?_); rfl; rfl) | (refine l_move ?_; (refine SXl.v (OpW.move rfl) rfl ?_ ?_ ?_); rfl; rfl) | (refine l_assign ?_; (refine SXl.v (OpW.assign rfl) rfl ?_ ?_ ?_); rfl; rfl) | (refine l_not ?_; (refine SXl.v (OpW.not rfl) rfl ?_ ?_ ?_); rfl; rfl) | (refine l_pick ?_; (refine SXl.v (OpW.pick rfl rfl rfl) rfl ?_ ?_ ?_); rfl; rfl) | (refine l_box ?_; refine SXl.box ?_ ?_ rfl rfl (fun g => ?_); rfl; rfl) | ((first | rw [q0] | rw [q1] | rw [q2] | rw [q3] | rw [q4] | rw [q5] | rw [q6] | rw [q7] | rw [q8] | rw [q9] | rw [q10] | rw [q11] | rw [q12] | rw [q13] | rw [q14] | rw [q15] | rw [q16])) | refine SX.ret ?_ | refine SQ.thenRet ?_)
    refine SQ.body1 rfl rfl (fun w' hl => ⟨ret_bool hv.symm, hl.mod⟩)
  cases q17 : sidesOk x.margin
  · have hv : styleOk x = false := by simp [styleOk, q17]
    repeat (first | refine SX.seq ?_ | refine SXl.nil ?_ | refine SX.region ?_ | refine SQ.thenNormal ?_ | refine SX.skip ?_ | refine SX.condF rfl ?_ | (refine SXl.no rfl rfl rfl ?_) | (refine l_call ?_; (first | refine SXl.v (OpW.call rfl (fun w hl => ssizeOk_any _ _)) rfl ?_ ?_ ?_ | refine SXl.v (OpW.call rfl (fun w hl => ssidesOk_any _ _)) rfl ?_ ?_ ?_ | refine SXl.v (OpW.calls rfl (fun w _ => l01In_any _ _ _ _)) rfl ?_ ?_ ?_); rfl; rfl) | (refine l_load ?_; (first | refine SXl.v (OpW.load 0 rfl rfl rfl) rfl ?_ ?_ ?_ | refine SXl.v (OpW.loadRow 0 rfl rfl rfl rfl) rfl ?_ ?_ ?_); rfl; rfl) | (refine l_fieldAddr ?_; (refine SXl.v (OpW.fieldAddr rfl) rfl ?_ ?_ ?_); rfl; rfl) | (refine l_move ?_; (refine SXl.v (OpW.move rfl) rfl ?_ ?_ ?_); rfl; rfl) | (refine l_assign ?_; (refine SXl.v (OpW.assign rfl) rfl ?_ ?_ ?_); rfl; rfl) | (refine l_not ?_; (refine SXl.v (OpW.not rfl) rfl ?_ ?_ ?_); rfl; rfl) | (refine l_pick ?_; (refine SXl.v (OpW.pick rfl rfl rfl) rfl ?_ ?_ ?_); rfl; rfl) | (refine l_box ?_; refine SXl.box ?_ ?_ rfl rfl (fun g => ?_); rfl; rfl) | ((first | rw [q0] | rw [q1] | rw [q2] | rw [q3] | rw [q4] | rw [q5] | rw [q6] | rw [q7] | rw [q8] | rw [q9] | rw [q10] | rw [q11] | rw [q12] | rw [q13] | rw [q14] | rw [q15] | rw [q16] | rw [q17])) | refine SX.ret ?_)
    refine SQ.body1 rfl rfl (fun w' hl => ⟨ret_bool hv.symm, hl.mod⟩)
  cases q18 : sidesOk x.inset
  · have hv : styleOk x = false := by simp [styleOk, q18]
    repeat (first | refine SX.seq ?_ | refine SXl.nil ?_ | refine SX.region ?_ | refine SQ.thenNormal ?_ | refine SX.skip ?_ | refine SX.condF rfl ?_ | (refine SXl.no rfl rfl rfl ?_) | (refine l_call ?_; (first | refine SXl.v (OpW.call rfl (fun w hl => ssizeOk_any _ _)) rfl ?_ ?_ ?_ | refine SXl.v (OpW.call rfl (fun w hl => ssidesOk_any _ _)) rfl ?_ ?_ ?_ | refine SXl.v (OpW.calls rfl (fun w _ => l01In_any _ _ _ _)) rfl ?_ ?_ ?_); rfl; rfl) | (refine l_load ?_; (first | refine SXl.v (OpW.load 0 rfl rfl rfl) rfl ?_ ?_ ?_ | refine SXl.v (OpW.loadRow 0 rfl rfl rfl rfl) rfl ?_ ?_ ?_); rfl; rfl) | (refine l_fieldAddr ?_; (refine SXl.v (OpW.fieldAddr rfl) rfl ?_ ?_ ?_); rfl; rfl) | (refine l_move ?_; (refine SXl.v (OpW.move rfl) rfl ?_ ?_ ?_); rfl; rfl) | (refine l_assign ?_; (refine SXl.v (OpW.assign rfl) rfl ?_ ?_ ?_); rfl; rfl) | (refine l_not ?_; (refine SXl.v (OpW.not rfl) rfl ?_ ?_ ?_); rfl; rfl) | (refine l_pick ?_; (refine SXl.v (OpW.pick rfl rfl rfl) rfl ?_ ?_ ?_); rfl; rfl) | (refine l_box ?_; refine SXl.box ?_ ?_ rfl rfl (fun g => ?_); rfl; rfl) | ((first | rw [q0] | rw [q1] | rw [q2] | rw [q3] | rw [q4] | rw [q5] | rw [q6] | rw [q7] | rw [q8] | rw [q9] | rw [q10] | rw [q11] | rw [q12] | rw [q13] | rw [q14] | rw [q15] | rw [q16] | rw [q17] | rw [q18])) | refine SX.ret ?_)
    refine SQ.body1 rfl rfl (fun w' hl => ⟨ret_bool hv.symm, hl.mod⟩)
  cases q19 : edgesOk x.pad
  · have hv : styleOk x = false := by simp [styleOk, q19]
    repeat (first | refine SX.seq ?_ | refine SXl.nil ?_ | refine SX.region ?_ | refine SQ.thenNormal ?_ | refine SX.skip ?_ | refine SX.condF rfl ?_ | (refine SXl.no rfl rfl rfl ?_) | (refine l_call ?_; (first | refine SXl.v (OpW.call rfl (fun w hl => ssizeOk_any _ _)) rfl ?_ ?_ ?_ | refine SXl.v (OpW.call rfl (fun w hl => ssidesOk_any _ _)) rfl ?_ ?_ ?_ | refine SXl.v (OpW.call rfl (fun w hl => sedgesOk_any _ _)) rfl ?_ ?_ ?_ | refine SXl.v (OpW.calls rfl (fun w _ => l01In_any _ _ _ _)) rfl ?_ ?_ ?_); rfl; rfl) | (refine l_load ?_; (first | refine SXl.v (OpW.load 0 rfl rfl rfl) rfl ?_ ?_ ?_ | refine SXl.v (OpW.loadRow 0 rfl rfl rfl rfl) rfl ?_ ?_ ?_); rfl; rfl) | (refine l_fieldAddr ?_; (refine SXl.v (OpW.fieldAddr rfl) rfl ?_ ?_ ?_); rfl; rfl) | (refine l_move ?_; (refine SXl.v (OpW.move rfl) rfl ?_ ?_ ?_); rfl; rfl) | (refine l_assign ?_; (refine SXl.v (OpW.assign rfl) rfl ?_ ?_ ?_); rfl; rfl) | (refine l_not ?_; (refine SXl.v (OpW.not rfl) rfl ?_ ?_ ?_); rfl; rfl) | (refine l_pick ?_; (refine SXl.v (OpW.pick rfl rfl rfl) rfl ?_ ?_ ?_); rfl; rfl) | (refine l_box ?_; refine SXl.box ?_ ?_ rfl rfl (fun g => ?_); rfl; rfl) | ((first | rw [q0] | rw [q1] | rw [q2] | rw [q3] | rw [q4] | rw [q5] | rw [q6] | rw [q7] | rw [q8] | rw [q9] | rw [q10] | rw [q11] | rw [q12] | rw [q13] | rw [q14] | rw [q15] | rw [q16] | rw [q17] | rw [q18] | rw [q19])) | refine SX.ret ?_)
    refine SQ.body1 rfl rfl (fun w' hl => ⟨ret_bool hv.symm, hl.mod⟩)
  cases q20 : edgesOk x.border
  · have hv : styleOk x = false := by simp [styleOk, q20]
    repeat (first | refine SX.seq ?_ | refine SXl.nil ?_ | refine SX.region ?_ | refine SQ.thenNormal ?_ | refine SX.skip ?_ | refine SX.condF rfl ?_ | (refine SXl.no rfl rfl rfl ?_) | (refine l_call ?_; (first | refine SXl.v (OpW.call rfl (fun w hl => ssizeOk_any _ _)) rfl ?_ ?_ ?_ | refine SXl.v (OpW.call rfl (fun w hl => ssidesOk_any _ _)) rfl ?_ ?_ ?_ | refine SXl.v (OpW.call rfl (fun w hl => sedgesOk_any _ _)) rfl ?_ ?_ ?_ | refine SXl.v (OpW.calls rfl (fun w _ => l01In_any _ _ _ _)) rfl ?_ ?_ ?_); rfl; rfl) | (refine l_load ?_; (first | refine SXl.v (OpW.load 0 rfl rfl rfl) rfl ?_ ?_ ?_ | refine SXl.v (OpW.loadRow 0 rfl rfl rfl rfl) rfl ?_ ?_ ?_); rfl; rfl) | (refine l_fieldAddr ?_; (refine SXl.v (OpW.fieldAddr rfl) rfl ?_ ?_ ?_); rfl; rfl) | (refine l_move ?_; (refine SXl.v (OpW.move rfl) rfl ?_ ?_ ?_); rfl; rfl) | (refine l_assign ?_; (refine SXl.v (OpW.assign rfl) rfl ?_ ?_ ?_); rfl; rfl) | (refine l_not ?_; (refine SXl.v (OpW.not rfl) rfl ?_ ?_ ?_); rfl; rfl) | (refine l_pick ?_; (refine SXl.v (OpW.pick rfl rfl rfl) rfl ?_ ?_ ?_); rfl; rfl) | (refine l_box ?_; refine SXl.box ?_ ?_ rfl rfl (fun g => ?_); rfl; rfl) | ((first | rw [q0] | rw [q1] | rw [q2] | rw [q3] | rw [q4] | rw [q5] | rw [q6] | rw [q7] | rw [q8] | rw [q9] | rw [q10] | rw [q11] | rw [q12] | rw [q13] | rw [q14] | rw [q15] | rw [q16] | rw [q17] | rw [q18] | rw [q19] | rw [q20])) | refine SX.ret ?_)
    refine SQ.body1 rfl rfl (fun w' hl => ⟨ret_bool hv.symm, hl.mod⟩)
  cases q21 : inB x.rowGap 0 1048576
  · have hv : styleOk x = false := by simp [styleOk, q21]
    repeat (first | refine SX.seq ?_ | refine SXl.nil ?_ | refine SX.region ?_ | refine SQ.thenNormal ?_ | refine SX.skip ?_ | refine SX.condF rfl ?_ | (refine SXl.no rfl rfl rfl ?_) | (refine l_call ?_; (first | refine SXl.v (OpW.call rfl (fun w hl => ssizeOk_any _ _)) rfl ?_ ?_ ?_ | refine SXl.v (OpW.call rfl (fun w hl => ssidesOk_any _ _)) rfl ?_ ?_ ?_ | refine SXl.v (OpW.call rfl (fun w hl => sedgesOk_any _ _)) rfl ?_ ?_ ?_ | refine SXl.v (OpW.calls rfl (fun w _ => l01In_any _ _ _ _)) rfl ?_ ?_ ?_); rfl; rfl) | (refine l_load ?_; (first | refine SXl.v (OpW.load 0 rfl rfl rfl) rfl ?_ ?_ ?_ | refine SXl.v (OpW.loadRow 0 rfl rfl rfl rfl) rfl ?_ ?_ ?_); rfl; rfl) | (refine l_fieldAddr ?_; (refine SXl.v (OpW.fieldAddr rfl) rfl ?_ ?_ ?_); rfl; rfl) | (refine l_move ?_; (refine SXl.v (OpW.move rfl) rfl ?_ ?_ ?_); rfl; rfl) | (refine l_assign ?_; (refine SXl.v (OpW.assign rfl) rfl ?_ ?_ ?_); rfl; rfl) | (refine l_not ?_; (refine SXl.v (OpW.not rfl) rfl ?_ ?_ ?_); rfl; rfl) | (refine l_pick ?_; (refine SXl.v (OpW.pick rfl rfl rfl) rfl ?_ ?_ ?_); rfl; rfl) | (refine l_box ?_; refine SXl.box ?_ ?_ rfl rfl (fun g => ?_); rfl; rfl) | ((first | rw [q0] | rw [q1] | rw [q2] | rw [q3] | rw [q4] | rw [q5] | rw [q6] | rw [q7] | rw [q8] | rw [q9] | rw [q10] | rw [q11] | rw [q12] | rw [q13] | rw [q14] | rw [q15] | rw [q16] | rw [q17] | rw [q18] | rw [q19] | rw [q20] | rw [q21])) | refine SX.ret ?_)
    refine SQ.body1 rfl rfl (fun w' hl => ⟨ret_bool hv.symm, hl.mod⟩)
  cases q22 : inB x.colGap 0 1048576
  · have hv : styleOk x = false := by simp [styleOk, q22]
    repeat (first | refine SX.seq ?_ | refine SXl.nil ?_ | refine SX.region ?_ | refine SQ.thenNormal ?_ | refine SX.skip ?_ | refine SX.condF rfl ?_ | (refine l_call ?_; (first | refine SXl.v (OpW.call rfl (fun w hl => ssizeOk_any _ _)) rfl ?_ ?_ ?_ | refine SXl.v (OpW.call rfl (fun w hl => ssidesOk_any _ _)) rfl ?_ ?_ ?_ | refine SXl.v (OpW.call rfl (fun w hl => sedgesOk_any _ _)) rfl ?_ ?_ ?_ | refine SXl.v (OpW.calls rfl (fun w _ => l01In_any _ _ _ _)) rfl ?_ ?_ ?_); rfl; rfl) | (refine l_load ?_; (first | refine SXl.v (OpW.load 0 rfl rfl rfl) rfl ?_ ?_ ?_ | refine SXl.v (OpW.loadRow 0 rfl rfl rfl rfl) rfl ?_ ?_ ?_); rfl; rfl) | (refine l_fieldAddr ?_; (refine SXl.v (OpW.fieldAddr rfl) rfl ?_ ?_ ?_); rfl; rfl) | (refine l_move ?_; (refine SXl.v (OpW.move rfl) rfl ?_ ?_ ?_); rfl; rfl) | (refine l_assign ?_; (refine SXl.v (OpW.assign rfl) rfl ?_ ?_ ?_); rfl; rfl) | (refine l_not ?_; (refine SXl.v (OpW.not rfl) rfl ?_ ?_ ?_); rfl; rfl) | (refine l_pick ?_; (refine SXl.v (OpW.pick rfl rfl rfl) rfl ?_ ?_ ?_); rfl; rfl) | (refine l_box ?_; refine SXl.box ?_ ?_ rfl rfl (fun g => ?_); rfl; rfl) | ((first | rw [q0] | rw [q1] | rw [q2] | rw [q3] | rw [q4] | rw [q5] | rw [q6] | rw [q7] | rw [q8] | rw [q9] | rw [q10] | rw [q11] | rw [q12] | rw [q13] | rw [q14] | rw [q15] | rw [q16] | rw [q17] | rw [q18] | rw [q19] | rw [q20] | rw [q21] | rw [q22])) | refine SX.ret ?_)
    refine SQ.body1 rfl rfl (fun w' hl => ⟨ret_bool hv.symm, hl.mod⟩)
  have hv : styleOk x = true := by simp [styleOk, q0, q1, q2, q3, q4, q5, q6, q7, q8, q9, q10, q11, q12, q13, q14, q15, q16, q17, q18, q19, q20, q21, q22]
  repeat (first | refine SX.seq ?_ | refine SXl.nil ?_ | refine SX.region ?_ | refine SQ.thenNormal ?_ | refine SX.skip ?_ | refine SX.condF rfl ?_ | (refine l_call ?_; (first | refine SXl.v (OpW.call rfl (fun w hl => ssizeOk_any _ _)) rfl ?_ ?_ ?_ | refine SXl.v (OpW.call rfl (fun w hl => ssidesOk_any _ _)) rfl ?_ ?_ ?_ | refine SXl.v (OpW.call rfl (fun w hl => sedgesOk_any _ _)) rfl ?_ ?_ ?_ | refine SXl.v (OpW.calls rfl (fun w _ => l01In_any _ _ _ _)) rfl ?_ ?_ ?_); rfl; rfl) | (refine l_load ?_; (first | refine SXl.v (OpW.load 0 rfl rfl rfl) rfl ?_ ?_ ?_ | refine SXl.v (OpW.loadRow 0 rfl rfl rfl rfl) rfl ?_ ?_ ?_); rfl; rfl) | (refine l_fieldAddr ?_; (refine SXl.v (OpW.fieldAddr rfl) rfl ?_ ?_ ?_); rfl; rfl) | (refine l_move ?_; (refine SXl.v (OpW.move rfl) rfl ?_ ?_ ?_); rfl; rfl) | (refine l_assign ?_; (refine SXl.v (OpW.assign rfl) rfl ?_ ?_ ?_); rfl; rfl) | (refine l_not ?_; (refine SXl.v (OpW.not rfl) rfl ?_ ?_ ?_); rfl; rfl) | (refine l_pick ?_; (refine SXl.v (OpW.pick rfl rfl rfl) rfl ?_ ?_ ?_); rfl; rfl) | (refine l_box ?_; refine SXl.box ?_ ?_ rfl rfl (fun g => ?_); rfl; rfl) | ((first | rw [q0] | rw [q1] | rw [q2] | rw [q3] | rw [q4] | rw [q5] | rw [q6] | rw [q7] | rw [q8] | rw [q9] | rw [q10] | rw [q11] | rw [q12] | rw [q13] | rw [q14] | rw [q15] | rw [q16] | rw [q17] | rw [q18] | rw [q19] | rw [q20] | rw [q21] | rw [q22])) | refine SX.ret ?_)
  refine SQ.body1 rfl rfl (fun w' hl => ⟨ret_bool hv.symm, hl.mod⟩)

end Go.Proofs.YtpkpkojmaebflaaGreatDoor
namespace Go.Proofs.YtpkpkojmaebflaaGreatDoor
open Go.RowKit
set_option linter.unusedVariables false
set_option linter.unusedSimpArgs false

def vals7 (x : Style) : List Val := [x.basis, x.width, x.height, x.minWidth, x.minHeight, x.maxWidth, x.maxHeight]
theorem vals7_at (x : Style) {k : Nat} (h : k < 7) : ∃ v, (vals7 x)[k]? = some v ∧ (([.int .i64 x.basis.kind, .int .i64 x.basis.n, .int .i64 x.width.kind, .int .i64 x.width.n, .int .i64 x.height.kind, .int .i64 x.height.n, .int .i64 x.minWidth.kind, .int .i64 x.minWidth.n, .int .i64 x.minHeight.kind, .int .i64 x.minHeight.n, .int .i64 x.maxWidth.kind, .int .i64 x.maxWidth.n, .int .i64 x.maxHeight.kind, .int .i64 x.maxHeight.n] : List Value).drop (0 + k * 2)).take 2 = [.int .i64 v.kind, .int .i64 v.n] := by
  obtain (rfl|rfl|rfl|rfl|rfl|rfl|rfl) : k = 0 ∨ k = 1 ∨ k = 2 ∨ k = 3 ∨ k = 4 ∨ k = 5 ∨ k = 6 := by omega
  all_goals exact ⟨_, rfl, rfl⟩
theorem styleOk_size {x : Style} {v : Val} {k : Nat} (h : (vals7 x)[k]? = some v) (hb : sizeOk v = false) : styleOk x = false := by
  have hm := List.mem_of_getElem? h
  simp only [vals7, List.mem_cons, List.not_mem_nil, or_false] at hm
  rcases hm with rfl|rfl|rfl|rfl|rfl|rfl|rfl <;> simp [styleOk, hb]
theorem vto_succ {l : List Val} {k : Nat} {v : Val} (hs : ∀ i x, i < k → l[i]? = some x → sizeOk x = true) (hx : l[k]? = some v) (h : sizeOk v = true) : ∀ i x, i < k + 1 → l[i]? = some x → sizeOk x = true := fun j y hj hy => by
  by_cases e : j = k
  · subst e; rw [hx] at hy; rw [← Option.some.inj hy]; exact h
  · exact hs j y (by omega) hy
theorem vals7_all {x : Style} (hs : ∀ i v, i < 7 → (vals7 x)[i]? = some v → sizeOk v = true) : sizeOk x.basis = true ∧ sizeOk x.width = true ∧ sizeOk x.height = true ∧ sizeOk x.minWidth = true ∧ sizeOk x.minHeight = true ∧ sizeOk x.maxWidth = true ∧ sizeOk x.maxHeight = true :=
  ⟨hs 0 _ (by omega) rfl, hs 1 _ (by omega) rfl, hs 2 _ (by omega) rfl, hs 3 _ (by omega) rfl, hs 4 _ (by omega) rfl, hs 5 _ (by omega) rfl, hs 6 _ (by omega) rfl⟩
set_option maxRecDepth 100000 in
set_option maxHeartbeats 8000000 in
theorem styleOk_any (x : Style) (w : World) : Calls Tryz.prog 80 #[.agg #[.int .i64 x.dir, .int .i64 x.wrap, .int .i64 x.justify, .int .i64 x.items, .int .i64 x.self, .int .i64 x.content, .bool x.apart, .bool x.hidden, .int .i64 x.order, .int .i64 x.grow, .int .i64 x.shrink, .int .i64 x.basis.kind, .int .i64 x.basis.n, .int .i64 x.width.kind, .int .i64 x.width.n, .int .i64 x.height.kind, .int .i64 x.height.n, .int .i64 x.minWidth.kind, .int .i64 x.minWidth.n, .int .i64 x.minHeight.kind, .int .i64 x.minHeight.n, .int .i64 x.maxWidth.kind, .int .i64 x.maxWidth.n, .int .i64 x.maxHeight.kind, .int .i64 x.maxHeight.n, .int .i64 x.ratio, .int .i64 x.margin.left.kind, .int .i64 x.margin.left.n, .int .i64 x.margin.top.kind, .int .i64 x.margin.top.n, .int .i64 x.margin.right.kind, .int .i64 x.margin.right.n, .int .i64 x.margin.bottom.kind, .int .i64 x.margin.bottom.n, .int .i64 x.margin.start.kind, .int .i64 x.margin.start.n, .int .i64 x.margin.stop.kind, .int .i64 x.margin.stop.n, .int .i64 x.inset.left.kind, .int .i64 x.inset.left.n, .int .i64 x.inset.top.kind, .int .i64 x.inset.top.n, .int .i64 x.inset.right.kind, .int .i64 x.inset.right.n, .int .i64 x.inset.bottom.kind, .int .i64 x.inset.bottom.n, .int .i64 x.inset.start.kind, .int .i64 x.inset.start.n, .int .i64 x.inset.stop.kind, .int .i64 x.inset.stop.n, .int .i64 x.pad.left, .int .i64 x.pad.top, .int .i64 x.pad.right, .int .i64 x.pad.bottom, .int .i64 x.border.left, .int .i64 x.border.top, .int .i64 x.border.right, .int .i64 x.border.bottom, .int .i64 x.rowGap, .int .i64 x.colGap]] w fun e w' => e = .returned (.bool (styleOk x)) ∧ Mod (fun _ => False) w w' := by
  refine calls_sx Tryz.func80 rfl rfl (fun a h1 h2 h3 => ((Fr.nil h1 h2).arg (h3 0 _ rfl))) ?_
  cases q0 : inB x.dir 1 4
  · have hv : styleOk x = false := by simp [styleOk, q0]
    repeat (first | refine SX.seq ?_ | refine SXl.nil ?_ | refine SX.region ?_ | refine SQ.thenNormal ?_ | refine SX.condT rfl ?_ | (refine SXl.no rfl rfl rfl ?_) | (refine l_call ?_; (refine SXl.v (OpW.calls rfl (fun w _ => in_any _ _ _ _)) rfl ?_ ?_ ?_); rfl; rfl) | (refine l_load ?_; (refine SXl.v (OpW.load 0 rfl rfl rfl) rfl ?_ ?_ ?_); rfl; rfl) | (refine l_fieldAddr ?_; (refine SXl.v (OpW.fieldAddr rfl) rfl ?_ ?_ ?_); rfl; rfl) | (refine l_move ?_; (refine SXl.v (OpW.move rfl) rfl ?_ ?_ ?_); rfl; rfl) | (refine l_assign ?_; (refine SXl.v (OpW.assign rfl) rfl ?_ ?_ ?_); rfl; rfl) | (refine l_not ?_; (refine SXl.v (OpW.not rfl) rfl ?_ ?_ ?_); rfl; rfl) | (refine l_pick ?_; (refine SXl.v (OpW.pick rfl rfl rfl) rfl ?_ ?_ ?_); rfl; rfl) | (refine l_box ?_; refine SXl.box ?_ ?_ rfl rfl (fun g => ?_); rfl; rfl) | ((rw [q0])) | refine SX.ret ?_ | refine SQ.thenRet ?_)
    refine SQ.body1 rfl rfl (fun w' hl => ⟨ret_bool hv.symm, hl.mod⟩)
  cases q1 : inB x.wrap 1 3
  · have hv : styleOk x = false := by simp [styleOk, q1]
    repeat (first | refine SX.seq ?_ | refine SXl.nil ?_ | refine SX.region ?_ | refine SQ.thenNormal ?_ | refine SX.condT rfl ?_ | (refine SXl.no rfl rfl rfl ?_) | (refine l_call ?_; (refine SXl.v (OpW.calls rfl (fun w _ => in_any _ _ _ _)) rfl ?_ ?_ ?_); rfl; rfl) | (refine l_load ?_; (refine SXl.v (OpW.load 0 rfl rfl rfl) rfl ?_ ?_ ?_); rfl; rfl) | (refine l_fieldAddr ?_; (refine SXl.v (OpW.fieldAddr rfl) rfl ?_ ?_ ?_); rfl; rfl) | (refine l_move ?_; (refine SXl.v (OpW.move rfl) rfl ?_ ?_ ?_); rfl; rfl) | (refine l_assign ?_; (refine SXl.v (OpW.assign rfl) rfl ?_ ?_ ?_); rfl; rfl) | (refine l_not ?_; (refine SXl.v (OpW.not rfl) rfl ?_ ?_ ?_); rfl; rfl) | (refine l_pick ?_; (refine SXl.v (OpW.pick rfl rfl rfl) rfl ?_ ?_ ?_); rfl; rfl) | (refine l_box ?_; refine SXl.box ?_ ?_ rfl rfl (fun g => ?_); rfl; rfl) | ((first | rw [q0] | rw [q1])) | refine SX.ret ?_ | refine SQ.thenRet ?_)
    refine SQ.body1 rfl rfl (fun w' hl => ⟨ret_bool hv.symm, hl.mod⟩)
  cases q2 : inB x.justify 1 6
  · have hv : styleOk x = false := by simp [styleOk, q2]
    repeat (first | refine SX.seq ?_ | refine SXl.nil ?_ | refine SX.region ?_ | refine SQ.thenNormal ?_ | refine SX.condT rfl ?_ | (refine SXl.no rfl rfl rfl ?_) | (refine l_call ?_; (refine SXl.v (OpW.calls rfl (fun w _ => in_any _ _ _ _)) rfl ?_ ?_ ?_); rfl; rfl) | (refine l_load ?_; (refine SXl.v (OpW.load 0 rfl rfl rfl) rfl ?_ ?_ ?_); rfl; rfl) | (refine l_fieldAddr ?_; (refine SXl.v (OpW.fieldAddr rfl) rfl ?_ ?_ ?_); rfl; rfl) | (refine l_move ?_; (refine SXl.v (OpW.move rfl) rfl ?_ ?_ ?_); rfl; rfl) | (refine l_assign ?_; (refine SXl.v (OpW.assign rfl) rfl ?_ ?_ ?_); rfl; rfl) | (refine l_not ?_; (refine SXl.v (OpW.not rfl) rfl ?_ ?_ ?_); rfl; rfl) | (refine l_pick ?_; (refine SXl.v (OpW.pick rfl rfl rfl) rfl ?_ ?_ ?_); rfl; rfl) | (refine l_box ?_; refine SXl.box ?_ ?_ rfl rfl (fun g => ?_); rfl; rfl) | ((first | rw [q0] | rw [q1] | rw [q2])) | refine SX.ret ?_ | refine SQ.thenRet ?_)
    refine SQ.body1 rfl rfl (fun w' hl => ⟨ret_bool hv.symm, hl.mod⟩)
  cases q3 : inB x.self 0 5
  · have hv : styleOk x = false := by simp [styleOk, q3]
    repeat (first | refine SX.seq ?_ | refine SXl.nil ?_ | refine SX.region ?_ | refine SQ.thenNormal ?_ | refine SX.condT rfl ?_ | (refine SXl.no rfl rfl rfl ?_) | (refine l_call ?_; (refine SXl.v (OpW.calls rfl (fun w _ => in_any _ _ _ _)) rfl ?_ ?_ ?_); rfl; rfl) | (refine l_load ?_; (refine SXl.v (OpW.load 0 rfl rfl rfl) rfl ?_ ?_ ?_); rfl; rfl) | (refine l_fieldAddr ?_; (refine SXl.v (OpW.fieldAddr rfl) rfl ?_ ?_ ?_); rfl; rfl) | (refine l_move ?_; (refine SXl.v (OpW.move rfl) rfl ?_ ?_ ?_); rfl; rfl) | (refine l_assign ?_; (refine SXl.v (OpW.assign rfl) rfl ?_ ?_ ?_); rfl; rfl) | (refine l_not ?_; (refine SXl.v (OpW.not rfl) rfl ?_ ?_ ?_); rfl; rfl) | (refine l_pick ?_; (refine SXl.v (OpW.pick rfl rfl rfl) rfl ?_ ?_ ?_); rfl; rfl) | (refine l_box ?_; refine SXl.box ?_ ?_ rfl rfl (fun g => ?_); rfl; rfl) | ((first | rw [q0] | rw [q1] | rw [q2] | rw [q3])) | refine SX.ret ?_ | refine SQ.thenRet ?_)
    refine SQ.body1 rfl rfl (fun w' hl => ⟨ret_bool hv.symm, hl.mod⟩)
  cases q4 : inB x.content 1 6
  · have hv : styleOk x = false := by simp [styleOk, q4]
    repeat (first | refine SX.seq ?_ | refine SXl.nil ?_ | refine SX.region ?_ | refine SQ.thenNormal ?_ | refine SX.condT rfl ?_ | (refine SXl.no rfl rfl rfl ?_) | (refine l_call ?_; (refine SXl.v (OpW.calls rfl (fun w _ => in_any _ _ _ _)) rfl ?_ ?_ ?_); rfl; rfl) | (refine l_load ?_; (refine SXl.v (OpW.load 0 rfl rfl rfl) rfl ?_ ?_ ?_); rfl; rfl) | (refine l_fieldAddr ?_; (refine SXl.v (OpW.fieldAddr rfl) rfl ?_ ?_ ?_); rfl; rfl) | (refine l_move ?_; (refine SXl.v (OpW.move rfl) rfl ?_ ?_ ?_); rfl; rfl) | (refine l_assign ?_; (refine SXl.v (OpW.assign rfl) rfl ?_ ?_ ?_); rfl; rfl) | (refine l_not ?_; (refine SXl.v (OpW.not rfl) rfl ?_ ?_ ?_); rfl; rfl) | (refine l_pick ?_; (refine SXl.v (OpW.pick rfl rfl rfl) rfl ?_ ?_ ?_); rfl; rfl) | (refine l_box ?_; refine SXl.box ?_ ?_ rfl rfl (fun g => ?_); rfl; rfl) | ((first | rw [q0] | rw [q1] | rw [q2] | rw [q3] | rw [q4])) | refine SX.ret ?_ | refine SQ.thenRet ?_)
    refine SQ.body1 rfl rfl (fun w' hl => ⟨ret_bool hv.symm, hl.mod⟩)
  cases q5 : inB x.items 1 5
  · have hv : styleOk x = false := by simp [styleOk, q5]
    repeat (first | refine SX.seq ?_ | refine SXl.nil ?_ | refine SX.region ?_ | refine SQ.thenNormal ?_ | refine SX.condT rfl ?_ | (refine l_call ?_; (refine SXl.v (OpW.calls rfl (fun w _ => in_any _ _ _ _)) rfl ?_ ?_ ?_); rfl; rfl) | (refine l_load ?_; (refine SXl.v (OpW.load 0 rfl rfl rfl) rfl ?_ ?_ ?_); rfl; rfl) | (refine l_fieldAddr ?_; (refine SXl.v (OpW.fieldAddr rfl) rfl ?_ ?_ ?_); rfl; rfl) | (refine l_move ?_; (refine SXl.v (OpW.move rfl) rfl ?_ ?_ ?_); rfl; rfl) | (refine l_assign ?_; (refine SXl.v (OpW.assign rfl) rfl ?_ ?_ ?_); rfl; rfl) | (refine l_not ?_; (refine SXl.v (OpW.not rfl) rfl ?_ ?_ ?_); rfl; rfl) | (refine l_pick ?_; (refine SXl.v (OpW.pick rfl rfl rfl) rfl ?_ ?_ ?_); rfl; rfl) | (refine l_box ?_; refine SXl.box ?_ ?_ rfl rfl (fun g => ?_); rfl; rfl) | ((first | rw [q0] | rw [q1] | rw [q2] | rw [q3] | rw [q4] | rw [q5])) | refine SX.ret ?_ | refine SQ.thenRet ?_)
    refine SQ.body1 rfl rfl (fun w' hl => ⟨ret_bool hv.symm, hl.mod⟩)
  cases q6 : inB x.order (-1000) 1000
  · have hv : styleOk x = false := by simp [styleOk, q6]
    repeat (first | refine SX.seq ?_ | refine SXl.nil ?_ | refine SX.region ?_ | refine SQ.thenNormal ?_ | refine SX.skip ?_ | refine SX.condT rfl ?_ | refine SX.condF rfl ?_ | (refine SXl.no rfl rfl rfl ?_) | (refine l_call ?_; (refine SXl.v (OpW.calls rfl (fun w _ => in_any _ _ _ _)) rfl ?_ ?_ ?_); rfl; rfl) | (refine l_load ?_; (refine SXl.v (OpW.load 0 rfl rfl rfl) rfl ?_ ?_ ?_); rfl; rfl) | (refine l_fieldAddr ?_; (refine SXl.v (OpW.fieldAddr rfl) rfl ?_ ?_ ?_); rfl; rfl) | (refine l_move ?_; (refine SXl.v (OpW.move rfl) rfl ?_ ?_ ?_); rfl; rfl) | (refine l_assign ?_; (refine SXl.v (OpW.assign rfl) rfl ?_ ?_ ?_); rfl; rfl) | (refine l_not ?_; (refine SXl.v (OpW.not rfl) rfl ?_ ?_ ?_); rfl; rfl) | (refine l_pick ?_; (refine SXl.v (OpW.pick rfl rfl rfl) rfl ?_ ?_ ?_); rfl; rfl) | (refine l_box ?_; refine SXl.box ?_ ?_ rfl rfl (fun g => ?_); rfl; rfl) | ((first | rw [q0] | rw [q1] | rw [q2] | rw [q3] | rw [q4] | rw [q5] | rw [q6])) | refine SX.ret ?_ | refine SQ.thenRet ?_)
    refine SQ.body1 rfl rfl (fun w' hl => ⟨ret_bool hv.symm, hl.mod⟩)
  cases q7 : inB x.grow 0 1000
  · have hv : styleOk x = false := by simp [styleOk, q7]
    repeat (first | refine SX.seq ?_ | refine SXl.nil ?_ | refine SX.region ?_ | refine SQ.thenNormal ?_ | refine SX.skip ?_ | refine SX.condT rfl ?_ | refine SX.condF rfl ?_ | (refine SXl.no rfl rfl rfl ?_) | (refine l_call ?_; (refine SXl.v (OpW.calls rfl (fun w _ => in_any _ _ _ _)) rfl ?_ ?_ ?_); rfl; rfl) | (refine l_load ?_; (refine SXl.v (OpW.load 0 rfl rfl rfl) rfl ?_ ?_ ?_); rfl; rfl) | (refine l_fieldAddr ?_; (refine SXl.v (OpW.fieldAddr rfl) rfl ?_ ?_ ?_); rfl; rfl) | (refine l_move ?_; (refine SXl.v (OpW.move rfl) rfl ?_ ?_ ?_); rfl; rfl) | (refine l_assign ?_; (refine SXl.v (OpW.assign rfl) rfl ?_ ?_ ?_); rfl; rfl) | (refine l_not ?_; (refine SXl.v (OpW.not rfl) rfl ?_ ?_ ?_); rfl; rfl) | (refine l_pick ?_; (refine SXl.v (OpW.pick rfl rfl rfl) rfl ?_ ?_ ?_); rfl; rfl) | (refine l_box ?_; refine SXl.box ?_ ?_ rfl rfl (fun g => ?_); rfl; rfl) | ((first | rw [q0] | rw [q1] | rw [q2] | rw [q3] | rw [q4] | rw [q5] | rw [q6] | rw [q7])) | refine SX.ret ?_ | refine SQ.thenRet ?_)
    refine SQ.body1 rfl rfl (fun w' hl => ⟨ret_bool hv.symm, hl.mod⟩)
  cases q8 : inB x.shrink 0 1000
  · have hv : styleOk x = false := by simp [styleOk, q8]
    repeat (first | refine SX.seq ?_ | refine SXl.nil ?_ | refine SX.region ?_ | refine SQ.thenNormal ?_ | refine SX.skip ?_ | refine SX.condT rfl ?_ | refine SX.condF rfl ?_ | (refine SXl.no rfl rfl rfl ?_) | (refine l_call ?_; (refine SXl.v (OpW.calls rfl (fun w _ => in_any _ _ _ _)) rfl ?_ ?_ ?_); rfl; rfl) | (refine l_load ?_; (refine SXl.v (OpW.load 0 rfl rfl rfl) rfl ?_ ?_ ?_); rfl; rfl) | (refine l_fieldAddr ?_; (refine SXl.v (OpW.fieldAddr rfl) rfl ?_ ?_ ?_); rfl; rfl) | (refine l_move ?_; (refine SXl.v (OpW.move rfl) rfl ?_ ?_ ?_); rfl; rfl) | (refine l_assign ?_; (refine SXl.v (OpW.assign rfl) rfl ?_ ?_ ?_); rfl; rfl) | (refine l_not ?_; (refine SXl.v (OpW.not rfl) rfl ?_ ?_ ?_); rfl; rfl) | (refine l_pick ?_; (refine SXl.v (OpW.pick rfl rfl rfl) rfl ?_ ?_ ?_); rfl; rfl) | (refine l_box ?_; refine SXl.box ?_ ?_ rfl rfl (fun g => ?_); rfl; rfl) | ((first | rw [q0] | rw [q1] | rw [q2] | rw [q3] | rw [q4] | rw [q5] | rw [q6] | rw [q7] | rw [q8])) | refine SX.ret ?_ | refine SQ.thenRet ?_)
    refine SQ.body1 rfl rfl (fun w' hl => ⟨ret_bool hv.symm, hl.mod⟩)
  cases q9 : inB x.ratio 0 6400
  · have hv : styleOk x = false := by simp [styleOk, q9]
    repeat (first | refine SX.seq ?_ | refine SXl.nil ?_ | refine SX.region ?_ | refine SQ.thenNormal ?_ | refine SX.skip ?_ | refine SX.condT rfl ?_ | refine SX.condF rfl ?_ | (refine SXl.no rfl rfl rfl ?_) | (refine l_call ?_; (refine SXl.v (OpW.calls rfl (fun w _ => in_any _ _ _ _)) rfl ?_ ?_ ?_); rfl; rfl) | (refine l_load ?_; (refine SXl.v (OpW.load 0 rfl rfl rfl) rfl ?_ ?_ ?_); rfl; rfl) | (refine l_fieldAddr ?_; (refine SXl.v (OpW.fieldAddr rfl) rfl ?_ ?_ ?_); rfl; rfl) | (refine l_move ?_; (refine SXl.v (OpW.move rfl) rfl ?_ ?_ ?_); rfl; rfl) | (refine l_assign ?_; (refine SXl.v (OpW.assign rfl) rfl ?_ ?_ ?_); rfl; rfl) | (refine l_not ?_; (refine SXl.v (OpW.not rfl) rfl ?_ ?_ ?_); rfl; rfl) | (refine l_pick ?_; (refine SXl.v (OpW.pick rfl rfl rfl) rfl ?_ ?_ ?_); rfl; rfl) | (refine l_box ?_; refine SXl.box ?_ ?_ rfl rfl (fun g => ?_); rfl; rfl) | ((first | rw [q0] | rw [q1] | rw [q2] | rw [q3] | rw [q4] | rw [q5] | rw [q6] | rw [q7] | rw [q8] | rw [q9])) | refine SX.ret ?_ | refine SQ.thenRet ?_)
    refine SQ.body1 rfl rfl (fun w' hl => ⟨ret_bool hv.symm, hl.mod⟩)
  cases q10 : inB x.rowGap 0 1048576
  · have hv : styleOk x = false := by simp [styleOk, q10]
    repeat (first | refine SX.seq ?_ | refine SXl.nil ?_ | refine SX.region ?_ | refine SQ.thenNormal ?_ | refine SX.skip ?_ | refine SX.condT rfl ?_ | refine SX.condF rfl ?_ | (refine SXl.no rfl rfl rfl ?_) | (refine l_call ?_; (refine SXl.v (OpW.calls rfl (fun w _ => in_any _ _ _ _)) rfl ?_ ?_ ?_); rfl; rfl) | (refine l_load ?_; (refine SXl.v (OpW.load 0 rfl rfl rfl) rfl ?_ ?_ ?_); rfl; rfl) | (refine l_fieldAddr ?_; (refine SXl.v (OpW.fieldAddr rfl) rfl ?_ ?_ ?_); rfl; rfl) | (refine l_move ?_; (refine SXl.v (OpW.move rfl) rfl ?_ ?_ ?_); rfl; rfl) | (refine l_assign ?_; (refine SXl.v (OpW.assign rfl) rfl ?_ ?_ ?_); rfl; rfl) | (refine l_not ?_; (refine SXl.v (OpW.not rfl) rfl ?_ ?_ ?_); rfl; rfl) | (refine l_pick ?_; (refine SXl.v (OpW.pick rfl rfl rfl) rfl ?_ ?_ ?_); rfl; rfl) | (refine l_box ?_; refine SXl.box ?_ ?_ rfl rfl (fun g => ?_); rfl; rfl) | ((first | rw [q0] | rw [q1] | rw [q2] | rw [q3] | rw [q4] | rw [q5] | rw [q6] | rw [q7] | rw [q8] | rw [q9] | rw [q10])) | refine SX.ret ?_ | refine SQ.thenRet ?_)
    refine SQ.body1 rfl rfl (fun w' hl => ⟨ret_bool hv.symm, hl.mod⟩)
  cases q11 : inB x.colGap 0 1048576
  · have hv : styleOk x = false := by simp [styleOk, q11]
    repeat (first | refine SX.seq ?_ | refine SXl.nil ?_ | refine SX.region ?_ | refine SQ.thenNormal ?_ | refine SX.skip ?_ | refine SX.condT rfl ?_ | refine SX.condF rfl ?_ | (refine l_call ?_; (refine SXl.v (OpW.calls rfl (fun w _ => in_any _ _ _ _)) rfl ?_ ?_ ?_); rfl; rfl) | (refine l_load ?_; (refine SXl.v (OpW.load 0 rfl rfl rfl) rfl ?_ ?_ ?_); rfl; rfl) | (refine l_fieldAddr ?_; (refine SXl.v (OpW.fieldAddr rfl) rfl ?_ ?_ ?_); rfl; rfl) | (refine l_move ?_; (refine SXl.v (OpW.move rfl) rfl ?_ ?_ ?_); rfl; rfl) | (refine l_assign ?_; (refine SXl.v (OpW.assign rfl) rfl ?_ ?_ ?_); rfl; rfl) | (refine l_not ?_; (refine SXl.v (OpW.not rfl) rfl ?_ ?_ ?_); rfl; rfl) | (refine l_pick ?_; (refine SXl.v (OpW.pick rfl rfl rfl) rfl ?_ ?_ ?_); rfl; rfl) | (refine l_box ?_; refine SXl.box ?_ ?_ rfl rfl (fun g => ?_); rfl; rfl) | ((first | rw [q0] | rw [q1] | rw [q2] | rw [q3] | rw [q4] | rw [q5] | rw [q6] | rw [q7] | rw [q8] | rw [q9] | rw [q10] | rw [q11])) | refine SX.ret ?_ | refine SQ.thenRet ?_)
    refine SQ.body1 rfl rfl (fun w' hl => ⟨ret_bool hv.symm, hl.mod⟩)
  repeat (first | refine SX.seq ?_ | refine SXl.nil ?_ | refine SX.region ?_ | refine SQ.thenNormal ?_ | refine SX.skip ?_ | refine SX.condF rfl ?_ | (refine l_call ?_; (refine SXl.v (OpW.calls rfl (fun w _ => in_any _ _ _ _)) rfl ?_ ?_ ?_); rfl; rfl) | (refine l_load ?_; (first | refine SXl.v (OpW.load 0 rfl rfl rfl) rfl ?_ ?_ ?_ | refine SXl.v (OpW.loadRow 0 rfl rfl rfl rfl) rfl ?_ ?_ ?_); rfl; rfl) | (refine l_fieldAddr ?_; (refine SXl.v (OpW.fieldAddr rfl) rfl ?_ ?_ ?_); rfl; rfl) | (refine l_move ?_; (refine SXl.v (OpW.move rfl) rfl ?_ ?_ ?_); rfl; rfl) | (refine l_assign ?_; (refine SXl.v (OpW.assign rfl) rfl ?_ ?_ ?_); rfl; rfl) | (refine l_not ?_; (refine SXl.v (OpW.not rfl) rfl ?_ ?_ ?_); rfl; rfl) | (refine l_pick ?_; (refine SXl.v (OpW.pick rfl rfl rfl) rfl ?_ ?_ ?_); rfl; rfl) | (refine l_box ?_; refine SXl.box ?_ ?_ rfl rfl (fun g => ?_); rfl; rfl) | ((first | rw [q0] | rw [q1] | rw [q2] | rw [q3] | rw [q4] | rw [q5] | rw [q6] | rw [q7] | rw [q8] | rw [q9] | rw [q10] | rw [q11])))
  refine l_buildSlice ?_
  refine SXl.litRow (cells := [.int .i64 x.basis.kind, .int .i64 x.basis.n, .int .i64 x.width.kind, .int .i64 x.width.n, .int .i64 x.height.kind, .int .i64 x.height.n, .int .i64 x.minWidth.kind, .int .i64 x.minWidth.n, .int .i64 x.minHeight.kind, .int .i64 x.minHeight.n, .int .i64 x.maxWidth.kind, .int .i64 x.maxWidth.n, .int .i64 x.maxHeight.kind, .int .i64 x.maxHeight.n]) ?_ ?_ rfl (by decide) (by decide) ?_ (fun g5 => ?_)
  rfl
  rfl
  kernel_rfl
  repeat (first | refine SXl.nil ?_ | refine SQ.thenNormal ?_ | refine SX.block ?_ | (refine l_move ?_; (refine SXl.v (OpW.move rfl) rfl ?_ ?_ ?_); rfl; rfl) | (refine l_len ?_; (refine SXl.v (OpW.len rfl) rfl ?_ ?_ ?_); rfl; rfl))
  refine SX.loopi (fun k : Nat => k ≤ 7 ∧ ∀ i v, i < k → (vals7 x)[i]? = some v → sizeOk v = true) (fun k => 7 - k) (fun _ => [⟨g5, [.int .i64 x.basis.kind, .int .i64 x.basis.n, .int .i64 x.width.kind, .int .i64 x.width.n, .int .i64 x.height.kind, .int .i64 x.height.n, .int .i64 x.minWidth.kind, .int .i64 x.minWidth.n, .int .i64 x.minHeight.kind, .int .i64 x.minHeight.n, .int .i64 x.maxWidth.kind, .int .i64 x.maxWidth.n, .int .i64 x.maxHeight.kind, .int .i64 x.maxHeight.n], 74⟩, ⟨g, x.cells, 80⟩]) (fun _ => []) (fun _ => []) (fun k => [(1, .pointer (some ⟨g, 0, none⟩)), (87, .slice (some ⟨g5, 0, none⟩) 7 7), (88, .int .i64 7), (89, .int .i64 k)]) 0 ⟨Nat.zero_le _, fun i x h => absurd h (Nat.not_lt_zero _)⟩ ?_ (fun _ hl => hl) ?_
  · (repeat (first | exact subF_nil _ | (refine subF_cons rfl ?_) | (refine subF_consv rfl (by rfl) ?_)))
  rintro k ⟨hk, hs⟩
  by_cases hlt : k < 7
  · obtain ⟨v, hv7, hrow⟩ := vals7_at x hlt
    have hle : 0 + k * 2 + 2 ≤ 14 := by omega
    cases hb : sizeOk v
    · have hv := styleOk_size hv7 hb
      repeat (first | refine SX.seq ?_ | refine SXl.nil ?_ | refine SX.region ?_ | refine SQ.thenNormal ?_ | refine SX.block ?_ | refine SX.skip ?_ | refine SX.condT rfl ?_ | (refine l_load ?_; (first | refine SXl.v (OpW.loadRow (cells := [.int .i64 x.basis.kind, .int .i64 x.basis.n, .int .i64 x.width.kind, .int .i64 x.width.n, .int .i64 x.height.kind, .int .i64 x.height.n, .int .i64 x.minWidth.kind, .int .i64 x.minWidth.n, .int .i64 x.minHeight.kind, .int .i64 x.minHeight.n, .int .i64 x.maxWidth.kind, .int .i64 x.maxWidth.n, .int .i64 x.maxHeight.kind, .int .i64 x.maxHeight.n]) 0 rfl rfl (Nat.ble_eq_true_of_le hle) hrow) rfl ?_ ?_ ?_ | refine SXl.v (OpW.loadAll 0 rfl rfl rfl) rfl ?_ ?_ ?_); rfl; rfl) | (refine l_call ?_; (refine SXl.v (OpW.call rfl (fun w hl => sizeOk_any _ _)) rfl ?_ ?_ ?_); rfl; rfl) | (refine l_assign ?_; (refine SXl.v (OpW.assign rfl) rfl ?_ ?_ ?_); rfl; rfl) | (refine l_lss ?_; (refine SXl.v (OpW.lssT rfl rfl (by omega)) rfl ?_ ?_ ?_); rfl; rfl) | (refine l_not ?_; (refine SXl.v (OpW.not rfl) rfl ?_ ?_ ?_); rfl; rfl) | (refine l_indexAddr ?_; (refine SXl.v (OpW.indexAddr (by omega) rfl rfl) rfl ?_ ?_ ?_); rfl; rfl) | (refine l_alloc ?_; refine SXl.alloc ?_ ?_ (fun g => ?_); rfl; rfl) | (refine l_store ?_; first | (refine SXl.storeAll 0 ?_ rfl rfl rfl rfl rfl rfl rfl ?_; rfl; simp only [List.set_cons_zero, List.set_cons_succ]) | (refine SXl.storeAll 1 ?_ rfl rfl rfl rfl rfl rfl rfl ?_; rfl; simp only [List.set_cons_zero, List.set_cons_succ]) | (refine SXl.storeAll 2 ?_ rfl rfl rfl rfl rfl rfl rfl ?_; rfl; simp only [List.set_cons_zero, List.set_cons_succ]) | (refine SXl.storeRow 0 ?_ rfl rfl rfl rfl rfl rfl rfl ?_; rfl; simp only [over, List.set_cons_zero, List.set_cons_succ]) | (refine SXl.storeRow 1 ?_ rfl rfl rfl rfl rfl rfl rfl ?_; rfl; simp only [over, List.set_cons_zero, List.set_cons_succ]) | (refine SXl.storeRow 2 ?_ rfl rfl rfl rfl rfl rfl rfl ?_; rfl; simp only [over, List.set_cons_zero, List.set_cons_succ])) | (rw [hb]) | refine SX.ret ?_ | refine SQ.thenRet ?_ | refine SQ.blockRet ?_)
      refine SQ.body1 rfl rfl (fun w' hl => ⟨ret_bool hv.symm, hl.mod⟩)
    · repeat (first | refine SX.seq ?_ | refine SXl.nil ?_ | refine SX.region ?_ | refine SQ.thenNormal ?_ | refine SX.block ?_ | refine SX.skip ?_ | refine SX.condT rfl ?_ | refine SX.condF rfl ?_ | (refine l_load ?_; (first | refine SXl.v (OpW.loadRow (cells := [.int .i64 x.basis.kind, .int .i64 x.basis.n, .int .i64 x.width.kind, .int .i64 x.width.n, .int .i64 x.height.kind, .int .i64 x.height.n, .int .i64 x.minWidth.kind, .int .i64 x.minWidth.n, .int .i64 x.minHeight.kind, .int .i64 x.minHeight.n, .int .i64 x.maxWidth.kind, .int .i64 x.maxWidth.n, .int .i64 x.maxHeight.kind, .int .i64 x.maxHeight.n]) 0 rfl rfl (Nat.ble_eq_true_of_le hle) hrow) rfl ?_ ?_ ?_ | refine SXl.v (OpW.loadAll 0 rfl rfl rfl) rfl ?_ ?_ ?_); rfl; rfl) | (refine l_call ?_; (refine SXl.v (OpW.call rfl (fun w hl => sizeOk_any _ _)) rfl ?_ ?_ ?_); rfl; rfl) | (refine l_move ?_; (refine SXl.v (OpW.move rfl) rfl ?_ ?_ ?_); rfl; rfl) | (refine l_add ?_; (refine SXl.v (OpW.succ rfl rfl (by omega)) rfl ?_ ?_ ?_); rfl; rfl) | (refine l_lss ?_; (refine SXl.v (OpW.lssT rfl rfl (by omega)) rfl ?_ ?_ ?_); rfl; rfl) | (refine l_not ?_; (refine SXl.v (OpW.not rfl) rfl ?_ ?_ ?_); rfl; rfl) | (refine l_indexAddr ?_; (refine SXl.v (OpW.indexAddr (by omega) rfl rfl) rfl ?_ ?_ ?_); rfl; rfl) | (refine l_alloc ?_; refine SXl.alloc ?_ ?_ (fun g => ?_); rfl; rfl) | (refine l_store ?_; first | (refine SXl.storeAll 0 ?_ rfl rfl rfl rfl rfl rfl rfl ?_; rfl; simp only [List.set_cons_zero, List.set_cons_succ]) | (refine SXl.storeAll 1 ?_ rfl rfl rfl rfl rfl rfl rfl ?_; rfl; simp only [List.set_cons_zero, List.set_cons_succ]) | (refine SXl.storeAll 2 ?_ rfl rfl rfl rfl rfl rfl rfl ?_; rfl; simp only [List.set_cons_zero, List.set_cons_succ]) | (refine SXl.storeRow 0 ?_ rfl rfl rfl rfl rfl rfl rfl ?_; rfl; simp only [over, List.set_cons_zero, List.set_cons_succ]) | (refine SXl.storeRow 1 ?_ rfl rfl rfl rfl rfl rfl rfl ?_; rfl; simp only [over, List.set_cons_zero, List.set_cons_succ]) | (refine SXl.storeRow 2 ?_ rfl rfl rfl rfl rfl rfl rfl ?_; rfl; simp only [over, List.set_cons_zero, List.set_cons_succ])) | (rw [hb]) | refine SQ.blockNormal ?_)
      refine SQ.roundi (k + 1) ⟨by omega, vto_succ hs hv7 hb⟩ (by omega) ?_ (fun _ hl => hl.drop1)
      (repeat (first | exact subF_nil _ | (refine subF_cons rfl ?_) | (refine subF_consv rfl (by rfl) ?_)))
  have hk7 : k = 7 := by omega
  subst hk7
  have hall := vals7_all hs
  cases p0 : sidesOk x.margin
  · have hv : styleOk x = false := by simp [styleOk, p0]
    repeat (first | refine SX.seq ?_ | refine SXl.nil ?_ | refine SX.region ?_ | refine SQ.thenNormal ?_ | refine SX.condF rfl ?_ | (refine SXl.no rfl rfl rfl ?_) | (refine l_call ?_; (refine SXl.v (OpW.call rfl (fun w hl => sidesOk_any _ _)) rfl ?_ ?_ ?_); rfl; rfl) | (refine l_load ?_; (refine SXl.v (OpW.loadRow 1 rfl rfl rfl rfl) rfl ?_ ?_ ?_); rfl; rfl) | (refine l_fieldAddr ?_; (refine SXl.v (OpW.fieldAddr rfl) rfl ?_ ?_ ?_); rfl; rfl) | (refine l_move ?_; (refine SXl.v (OpW.move rfl) rfl ?_ ?_ ?_); rfl; rfl) | (refine l_assign ?_; (refine SXl.v (OpW.assign rfl) rfl ?_ ?_ ?_); rfl; rfl) | (refine l_lss ?_; (refine SXl.v (OpW.lssF rfl rfl (by omega)) rfl ?_ ?_ ?_); rfl; rfl) | (refine l_pick ?_; (refine SXl.v (OpW.pick rfl rfl rfl) rfl ?_ ?_ ?_); rfl; rfl) | ((rw [p0])) | refine SX.ret ?_ | refine SX.exit ?_ | refine SQ.thenExit ?_ | refine SQ.blockExit ?_)
    refine SQ.body1 rfl rfl (fun w' hl => ⟨ret_bool hv.symm, hl.mod⟩)
  cases p1 : sidesOk x.inset
  · have hv : styleOk x = false := by simp [styleOk, p1]
    repeat (first | refine SX.seq ?_ | refine SXl.nil ?_ | refine SX.region ?_ | refine SQ.thenNormal ?_ | refine SX.condF rfl ?_ | (refine SXl.no rfl rfl rfl ?_) | (refine l_call ?_; (refine SXl.v (OpW.call rfl (fun w hl => sidesOk_any _ _)) rfl ?_ ?_ ?_); rfl; rfl) | (refine l_load ?_; (refine SXl.v (OpW.loadRow 1 rfl rfl rfl rfl) rfl ?_ ?_ ?_); rfl; rfl) | (refine l_fieldAddr ?_; (refine SXl.v (OpW.fieldAddr rfl) rfl ?_ ?_ ?_); rfl; rfl) | (refine l_move ?_; (refine SXl.v (OpW.move rfl) rfl ?_ ?_ ?_); rfl; rfl) | (refine l_assign ?_; (refine SXl.v (OpW.assign rfl) rfl ?_ ?_ ?_); rfl; rfl) | (refine l_lss ?_; (refine SXl.v (OpW.lssF rfl rfl (by omega)) rfl ?_ ?_ ?_); rfl; rfl) | (refine l_pick ?_; (refine SXl.v (OpW.pick rfl rfl rfl) rfl ?_ ?_ ?_); rfl; rfl) | ((first | rw [p0] | rw [p1])) | refine SX.ret ?_ | refine SX.exit ?_ | refine SQ.thenExit ?_ | refine SQ.blockExit ?_)
    refine SQ.body1 rfl rfl (fun w' hl => ⟨ret_bool hv.symm, hl.mod⟩)
  cases p2 : edgesOk x.pad
  · have hv : styleOk x = false := by simp [styleOk, p2]
    repeat (first | refine SX.seq ?_ | refine SXl.nil ?_ | refine SX.region ?_ | refine SQ.thenNormal ?_ | refine SX.condF rfl ?_ | (refine SXl.no rfl rfl rfl ?_) | (refine l_call ?_; (first | refine SXl.v (OpW.call rfl (fun w hl => sidesOk_any _ _)) rfl ?_ ?_ ?_ | refine SXl.v (OpW.call rfl (fun w hl => edgesOk_any _ _)) rfl ?_ ?_ ?_); rfl; rfl) | (refine l_load ?_; (refine SXl.v (OpW.loadRow 1 rfl rfl rfl rfl) rfl ?_ ?_ ?_); rfl; rfl) | (refine l_fieldAddr ?_; (refine SXl.v (OpW.fieldAddr rfl) rfl ?_ ?_ ?_); rfl; rfl) | (refine l_move ?_; (refine SXl.v (OpW.move rfl) rfl ?_ ?_ ?_); rfl; rfl) | (refine l_assign ?_; (refine SXl.v (OpW.assign rfl) rfl ?_ ?_ ?_); rfl; rfl) | (refine l_lss ?_; (refine SXl.v (OpW.lssF rfl rfl (by omega)) rfl ?_ ?_ ?_); rfl; rfl) | (refine l_pick ?_; (refine SXl.v (OpW.pick rfl rfl rfl) rfl ?_ ?_ ?_); rfl; rfl) | ((first | rw [p0] | rw [p1] | rw [p2])) | refine SX.ret ?_ | refine SX.exit ?_ | refine SQ.thenExit ?_ | refine SQ.blockExit ?_)
    refine SQ.body1 rfl rfl (fun w' hl => ⟨ret_bool hv.symm, hl.mod⟩)
  cases p3 : edgesOk x.border
  · have hv : styleOk x = false := by simp [styleOk, p3]
    repeat (first | refine SX.seq ?_ | refine SXl.nil ?_ | refine SX.region ?_ | refine SQ.thenNormal ?_ | refine SX.condF rfl ?_ | (refine l_call ?_; (first | refine SXl.v (OpW.call rfl (fun w hl => sidesOk_any _ _)) rfl ?_ ?_ ?_ | refine SXl.v (OpW.call rfl (fun w hl => edgesOk_any _ _)) rfl ?_ ?_ ?_); rfl; rfl) | (refine l_load ?_; (refine SXl.v (OpW.loadRow 1 rfl rfl rfl rfl) rfl ?_ ?_ ?_); rfl; rfl) | (refine l_fieldAddr ?_; (refine SXl.v (OpW.fieldAddr rfl) rfl ?_ ?_ ?_); rfl; rfl) | (refine l_move ?_; (refine SXl.v (OpW.move rfl) rfl ?_ ?_ ?_); rfl; rfl) | (refine l_assign ?_; (refine SXl.v (OpW.assign rfl) rfl ?_ ?_ ?_); rfl; rfl) | (refine l_lss ?_; (refine SXl.v (OpW.lssF rfl rfl (by omega)) rfl ?_ ?_ ?_); rfl; rfl) | (refine l_pick ?_; (refine SXl.v (OpW.pick rfl rfl rfl) rfl ?_ ?_ ?_); rfl; rfl) | ((first | rw [p0] | rw [p1] | rw [p2] | rw [p3])) | refine SX.ret ?_ | refine SX.exit ?_ | refine SQ.thenExit ?_ | refine SQ.blockExit ?_)
    refine SQ.body1 rfl rfl (fun w' hl => ⟨ret_bool hv.symm, hl.mod⟩)
  have hv : styleOk x = true := by simp [styleOk, hall, q0, q1, q2, q3, q4, q5, q6, q7, q8, q9, q10, q11, p0, p1, p2, p3]
  repeat (first | refine SX.seq ?_ | refine SXl.nil ?_ | refine SX.region ?_ | refine SQ.thenNormal ?_ | refine SX.condF rfl ?_ | (refine l_call ?_; (first | refine SXl.v (OpW.call rfl (fun w hl => sidesOk_any _ _)) rfl ?_ ?_ ?_ | refine SXl.v (OpW.call rfl (fun w hl => edgesOk_any _ _)) rfl ?_ ?_ ?_); rfl; rfl) | (refine l_load ?_; (refine SXl.v (OpW.loadRow 1 rfl rfl rfl rfl) rfl ?_ ?_ ?_); rfl; rfl) | (refine l_fieldAddr ?_; (refine SXl.v (OpW.fieldAddr rfl) rfl ?_ ?_ ?_); rfl; rfl) | (refine l_move ?_; (refine SXl.v (OpW.move rfl) rfl ?_ ?_ ?_); rfl; rfl) | (refine l_assign ?_; (refine SXl.v (OpW.assign rfl) rfl ?_ ?_ ?_); rfl; rfl) | (refine l_lss ?_; (refine SXl.v (OpW.lssF rfl rfl (by omega)) rfl ?_ ?_ ?_); rfl; rfl) | (refine l_pick ?_; (refine SXl.v (OpW.pick rfl rfl rfl) rfl ?_ ?_ ?_); rfl; rfl) | ((first | rw [p0] | rw [p1] | rw [p2] | rw [p3])) | refine SX.ret ?_ | refine SX.exit ?_ | refine SQ.thenExit ?_ | refine SQ.blockExit ?_)
  refine SQ.body1 rfl rfl (fun w' hl => ⟨ret_bool hv.symm, hl.mod⟩)

end Go.Proofs.YtpkpkojmaebflaaGreatDoor
namespace Go.Proofs.YtpkpkojmaebflaaGreatDoor
open Go.RowKit
set_option linter.unusedVariables false
set_option linter.unusedSimpArgs false

def ruleOk (x : Rule) : Bool := inB x.room (-1) 1048576 && inB x.wide 0 1048576 && inB x.high 0 1048576
def tableOk (l : List Rule) : Bool := inB (l.length : Int) 1 6 && l.all ruleOk
theorem tableOk_no {l : List Rule} {k : Nat} {x : Rule} (hx : l[k]? = some x) (h : ruleOk x = false) : tableOk l = false := by
  have : l.all ruleOk = false := by
    rw [List.all_eq_false]
    exact ⟨x, List.mem_of_getElem? hx, by simp [h]⟩
  simp [tableOk, this]
theorem allTo_succ {l : List Rule} {k : Nat} {x : Rule} (hs : ∀ i x, i < k → l[i]? = some x → ruleOk x = true) (hx : l[k]? = some x) (h : ruleOk x = true) : ∀ i x, i < k + 1 → l[i]? = some x → ruleOk x = true := by
  intro i y hi hy
  by_cases e : i = k
  · subst e; rw [hx] at hy; cases hy; exact h
  · exact hs i y (by omega) hy
theorem all_of {l : List Rule} {k : Nat} (hs : ∀ i x, i < k → l[i]? = some x → ruleOk x = true) (hk : l.length ≤ k) : l.all ruleOk = true := by
  rw [List.all_eq_true]
  intro x hx
  obtain ⟨i, hi⟩ := List.mem_iff_getElem?.1 hx
  exact hs i x (by have := (List.getElem?_eq_some_iff.1 hi).1; omega) hi

set_option maxRecDepth 100000 in
set_option maxHeartbeats 4000000 in
theorem tableOk_any (l : List Rule) (a : Option Addr) (c : Nat) (R : Nat → Prop) (w : World) (hlen : l.length ≤ 1048576) (h : SliceAt (Flat Rule.cells) 3 R w a l) :
    Calls Tryz.prog 82 #[.agg #[.slice a l.length c]] w fun e w' => e = .returned (.bool (tableOk l)) ∧ Mod (fun _ => False) w w' := by
  refine calls_sx Tryz.func82 rfl rfl (fun a h1 h2 h3 => ((Fr.nil h1 h2).arg (h3 0 _ rfl))) ?_
  cases qn : inB (l.length : Int) 1 6
  · repeat (first | refine SX.seq ?_ | refine SXl.nil ?_ | refine SX.region ?_ | refine SQ.thenNormal ?_ | refine SX.condT rfl ?_ | (refine l_call ?_; (refine SXl.v (OpW.calls rfl (fun w _ => in_any _ _ _ _)) rfl ?_ ?_ ?_); rfl; rfl) | (refine l_load ?_; (refine SXl.v (OpW.load 0 rfl rfl rfl) rfl ?_ ?_ ?_); rfl; rfl) | (refine l_fieldAddr ?_; (refine SXl.v (OpW.fieldAddr rfl) rfl ?_ ?_ ?_); rfl; rfl) | (refine l_assign ?_; (refine SXl.v (OpW.assign rfl) rfl ?_ ?_ ?_); rfl; rfl) | (refine l_len ?_; (refine SXl.v (OpW.len rfl) rfl ?_ ?_ ?_); rfl; rfl) | (refine l_not ?_; (refine SXl.v (OpW.not rfl) rfl ?_ ?_ ?_); rfl; rfl) | (refine l_box ?_; refine SXl.box ?_ ?_ rfl rfl (fun g => ?_); rfl; rfl) | (rw [qn]) | refine SX.ret ?_ | refine SQ.thenRet ?_)
    refine SQ.body1 rfl rfl (fun w' hl => ⟨ret_bool (by symm; simp [tableOk, qn]), hl.mod⟩)
  repeat (first | refine SX.seq ?_ | refine SXl.nil ?_ | refine SX.region ?_ | refine SQ.thenNormal ?_ | refine SX.block ?_ | refine SX.skip ?_ | refine SX.condF rfl ?_ | (refine l_call ?_; (refine SXl.v (OpW.calls rfl (fun w _ => in_any _ _ _ _)) rfl ?_ ?_ ?_); rfl; rfl) | (refine l_load ?_; (refine SXl.v (OpW.load 0 rfl rfl rfl) rfl ?_ ?_ ?_); rfl; rfl) | (refine l_fieldAddr ?_; (refine SXl.v (OpW.fieldAddr rfl) rfl ?_ ?_ ?_); rfl; rfl) | (refine l_move ?_; (refine SXl.v (OpW.move rfl) rfl ?_ ?_ ?_); rfl; rfl) | (refine l_assign ?_; (refine SXl.v (OpW.assign rfl) rfl ?_ ?_ ?_); rfl; rfl) | (refine l_len ?_; (refine SXl.v (OpW.len rfl) rfl ?_ ?_ ?_); rfl; rfl) | (refine l_not ?_; (refine SXl.v (OpW.not rfl) rfl ?_ ?_ ?_); rfl; rfl) | (refine l_box ?_; refine SXl.box ?_ ?_ rfl rfl (fun g => ?_); rfl; rfl) | (rw [qn]))
  refine SX.loopi (fun k : Nat => k ≤ l.length ∧ ∀ i x, i < k → l[i]? = some x → ruleOk x = true) (fun k => l.length - k) (fun _ => [⟨g, [.slice a l.length c], 83⟩]) (fun _ => []) (fun _ => []) (fun k => [(11, .slice a l.length c), (12, .int .i64 l.length), (13, .int .i64 k)]) 0 ⟨Nat.zero_le _, fun i x h => absurd h (Nat.not_lt_zero _)⟩ ?_ (fun _ hl => hl) ?_
  · (repeat (first | exact subF_nil _ | (refine subF_cons rfl ?_) | (refine subF_consv rfl (by rfl) ?_)))
  · rintro k ⟨hk, hs⟩
    by_cases hlt : k < l.length
    · obtain ⟨b1, o1, x, r1, rfl, _, _, hxk, rfl, hl1, hc1⟩ := h.get hlt
      cases q0 : inB x.room (-1) 1048576
      · repeat (first | refine SX.seq ?_ | refine SXl.nil ?_ | refine SX.region ?_ | refine SQ.thenNormal ?_ | refine SX.block ?_ | refine SX.skip ?_ | refine SX.condT rfl ?_ | (refine SXl.no rfl rfl rfl ?_) | (refine l_load ?_; (first | refine SXl.v (OpW.loadRowOld rfl hc1 rfl (Nat.succ_pos _) (fun h => h)) rfl ?_ ?_ ?_ | refine SXl.v (OpW.load 0 rfl rfl rfl) rfl ?_ ?_ ?_); rfl; rfl) | (refine l_call ?_; (refine SXl.v (OpW.calls rfl (fun w _ => in_any _ _ _ _)) rfl ?_ ?_ ?_); rfl; rfl) | (refine l_fieldAddr ?_; (refine SXl.v (OpW.fieldAddr rfl) rfl ?_ ?_ ?_); rfl; rfl) | (refine l_move ?_; (refine SXl.v (OpW.move rfl) rfl ?_ ?_ ?_); rfl; rfl) | (refine l_assign ?_; (refine SXl.v (OpW.assign rfl) rfl ?_ ?_ ?_); rfl; rfl) | (refine l_lss ?_; (refine SXl.v (OpW.lssT rfl rfl (by omega)) rfl ?_ ?_ ?_); rfl; rfl) | (refine l_not ?_; (refine SXl.v (OpW.not rfl) rfl ?_ ?_ ?_); rfl; rfl) | (refine l_pick ?_; (refine SXl.v (OpW.pick rfl rfl rfl) rfl ?_ ?_ ?_); rfl; rfl) | (refine l_indexAddr ?_; (refine SXl.v (OpW.indexAddr (by omega) rfl rfl) rfl ?_ ?_ ?_); rfl; rfl) | (refine l_alloc ?_; refine SXl.alloc ?_ ?_ (fun g => ?_); rfl; rfl) | (refine l_store ?_; first | (refine SXl.storeAll 0 ?_ rfl rfl rfl rfl rfl rfl rfl ?_; rfl; simp only [List.set_cons_zero, List.set_cons_succ]) | (refine SXl.storeAll 1 ?_ rfl rfl rfl rfl rfl rfl rfl ?_; rfl; simp only [List.set_cons_zero, List.set_cons_succ]) | (refine SXl.storeAll 2 ?_ rfl rfl rfl rfl rfl rfl rfl ?_; rfl; simp only [List.set_cons_zero, List.set_cons_succ]) | (refine SXl.storeRow 0 ?_ rfl rfl rfl rfl rfl rfl rfl ?_; rfl; simp only [over, List.set_cons_zero, List.set_cons_succ]) | (refine SXl.storeRow 1 ?_ rfl rfl rfl rfl rfl rfl rfl ?_; rfl; simp only [over, List.set_cons_zero, List.set_cons_succ]) | (refine SXl.storeRow 2 ?_ rfl rfl rfl rfl rfl rfl rfl ?_; rfl; simp only [over, List.set_cons_zero, List.set_cons_succ])) | (rw [q0]) | refine SX.ret ?_ | refine SQ.thenRet ?_ | refine SQ.blockRet ?_)
        refine SQ.body1 rfl rfl (fun w' hl => ⟨ret_bool (by symm; exact tableOk_no hxk.out (by simp [ruleOk, q0])), hl.mod⟩)
      · cases q1 : inB x.wide 0 1048576
        · repeat (first | refine SX.seq ?_ | refine SXl.nil ?_ | refine SX.region ?_ | refine SQ.thenNormal ?_ | refine SX.block ?_ | refine SX.skip ?_ | refine SX.condT rfl ?_ | (refine SXl.no rfl rfl rfl ?_) | (refine l_load ?_; (first | refine SXl.v (OpW.loadRowOld rfl hc1 rfl (Nat.succ_pos _) (fun h => h)) rfl ?_ ?_ ?_ | refine SXl.v (OpW.load 0 rfl rfl rfl) rfl ?_ ?_ ?_); rfl; rfl) | (refine l_call ?_; (refine SXl.v (OpW.calls rfl (fun w _ => in_any _ _ _ _)) rfl ?_ ?_ ?_); rfl; rfl) | (refine l_fieldAddr ?_; (refine SXl.v (OpW.fieldAddr rfl) rfl ?_ ?_ ?_); rfl; rfl) | (refine l_move ?_; (refine SXl.v (OpW.move rfl) rfl ?_ ?_ ?_); rfl; rfl) | (refine l_assign ?_; (refine SXl.v (OpW.assign rfl) rfl ?_ ?_ ?_); rfl; rfl) | (refine l_lss ?_; (refine SXl.v (OpW.lssT rfl rfl (by omega)) rfl ?_ ?_ ?_); rfl; rfl) | (refine l_not ?_; (refine SXl.v (OpW.not rfl) rfl ?_ ?_ ?_); rfl; rfl) | (refine l_pick ?_; (refine SXl.v (OpW.pick rfl rfl rfl) rfl ?_ ?_ ?_); rfl; rfl) | (refine l_indexAddr ?_; (refine SXl.v (OpW.indexAddr (by omega) rfl rfl) rfl ?_ ?_ ?_); rfl; rfl) | (refine l_alloc ?_; refine SXl.alloc ?_ ?_ (fun g => ?_); rfl; rfl) | (refine l_store ?_; first | (refine SXl.storeAll 0 ?_ rfl rfl rfl rfl rfl rfl rfl ?_; rfl; simp only [List.set_cons_zero, List.set_cons_succ]) | (refine SXl.storeAll 1 ?_ rfl rfl rfl rfl rfl rfl rfl ?_; rfl; simp only [List.set_cons_zero, List.set_cons_succ]) | (refine SXl.storeAll 2 ?_ rfl rfl rfl rfl rfl rfl rfl ?_; rfl; simp only [List.set_cons_zero, List.set_cons_succ]) | (refine SXl.storeRow 0 ?_ rfl rfl rfl rfl rfl rfl rfl ?_; rfl; simp only [over, List.set_cons_zero, List.set_cons_succ]) | (refine SXl.storeRow 1 ?_ rfl rfl rfl rfl rfl rfl rfl ?_; rfl; simp only [over, List.set_cons_zero, List.set_cons_succ]) | (refine SXl.storeRow 2 ?_ rfl rfl rfl rfl rfl rfl rfl ?_; rfl; simp only [over, List.set_cons_zero, List.set_cons_succ])) | ((first | rw [q0] | rw [q1])) | refine SX.ret ?_ | refine SQ.thenRet ?_ | refine SQ.blockRet ?_)
          refine SQ.body1 rfl rfl (fun w' hl => ⟨ret_bool (by symm; exact tableOk_no hxk.out (by simp [ruleOk, q1])), hl.mod⟩)
        · cases q2 : inB x.high 0 1048576
          · repeat (first | refine SX.seq ?_ | refine SXl.nil ?_ | refine SX.region ?_ | refine SQ.thenNormal ?_ | refine SX.block ?_ | refine SX.skip ?_ | refine SX.condT rfl ?_ | (refine l_load ?_; (first | refine SXl.v (OpW.loadRowOld rfl hc1 rfl (Nat.succ_pos _) (fun h => h)) rfl ?_ ?_ ?_ | refine SXl.v (OpW.load 0 rfl rfl rfl) rfl ?_ ?_ ?_); rfl; rfl) | (refine l_call ?_; (refine SXl.v (OpW.calls rfl (fun w _ => in_any _ _ _ _)) rfl ?_ ?_ ?_); rfl; rfl) | (refine l_fieldAddr ?_; (refine SXl.v (OpW.fieldAddr rfl) rfl ?_ ?_ ?_); rfl; rfl) | (refine l_move ?_; (refine SXl.v (OpW.move rfl) rfl ?_ ?_ ?_); rfl; rfl) | (refine l_assign ?_; (refine SXl.v (OpW.assign rfl) rfl ?_ ?_ ?_); rfl; rfl) | (refine l_lss ?_; (refine SXl.v (OpW.lssT rfl rfl (by omega)) rfl ?_ ?_ ?_); rfl; rfl) | (refine l_not ?_; (refine SXl.v (OpW.not rfl) rfl ?_ ?_ ?_); rfl; rfl) | (refine l_pick ?_; (refine SXl.v (OpW.pick rfl rfl rfl) rfl ?_ ?_ ?_); rfl; rfl) | (refine l_indexAddr ?_; (refine SXl.v (OpW.indexAddr (by omega) rfl rfl) rfl ?_ ?_ ?_); rfl; rfl) | (refine l_alloc ?_; refine SXl.alloc ?_ ?_ (fun g => ?_); rfl; rfl) | (refine l_store ?_; first | (refine SXl.storeAll 0 ?_ rfl rfl rfl rfl rfl rfl rfl ?_; rfl; simp only [List.set_cons_zero, List.set_cons_succ]) | (refine SXl.storeAll 1 ?_ rfl rfl rfl rfl rfl rfl rfl ?_; rfl; simp only [List.set_cons_zero, List.set_cons_succ]) | (refine SXl.storeAll 2 ?_ rfl rfl rfl rfl rfl rfl rfl ?_; rfl; simp only [List.set_cons_zero, List.set_cons_succ]) | (refine SXl.storeRow 0 ?_ rfl rfl rfl rfl rfl rfl rfl ?_; rfl; simp only [over, List.set_cons_zero, List.set_cons_succ]) | (refine SXl.storeRow 1 ?_ rfl rfl rfl rfl rfl rfl rfl ?_; rfl; simp only [over, List.set_cons_zero, List.set_cons_succ]) | (refine SXl.storeRow 2 ?_ rfl rfl rfl rfl rfl rfl rfl ?_; rfl; simp only [over, List.set_cons_zero, List.set_cons_succ])) | ((first | rw [q0] | rw [q1] | rw [q2])) | refine SX.ret ?_ | refine SQ.thenRet ?_ | refine SQ.blockRet ?_)
            refine SQ.body1 rfl rfl (fun w' hl => ⟨ret_bool (by symm; exact tableOk_no hxk.out (by simp [ruleOk, q2])), hl.mod⟩)
          · repeat (first | refine SX.seq ?_ | refine SXl.nil ?_ | refine SX.region ?_ | refine SQ.thenNormal ?_ | refine SX.block ?_ | refine SX.skip ?_ | refine SX.condT rfl ?_ | refine SX.condF rfl ?_ | (refine l_load ?_; (first | refine SXl.v (OpW.loadRowOld rfl hc1 rfl (Nat.succ_pos _) (fun h => h)) rfl ?_ ?_ ?_ | refine SXl.v (OpW.load 0 rfl rfl rfl) rfl ?_ ?_ ?_); rfl; rfl) | (refine l_call ?_; (refine SXl.v (OpW.calls rfl (fun w _ => in_any _ _ _ _)) rfl ?_ ?_ ?_); rfl; rfl) | (refine l_fieldAddr ?_; (refine SXl.v (OpW.fieldAddr rfl) rfl ?_ ?_ ?_); rfl; rfl) | (refine l_move ?_; (refine SXl.v (OpW.move rfl) rfl ?_ ?_ ?_); rfl; rfl) | (refine l_add ?_; (refine SXl.v (OpW.succ rfl rfl (by omega)) rfl ?_ ?_ ?_); rfl; rfl) | (refine l_lss ?_; (refine SXl.v (OpW.lssT rfl rfl (by omega)) rfl ?_ ?_ ?_); rfl; rfl) | (refine l_not ?_; (refine SXl.v (OpW.not rfl) rfl ?_ ?_ ?_); rfl; rfl) | (refine l_pick ?_; (refine SXl.v (OpW.pick rfl rfl rfl) rfl ?_ ?_ ?_); rfl; rfl) | (refine l_indexAddr ?_; (refine SXl.v (OpW.indexAddr (by omega) rfl rfl) rfl ?_ ?_ ?_); rfl; rfl) | (refine l_alloc ?_; refine SXl.alloc ?_ ?_ (fun g => ?_); rfl; rfl) | (refine l_store ?_; first | (refine SXl.storeAll 0 ?_ rfl rfl rfl rfl rfl rfl rfl ?_; rfl; simp only [List.set_cons_zero, List.set_cons_succ]) | (refine SXl.storeAll 1 ?_ rfl rfl rfl rfl rfl rfl rfl ?_; rfl; simp only [List.set_cons_zero, List.set_cons_succ]) | (refine SXl.storeAll 2 ?_ rfl rfl rfl rfl rfl rfl rfl ?_; rfl; simp only [List.set_cons_zero, List.set_cons_succ]) | (refine SXl.storeRow 0 ?_ rfl rfl rfl rfl rfl rfl rfl ?_; rfl; simp only [over, List.set_cons_zero, List.set_cons_succ]) | (refine SXl.storeRow 1 ?_ rfl rfl rfl rfl rfl rfl rfl ?_; rfl; simp only [over, List.set_cons_zero, List.set_cons_succ]) | (refine SXl.storeRow 2 ?_ rfl rfl rfl rfl rfl rfl rfl ?_; rfl; simp only [over, List.set_cons_zero, List.set_cons_succ])) | ((first | rw [q0] | rw [q1] | rw [q2])) | refine SQ.blockNormal ?_)
            refine SQ.roundi (k + 1) ⟨by omega, allTo_succ hs hxk.out (by simp [ruleOk, q0, q1, q2])⟩ (by omega) ?_ (fun _ hl => hl.drop1)
            (repeat (first | exact subF_nil _ | (refine subF_cons rfl ?_) | (refine subF_consv rfl (by rfl) ?_)))
    · repeat (first | refine SX.seq ?_ | refine SXl.nil ?_ | refine SX.region ?_ | refine SQ.thenNormal ?_ | refine SX.condF rfl ?_ | (refine l_assign ?_; (refine SXl.v (OpW.assign rfl) rfl ?_ ?_ ?_); rfl; rfl) | (refine l_lss ?_; (refine SXl.v (OpW.lssF rfl rfl (by omega)) rfl ?_ ?_ ?_); rfl; rfl) | refine SX.ret ?_ | refine SX.exit ?_ | refine SQ.thenExit ?_ | refine SQ.blockExit ?_)
      refine SQ.body1 rfl rfl (fun w' hl => ⟨ret_bool (by symm; simp [tableOk, qn, all_of hs (by omega)]), hl.mod⟩)

set_option maxRecDepth 100000 in
set_option maxHeartbeats 4000000 in
theorem stableOk_any (l : List Rule) (a : Option Addr) (c : Nat) (R : Nat → Prop) (w : World) (hlen : l.length ≤ 1048576) (h : SliceAt (Flat Rule.cells) 3 R w a l) :
    Calls Tryz.prog 74 #[.agg #[.slice a l.length c]] w fun e w' => e = .returned (.bool (tableOk l)) ∧ Mod (fun _ => False) w w' := by
  refine calls_sx Tryz.func74 rfl rfl (fun a h1 h2 h3 => ((Fr.nil h1 h2).arg (h3 0 _ rfl))) ?_
  repeat (first | refine SX.seq ?_ | refine SXl.nil ?_ | refine SX.region ?_ | refine SQ.thenNormal ?_ | refine SX.block ?_ | (refine l_assign ?_; (refine SXl.v (OpW.assign rfl) rfl ?_ ?_ ?_); rfl; rfl) | (refine l_box ?_; refine SXl.box ?_ ?_ rfl rfl (fun g => ?_); rfl; rfl))
  refine SX.loopi (fun k : Nat => k ≤ l.length ∧ ∀ i x, i < k → l[i]? = some x → ruleOk x = true) (fun k => l.length - k) (fun _ => [⟨g, [.slice a l.length c], 83⟩]) (fun _ => []) (fun _ => []) (fun k => [(1, .pointer (some ⟨g, 0, none⟩)), (3, .int .i64 k)]) 0 ⟨Nat.zero_le _, fun i x h => absurd h (Nat.not_lt_zero _)⟩ ?_ (fun _ hl => hl) ?_
  · (repeat (first | exact subF_nil _ | (refine subF_cons rfl ?_) | (refine subF_consv rfl (by rfl) ?_)))
  · rintro k ⟨hk, hs⟩
    by_cases hlt : k < l.length
    · obtain ⟨b1, o1, x, r1, rfl, _, _, hxk, rfl, hl1, hc1⟩ := h.get hlt
      cases q0 : inB x.room (-1) 1048576
      · repeat (first | refine SX.seq ?_ | refine SXl.nil ?_ | refine SX.region ?_ | refine SQ.thenNormal ?_ | refine SX.block ?_ | refine SX.skip ?_ | refine SX.condT rfl ?_ | (refine SXl.no rfl rfl rfl ?_) | (refine l_load ?_; (first | refine SXl.v (OpW.loadRowOld rfl hc1 rfl (Nat.succ_pos _) (fun h => h)) rfl ?_ ?_ ?_ | refine SXl.v (OpW.load 0 rfl rfl rfl) rfl ?_ ?_ ?_); rfl; rfl) | (refine l_call ?_; (refine SXl.v (OpW.calls rfl (fun w _ => l01In_any _ _ _ _)) rfl ?_ ?_ ?_); rfl; rfl) | (refine l_fieldAddr ?_; (refine SXl.v (OpW.fieldAddr rfl) rfl ?_ ?_ ?_); rfl; rfl) | (refine l_move ?_; (refine SXl.v (OpW.move rfl) rfl ?_ ?_ ?_); rfl; rfl) | (refine l_assign ?_; (refine SXl.v (OpW.assign rfl) rfl ?_ ?_ ?_); rfl; rfl) | (refine l_len ?_; (refine SXl.v (OpW.len rfl) rfl ?_ ?_ ?_); rfl; rfl) | (refine l_lss ?_; (refine SXl.v (OpW.lssT rfl rfl (by omega)) rfl ?_ ?_ ?_); rfl; rfl) | (refine l_not ?_; (refine SXl.v (OpW.not rfl) rfl ?_ ?_ ?_); rfl; rfl) | (refine l_pick ?_; (refine SXl.v (OpW.pick rfl rfl rfl) rfl ?_ ?_ ?_); rfl; rfl) | (refine l_indexAddr ?_; (refine SXl.v (OpW.indexAddr (by omega) rfl rfl) rfl ?_ ?_ ?_); rfl; rfl) | (refine l_alloc ?_; refine SXl.alloc ?_ ?_ (fun g => ?_); rfl; rfl) | (refine l_store ?_; first | (refine SXl.storeAll 0 ?_ rfl rfl rfl rfl rfl rfl rfl ?_; rfl; simp only [List.set_cons_zero, List.set_cons_succ]) | (refine SXl.storeAll 1 ?_ rfl rfl rfl rfl rfl rfl rfl ?_; rfl; simp only [List.set_cons_zero, List.set_cons_succ]) | (refine SXl.storeAll 2 ?_ rfl rfl rfl rfl rfl rfl rfl ?_; rfl; simp only [List.set_cons_zero, List.set_cons_succ]) | (refine SXl.storeRow 0 ?_ rfl rfl rfl rfl rfl rfl rfl ?_; rfl; simp only [over, List.set_cons_zero, List.set_cons_succ]) | (refine SXl.storeRow 1 ?_ rfl rfl rfl rfl rfl rfl rfl ?_; rfl; simp only [over, List.set_cons_zero, List.set_cons_succ]) | (refine SXl.storeRow 2 ?_ rfl rfl rfl rfl rfl rfl rfl ?_; rfl; simp only [over, List.set_cons_zero, List.set_cons_succ])) | (rw [q0]) | refine SX.ret ?_ | refine SQ.thenRet ?_ | refine SQ.blockRet ?_)
        refine SQ.body1 rfl rfl (fun w' hl => ⟨ret_bool (by symm; exact tableOk_no hxk.out (by simp [ruleOk, q0])), hl.mod⟩)
      · cases q1 : inB x.wide 0 1048576
        · repeat (first | refine SX.seq ?_ | refine SXl.nil ?_ | refine SX.region ?_ | refine SQ.thenNormal ?_ | refine SX.block ?_ | refine SX.skip ?_ | refine SX.condT rfl ?_ | (refine SXl.no rfl rfl rfl ?_) | (refine l_load ?_; (first | refine SXl.v (OpW.loadRowOld rfl hc1 rfl (Nat.succ_pos _) (fun h => h)) rfl ?_ ?_ ?_ | refine SXl.v (OpW.load 0 rfl rfl rfl) rfl ?_ ?_ ?_); rfl; rfl) | (refine l_call ?_; (refine SXl.v (OpW.calls rfl (fun w _ => l01In_any _ _ _ _)) rfl ?_ ?_ ?_); rfl; rfl) | (refine l_fieldAddr ?_; (refine SXl.v (OpW.fieldAddr rfl) rfl ?_ ?_ ?_); rfl; rfl) | (refine l_move ?_; (refine SXl.v (OpW.move rfl) rfl ?_ ?_ ?_); rfl; rfl) | (refine l_assign ?_; (refine SXl.v (OpW.assign rfl) rfl ?_ ?_ ?_); rfl; rfl) | (refine l_len ?_; (refine SXl.v (OpW.len rfl) rfl ?_ ?_ ?_); rfl; rfl) | (refine l_lss ?_; (refine SXl.v (OpW.lssT rfl rfl (by omega)) rfl ?_ ?_ ?_); rfl; rfl) | (refine l_not ?_; (refine SXl.v (OpW.not rfl) rfl ?_ ?_ ?_); rfl; rfl) | (refine l_pick ?_; (refine SXl.v (OpW.pick rfl rfl rfl) rfl ?_ ?_ ?_); rfl; rfl) | (refine l_indexAddr ?_; (refine SXl.v (OpW.indexAddr (by omega) rfl rfl) rfl ?_ ?_ ?_); rfl; rfl) | (refine l_alloc ?_; refine SXl.alloc ?_ ?_ (fun g => ?_); rfl; rfl) | (refine l_store ?_; first | (refine SXl.storeAll 0 ?_ rfl rfl rfl rfl rfl rfl rfl ?_; rfl; simp only [List.set_cons_zero, List.set_cons_succ]) | (refine SXl.storeAll 1 ?_ rfl rfl rfl rfl rfl rfl rfl ?_; rfl; simp only [List.set_cons_zero, List.set_cons_succ]) | (refine SXl.storeAll 2 ?_ rfl rfl rfl rfl rfl rfl rfl ?_; rfl; simp only [List.set_cons_zero, List.set_cons_succ]) | (refine SXl.storeRow 0 ?_ rfl rfl rfl rfl rfl rfl rfl ?_; rfl; simp only [over, List.set_cons_zero, List.set_cons_succ]) | (refine SXl.storeRow 1 ?_ rfl rfl rfl rfl rfl rfl rfl ?_; rfl; simp only [over, List.set_cons_zero, List.set_cons_succ]) | (refine SXl.storeRow 2 ?_ rfl rfl rfl rfl rfl rfl rfl ?_; rfl; simp only [over, List.set_cons_zero, List.set_cons_succ])) | ((first | rw [q0] | rw [q1])) | refine SX.ret ?_ | refine SQ.thenRet ?_ | refine SQ.blockRet ?_)
          refine SQ.body1 rfl rfl (fun w' hl => ⟨ret_bool (by symm; exact tableOk_no hxk.out (by simp [ruleOk, q1])), hl.mod⟩)
        · cases q2 : inB x.high 0 1048576
          · repeat (first | refine SX.seq ?_ | refine SXl.nil ?_ | refine SX.region ?_ | refine SQ.thenNormal ?_ | refine SX.block ?_ | refine SX.skip ?_ | refine SX.condT rfl ?_ | (refine l_load ?_; (first | refine SXl.v (OpW.loadRowOld rfl hc1 rfl (Nat.succ_pos _) (fun h => h)) rfl ?_ ?_ ?_ | refine SXl.v (OpW.load 0 rfl rfl rfl) rfl ?_ ?_ ?_); rfl; rfl) | (refine l_call ?_; (refine SXl.v (OpW.calls rfl (fun w _ => l01In_any _ _ _ _)) rfl ?_ ?_ ?_); rfl; rfl) | (refine l_fieldAddr ?_; (refine SXl.v (OpW.fieldAddr rfl) rfl ?_ ?_ ?_); rfl; rfl) | (refine l_move ?_; (refine SXl.v (OpW.move rfl) rfl ?_ ?_ ?_); rfl; rfl) | (refine l_assign ?_; (refine SXl.v (OpW.assign rfl) rfl ?_ ?_ ?_); rfl; rfl) | (refine l_len ?_; (refine SXl.v (OpW.len rfl) rfl ?_ ?_ ?_); rfl; rfl) | (refine l_lss ?_; (refine SXl.v (OpW.lssT rfl rfl (by omega)) rfl ?_ ?_ ?_); rfl; rfl) | (refine l_not ?_; (refine SXl.v (OpW.not rfl) rfl ?_ ?_ ?_); rfl; rfl) | (refine l_pick ?_; (refine SXl.v (OpW.pick rfl rfl rfl) rfl ?_ ?_ ?_); rfl; rfl) | (refine l_indexAddr ?_; (refine SXl.v (OpW.indexAddr (by omega) rfl rfl) rfl ?_ ?_ ?_); rfl; rfl) | (refine l_alloc ?_; refine SXl.alloc ?_ ?_ (fun g => ?_); rfl; rfl) | (refine l_store ?_; first | (refine SXl.storeAll 0 ?_ rfl rfl rfl rfl rfl rfl rfl ?_; rfl; simp only [List.set_cons_zero, List.set_cons_succ]) | (refine SXl.storeAll 1 ?_ rfl rfl rfl rfl rfl rfl rfl ?_; rfl; simp only [List.set_cons_zero, List.set_cons_succ]) | (refine SXl.storeAll 2 ?_ rfl rfl rfl rfl rfl rfl rfl ?_; rfl; simp only [List.set_cons_zero, List.set_cons_succ]) | (refine SXl.storeRow 0 ?_ rfl rfl rfl rfl rfl rfl rfl ?_; rfl; simp only [over, List.set_cons_zero, List.set_cons_succ]) | (refine SXl.storeRow 1 ?_ rfl rfl rfl rfl rfl rfl rfl ?_; rfl; simp only [over, List.set_cons_zero, List.set_cons_succ]) | (refine SXl.storeRow 2 ?_ rfl rfl rfl rfl rfl rfl rfl ?_; rfl; simp only [over, List.set_cons_zero, List.set_cons_succ])) | ((first | rw [q0] | rw [q1] | rw [q2])) | refine SX.ret ?_ | refine SQ.thenRet ?_ | refine SQ.blockRet ?_)
            refine SQ.body1 rfl rfl (fun w' hl => ⟨ret_bool (by symm; exact tableOk_no hxk.out (by simp [ruleOk, q2])), hl.mod⟩)
          · repeat (first | refine SX.seq ?_ | refine SXl.nil ?_ | refine SX.region ?_ | refine SQ.thenNormal ?_ | refine SX.block ?_ | refine SX.skip ?_ | refine SX.condT rfl ?_ | refine SX.condF rfl ?_ | (refine l_load ?_; (first | refine SXl.v (OpW.loadRowOld rfl hc1 rfl (Nat.succ_pos _) (fun h => h)) rfl ?_ ?_ ?_ | refine SXl.v (OpW.load 0 rfl rfl rfl) rfl ?_ ?_ ?_); rfl; rfl) | (refine l_call ?_; (refine SXl.v (OpW.calls rfl (fun w _ => l01In_any _ _ _ _)) rfl ?_ ?_ ?_); rfl; rfl) | (refine l_fieldAddr ?_; (refine SXl.v (OpW.fieldAddr rfl) rfl ?_ ?_ ?_); rfl; rfl) | (refine l_move ?_; (refine SXl.v (OpW.move rfl) rfl ?_ ?_ ?_); rfl; rfl) | (refine l_assign ?_; (refine SXl.v (OpW.assign rfl) rfl ?_ ?_ ?_); rfl; rfl) | (refine l_len ?_; (refine SXl.v (OpW.len rfl) rfl ?_ ?_ ?_); rfl; rfl) | (refine l_add ?_; (refine SXl.v (OpW.succ rfl rfl (by omega)) rfl ?_ ?_ ?_); rfl; rfl) | (refine l_lss ?_; (refine SXl.v (OpW.lssT rfl rfl (by omega)) rfl ?_ ?_ ?_); rfl; rfl) | (refine l_not ?_; (refine SXl.v (OpW.not rfl) rfl ?_ ?_ ?_); rfl; rfl) | (refine l_pick ?_; (refine SXl.v (OpW.pick rfl rfl rfl) rfl ?_ ?_ ?_); rfl; rfl) | (refine l_indexAddr ?_; (refine SXl.v (OpW.indexAddr (by omega) rfl rfl) rfl ?_ ?_ ?_); rfl; rfl) | (refine l_alloc ?_; refine SXl.alloc ?_ ?_ (fun g => ?_); rfl; rfl) | (refine l_store ?_; first | (refine SXl.storeAll 0 ?_ rfl rfl rfl rfl rfl rfl rfl ?_; rfl; simp only [List.set_cons_zero, List.set_cons_succ]) | (refine SXl.storeAll 1 ?_ rfl rfl rfl rfl rfl rfl rfl ?_; rfl; simp only [List.set_cons_zero, List.set_cons_succ]) | (refine SXl.storeAll 2 ?_ rfl rfl rfl rfl rfl rfl rfl ?_; rfl; simp only [List.set_cons_zero, List.set_cons_succ]) | (refine SXl.storeRow 0 ?_ rfl rfl rfl rfl rfl rfl rfl ?_; rfl; simp only [over, List.set_cons_zero, List.set_cons_succ]) | (refine SXl.storeRow 1 ?_ rfl rfl rfl rfl rfl rfl rfl ?_; rfl; simp only [over, List.set_cons_zero, List.set_cons_succ]) | (refine SXl.storeRow 2 ?_ rfl rfl rfl rfl rfl rfl rfl ?_; rfl; simp only [over, List.set_cons_zero, List.set_cons_succ])) | ((first | rw [q0] | rw [q1] | rw [q2])) | refine SQ.blockNormal ?_)
            refine SQ.roundi (k + 1) ⟨by omega, allTo_succ hs hxk.out (by simp [ruleOk, q0, q1, q2])⟩ (by omega) ?_ (fun _ hl => hl.drop1)
            (repeat (first | exact subF_nil _ | (refine subF_cons rfl ?_) | (refine subF_consv rfl (by rfl) ?_)))
    · repeat (first | refine SX.seq ?_ | refine SXl.nil ?_ | refine SX.region ?_ | refine SQ.thenNormal ?_ | refine SX.condF rfl ?_ | (refine l_call ?_; (refine SXl.v (OpW.calls rfl (fun w _ => l01In_any _ _ _ _)) rfl ?_ ?_ ?_); rfl; rfl) | (refine l_load ?_; (refine SXl.v (OpW.load 0 rfl rfl rfl) rfl ?_ ?_ ?_); rfl; rfl) | (refine l_fieldAddr ?_; (refine SXl.v (OpW.fieldAddr rfl) rfl ?_ ?_ ?_); rfl; rfl) | (refine l_move ?_; (refine SXl.v (OpW.move rfl) rfl ?_ ?_ ?_); rfl; rfl) | (refine l_assign ?_; (refine SXl.v (OpW.assign rfl) rfl ?_ ?_ ?_); rfl; rfl) | (refine l_len ?_; (refine SXl.v (OpW.len rfl) rfl ?_ ?_ ?_); rfl; rfl) | (refine l_lss ?_; (refine SXl.v (OpW.lssF rfl rfl (by omega)) rfl ?_ ?_ ?_); rfl; rfl) | refine SX.ret ?_ | refine SX.exit ?_ | refine SQ.thenExit ?_ | refine SQ.blockExit ?_)
      refine SQ.body1 rfl rfl (fun w' hl => ⟨ret_bool (by symm; simp [tableOk, all_of hs (by omega)]), hl.mod⟩)

end Go.Proofs.YtpkpkojmaebflaaGreatDoor
namespace Go.Proofs.YtpkpkojmaebflaaGreatDoor
open Go.RowKit
set_option linter.unusedVariables false
set_option linter.unusedSimpArgs false

/-- How often n stands among the first k. -/
def hasTo (l : List Int) (n : Int) (k : Nat) : Nat := (l.take k).count n
theorem hasTo_succ {l : List Int} {n : Int} {k : Nat} {x : Int} (hx : l[k]? = some x) : hasTo l n (k + 1) = hasTo l n k + if x = n then 1 else 0 := by
  unfold hasTo
  rw [List.take_add_one, hx, List.count_append]
  simp [List.count_cons]
theorem hasTo_le (l : List Int) (n : Int) (k : Nat) : hasTo l n k ≤ k := Nat.le_trans List.count_le_length (by simp; omega)
theorem hasTo_all {l : List Int} {n : Int} {k : Nat} (h : l.length ≤ k) : hasTo l n k = l.count n := by
  unfold hasTo; rw [List.take_of_length_le h]

set_option maxRecDepth 100000 in
set_option maxHeartbeats 4000000 in
theorem shas_any (l : List Int) (n : Int) (a : Option Addr) (c : Nat) (R : Nat → Prop) (w : World) (hlen : l.length ≤ 1048576) (h : IntSlice R w a l) :
    Calls Tryz.prog 73 #[.slice a l.length c, .int .i64 n] w fun e w' => e = .returned (.int .i64 (l.count n : Nat)) ∧ Mod (fun _ => False) w w' := by
  refine calls_sx Tryz.func73 rfl rfl (fun a h1 h2 h3 => ((Fr.nil h1 h2).arg (h3 1 _ rfl)).arg (h3 0 _ rfl)) ?_
  repeat (first | refine SX.seq ?_ | refine SXl.nil ?_ | refine SX.region ?_ | refine SQ.thenNormal ?_ | refine SX.block ?_ | (refine l_assign ?_; (refine SXl.v (OpW.assign rfl) rfl ?_ ?_ ?_); rfl; rfl))
  refine SX.loopi (fun k : Nat => k ≤ l.length) (fun k => l.length - k) (fun _ => []) (fun _ => []) (fun _ => []) (fun k => [(0, .slice a l.length c), (1, .int .i64 n), (5, .int .i64 (hasTo l n k : Nat)), (6, .int .i64 k)]) 0 (Nat.zero_le _) ?_ (fun _ hl => hl) ?_
  · (repeat (first | exact subF_nil _ | (refine subF_cons rfl ?_) | (refine subF_consv rfl (by rfl) ?_)))
  · intro k hk
    have hle := hasTo_le l n k
    by_cases hlt : k < l.length
    · obtain ⟨b1, o1, x, rfl, _, _, hxk, hc1⟩ := IntSlice.get h hlt
      have hs := hasTo_succ (n := n) hxk.out
      by_cases e : x = n
      · rw [if_pos e] at hs
        repeat (first | refine SX.seq ?_ | refine SXl.nil ?_ | refine SX.region ?_ | refine SQ.thenNormal ?_ | refine SX.block ?_ | refine SX.skip ?_ | refine SX.condT rfl ?_ | (refine l_load ?_; (refine SXl.v (OpW.loadOld rfl (by assumption) (fun h => h)) rfl ?_ ?_ ?_); rfl; rfl) | (refine l_move ?_; (refine SXl.v (OpW.move rfl) rfl ?_ ?_ ?_); rfl; rfl) | (refine l_assign ?_; (refine SXl.v (OpW.assign rfl) rfl ?_ ?_ ?_); rfl; rfl) | (refine l_len ?_; (refine SXl.v (OpW.len rfl) rfl ?_ ?_ ?_); rfl; rfl) | (refine l_add ?_; (refine SXl.v (OpW.succ rfl rfl (by omega)) rfl ?_ ?_ ?_); rfl; rfl) | (refine l_eql ?_; (refine SXl.v (OpW.eqlT rfl rfl (by omega)) rfl ?_ ?_ ?_); rfl; rfl) | (refine l_lss ?_; (refine SXl.v (OpW.lssT rfl rfl (by omega)) rfl ?_ ?_ ?_); rfl; rfl) | (refine l_indexAddr ?_; (refine SXl.v (OpW.indexAddr1 (by omega) rfl rfl) rfl ?_ ?_ ?_); rfl; rfl) | refine SQ.blockNormal ?_)
        refine SQ.roundi (k + 1) (by omega) (by omega) ?_ (fun _ hl => hl)
        (repeat (first | exact subF_nil _ | (refine subF_cons rfl ?_) | (refine subF_consv rfl (by rw [hs]) ?_)))
      · rw [if_neg e] at hs
        repeat (first | refine SX.seq ?_ | refine SXl.nil ?_ | refine SX.region ?_ | refine SQ.thenNormal ?_ | refine SX.block ?_ | refine SX.skip ?_ | refine SX.condT rfl ?_ | refine SX.condF rfl ?_ | (refine l_load ?_; (refine SXl.v (OpW.loadOld rfl (by assumption) (fun h => h)) rfl ?_ ?_ ?_); rfl; rfl) | (refine l_move ?_; (refine SXl.v (OpW.move rfl) rfl ?_ ?_ ?_); rfl; rfl) | (refine l_assign ?_; (refine SXl.v (OpW.assign rfl) rfl ?_ ?_ ?_); rfl; rfl) | (refine l_len ?_; (refine SXl.v (OpW.len rfl) rfl ?_ ?_ ?_); rfl; rfl) | (refine l_add ?_; (refine SXl.v (OpW.succ rfl rfl (by omega)) rfl ?_ ?_ ?_); rfl; rfl) | (refine l_eql ?_; (refine SXl.v (OpW.eqlF rfl rfl (by omega)) rfl ?_ ?_ ?_); rfl; rfl) | (refine l_lss ?_; (refine SXl.v (OpW.lssT rfl rfl (by omega)) rfl ?_ ?_ ?_); rfl; rfl) | (refine l_indexAddr ?_; (refine SXl.v (OpW.indexAddr1 (by omega) rfl rfl) rfl ?_ ?_ ?_); rfl; rfl) | refine SQ.blockNormal ?_)
        refine SQ.roundi (k + 1) (by omega) (by omega) ?_ (fun _ hl => hl)
        (repeat (first | exact subF_nil _ | (refine subF_cons rfl ?_) | (refine subF_consv rfl (by rw [hs]; rfl) ?_)))
    · have hs := hasTo_all (n := n) (show l.length ≤ k by omega)
      repeat (first | refine SX.seq ?_ | refine SXl.nil ?_ | refine SX.region ?_ | refine SQ.thenNormal ?_ | refine SX.condF rfl ?_ | (refine l_move ?_; (refine SXl.v (OpW.move rfl) rfl ?_ ?_ ?_); rfl; rfl) | (refine l_assign ?_; (refine SXl.v (OpW.assign rfl) rfl ?_ ?_ ?_); rfl; rfl) | (refine l_len ?_; (refine SXl.v (OpW.len rfl) rfl ?_ ?_ ?_); rfl; rfl) | (refine l_lss ?_; (refine SXl.v (OpW.lssF rfl rfl (by omega)) rfl ?_ ?_ ?_); rfl; rfl) | refine SX.ret ?_ | refine SX.exit ?_ | refine SQ.thenExit ?_ | refine SQ.blockExit ?_)
      refine SQ.body1 rfl rfl (fun w' hl => ⟨by rw [hs], hl.mod⟩)

end Go.Proofs.YtpkpkojmaebflaaGreatDoor
namespace Go.Proofs.YtpkpkojmaebflaaGreatDoor
open Go.RowKit

def kidOk (l : List Node) (i : Nat) (y : Int) : Bool := inB y 1 l.length && decide (((l[(y - 1).toNat]?).getD default).up = ((i + 1 : Nat) : Int))
def upOk (l : List Node) (i : Nat) (x : Node) : Bool := decide (x.up = 0) || decide (((l[(x.up - 1).toNat]?).getD default).kids.count ((i + 1 : Nat) : Int) = 1)
def tabOk (x : Node) : Bool := if x.measured then tableOk x.rules && decide (x.kids.length = 0) else decide (x.rules.length = 0)
def nodeOk (l : List Node) (i : Nat) (x : Node) : Bool := styleOk x.style && inB (depthF l (l.length + 1) ((i + 1 : Nat) : Int) (0 : Nat)) 1 4 && x.kids.all (kidOk l i) && upOk l i x && tabOk x
def treeOk (l : List Node) : Bool := decide (l.length ≤ 12) && (List.range l.length).all fun i => nodeOk l i ((l[i]?).getD default)
theorem treeOk_iff {l : List Node} : treeOk l = true ↔ l.length ≤ 12 ∧ ∀ i x, l[i]? = some x → nodeOk l i x = true := by
  unfold treeOk
  rw [Bool.and_eq_true, decide_eq_true_eq, List.all_eq_true]
  refine and_congr_right fun _ => ⟨fun h i x hx => ?_, fun h i hi => ?_⟩
  · have := h i (List.mem_range.2 (List.getElem?_eq_some_iff.1 hx).1)
    rwa [hx] at this
  · have hlt := List.mem_range.1 hi
    exact h i _ (by rw [List.getElem?_eq_getElem hlt]; rfl)
theorem treeOk_no {l : List Node} {k : Nat} {x : Node} (hx : l[k]? = some x) (h : nodeOk l k x = false) : treeOk l = false := by
  rw [Bool.eq_false_iff]
  intro ht
  rw [(treeOk_iff.1 ht).2 k x hx] at h
  cases h
theorem treeOk_all {l : List Node} {k : Nat} (hn : l.length ≤ 12) (hs : ∀ i x, i < k → l[i]? = some x → nodeOk l i x = true) (hk : l.length ≤ k) : treeOk l = true :=
  treeOk_iff.2 ⟨hn, fun i x hx => hs i x (by have := (List.getElem?_eq_some_iff.1 hx).1; omega) hx⟩
theorem treeOk_long {l : List Node} (hn : ¬ l.length ≤ 12) : treeOk l = false := by simp [treeOk, hn]
theorem pto_succ {α : Type} {p : Nat → α → Prop} {l : List α} {k : Nat} {x : α} (hs : ∀ i x, i < k → l[i]? = some x → p i x) (hx : l[k]? = some x) (h : p k x) : ∀ i x, i < k + 1 → l[i]? = some x → p i x := fun j y hj hy => by
  by_cases e : j = k
  · subst e; rw [hx] at hy; rw [← Option.some.inj hy]; exact h
  · exact hs j y (by omega) hy
theorem all_ints {l : List Int} {p : Int → Bool} {k : Nat} (hs : ∀ i x, i < k → l[i]? = some x → p x = true) (hk : l.length ≤ k) : l.all p = true := by
  rw [List.all_eq_true]
  intro x hx
  obtain ⟨i, hi⟩ := List.mem_iff_getElem?.1 hx
  exact hs i x (by have := (List.getElem?_eq_some_iff.1 hi).1; omega) hi
theorem not_all {l : List Int} {p : Int → Bool} {k : Nat} {y : Int} (hy : l[k]? = some y) (h : p y = false) : l.all p = false := by
  rw [Bool.eq_false_iff]
  intro ha
  rw [List.all_eq_true] at ha
  rw [ha y (List.mem_of_getElem? hy)] at h
  cases h
/-- Where the depth is a depth, the node above is one or there is none. -/
theorem depth_up {l : List Node} {k : Nat} {x : Node} (hx : l[k]? = some x) (hq : inB (depthF l (l.length + 1) ((k + 1 : Nat) : Int) (0 : Nat)) 1 4 = true) (h0 : x.up ≠ 0) : ∃ ku : Nat, x.up = ((ku + 1 : Nat) : Int) ∧ ku < l.length := by
  have hlt := (List.getElem?_eq_some_iff.1 hx).1
  have e := depthF_up (l := l) (d := 0) (by omega) hx
  rw [Nat.sub_zero] at e
  have e0 : depthF l (l.length + 1) ((k + 1 : Nat) : Int) 0 = depthF l (l.length + 1 - (0 + 1)) x.up (0 + 1) := e
  by_cases hb : inB x.up 1 l.length = true
  · exact inB_node hb
  · have hb' : inB x.up 1 l.length = false := by simpa using hb
    have := depthF_out (l := l) (d := 0 + 1) (by omega) h0 hb'
    rw [e0, this] at hq
    simp [inB] at hq

section
variable {l : List Node} {i : Nat} {x : Node}
theorem nodeOk_s (h : styleOk x.style = false) : nodeOk l i x = false := by simp [nodeOk, h]
theorem nodeOk_d (h : inB (depthF l (l.length + 1) ((i + 1 : Nat) : Int) (0 : Nat)) 1 4 = false) : nodeOk l i x = false := by unfold nodeOk; rw [h]; simp
theorem nodeOk_k {j : Nat} {y : Int} (hy : x.kids[j]? = some y) (h : kidOk l i y = false) : nodeOk l i x = false := by unfold nodeOk; rw [not_all hy h]; simp
theorem nodeOk_u (h : upOk l i x = false) : nodeOk l i x = false := by simp [nodeOk, h]
theorem nodeOk_t (h : tabOk x = false) : nodeOk l i x = false := by simp [nodeOk, h]
theorem nodeOk_y (h1 : styleOk x.style = true) (h2 : inB (depthF l (l.length + 1) ((i + 1 : Nat) : Int) (0 : Nat)) 1 4 = true) (h3 : x.kids.all (kidOk l i) = true) (h4 : upOk l i x = true) (h5 : tabOk x = true) : nodeOk l i x = true := by unfold nodeOk; rw [h1, h2, h3, h4, h5]; rfl
theorem kidOk_at {ky : Nat} {z : Node} (h : inB ((ky + 1 : Nat) : Int) 1 l.length = true) (hz : l[ky]? = some z) : kidOk l i ((ky + 1 : Nat) : Int) = decide (z.up = ((i + 1 : Nat) : Int)) := by
  unfold kidOk
  rw [h, show (((ky + 1 : Nat) : Int) - 1).toNat = ky by omega, hz]; rfl
theorem upOk_at {ku : Nat} {z : Node} (h : x.up = ((ku + 1 : Nat) : Int)) (hz : l[ku]? = some z) : upOk l i x = decide (z.kids.count ((i + 1 : Nat) : Int) = 1) := by
  unfold upOk
  rw [h, decide_eq_false (by omega), show (((ku + 1 : Nat) : Int) - 1).toNat = ku by omega, hz]; rfl
end
instance : TFv Tryz.prog 85 1 1 := ⟨_, _, _, Tryz.underlying85, rfl, rfl, Tryz.underlying72, rfl⟩
theorem nodeRow_tab (up : Int) (k : Option Addr) (n c : Nat) (s : Style) (m : Bool) (t : Option Addr) (n' c' : Nat) : ((nodeRow up k n c s m t n' c').drop 63).take 1 = [.slice t n' c'] := rfl
theorem styleC_any (x : Style) (w : World) : Calls Tryz.prog 80 #[.agg x.cells.toArray] w fun e w' => e = .returned (.bool (styleOk x)) ∧ Mod (fun _ => False) w w' := styleOk_any x w
theorem sstyleC_any (x : Style) (w : World) : Calls Tryz.prog 71 #[.agg x.cells.toArray] w fun e w' => e = .returned (.bool (styleOk x)) ∧ Mod (fun _ => False) w w' := sstyleOk_any x w

end Go.Proofs.YtpkpkojmaebflaaGreatDoor
namespace Go.Proofs.YtpkpkojmaebflaaGreatDoor
open Go.RowKit

/-- The depth of node n. -/
def dep (l : List Node) (n : Int) : Int := depthF l (l.length + 1) n (0 : Nat)
def nodeAt (l : List Node) (n : Int) : Node := (l[(n - 1).toNat]?).getD default
theorem nodeAt_of {l : List Node} {k : Nat} {x : Node} (h : l[k]? = some x) : nodeAt l ((k + 1 : Nat) : Int) = x := by
  unfold nodeAt
  rw [show (((k + 1 : Nat) : Int) - 1).toNat = k by omega, h]; rfl
theorem depthF_ge {l : List Node} : ∀ (f : Nat) (n : Int) (d : Nat), depthF l f n d ≠ 0 → (d : Int) ≤ depthF l f n d
  | 0, _, _, h => (h rfl).elim
  | f + 1, n, d, h => by
    unfold depthF at h ⊢
    split
    · exact Int.le_refl _
    · rename_i h0
      rw [if_neg h0] at h
      split
      · rename_i h1
        rw [if_pos h1] at h
        have := depthF_ge f _ _ h
        omega
      · rename_i h1
        rw [if_neg h1] at h
        exact (h rfl).elim
theorem depthF_shift {l : List Node} : ∀ (f : Nat) (n : Int) (d : Nat), depthF l f n (d + 1) ≠ 0 → depthF l f n (d + 1) = depthF l f n d + 1
  | 0, _, _, h => (h rfl).elim
  | f + 1, n, d, h => by
    unfold depthF at h ⊢
    split
    · rfl
    · rename_i h0
      rw [if_neg h0] at h
      split
      · rename_i h1
        rw [if_pos h1] at h
        exact depthF_shift f _ _ h
      · rename_i h1
        rw [if_neg h1] at h
        exact (h rfl).elim
theorem depthF_fuel {l : List Node} : ∀ (f : Nat) (n : Int) (d : Nat), depthF l f n d ≠ 0 → depthF l (f + 1) n d = depthF l f n d
  | 0, _, _, h => (h rfl).elim
  | f + 1, n, d, h => by
    unfold depthF at h
    show (if n = 0 then (d : Int) else if inB n 1 l.length then depthF l (f + 1) _ _ else 0) = (if n = 0 then (d : Int) else if inB n 1 l.length then depthF l f _ _ else 0)
    split
    · rfl
    · rename_i h0
      rw [if_neg h0] at h
      split
      · rename_i h1
        rw [if_pos h1] at h
        exact depthF_fuel f _ _ h
      · rfl
theorem depthF_far {l : List Node} {f : Nat} {n : Int} {d : Nat} (h0 : n ≠ 0) (h : depthF l f n d ≠ 0) : ((d + 1 : Nat) : Int) ≤ depthF l f n d := by
  cases f with
  | zero => exact (h rfl).elim
  | succ f =>
    unfold depthF at h ⊢
    rw [if_neg h0] at h ⊢
    split
    · rename_i h1
      rw [if_pos h1] at h
      exact depthF_ge f _ _ h
    · rename_i h1
      rw [if_neg h1] at h
      exact (h rfl).elim
theorem dep_root {l : List Node} {k : Nat} {x : Node} (hx : l[k]? = some x) (h0 : x.up = 0) (hl : 0 < l.length) : dep l ((k + 1 : Nat) : Int) = 1 := by
  have e := depthF_up (l := l) (d := 0) (by omega) hx
  rw [h0] at e
  have e2 := depthF_zero (l := l) (d := 0 + 1) (by omega)
  rw [Nat.sub_zero] at e
  unfold dep
  exact e.trans (e2.trans rfl)
theorem dep_up {l : List Node} {k : Nat} {x : Node} (hx : l[k]? = some x) (h0 : x.up ≠ 0) (hd : dep l ((k + 1 : Nat) : Int) ≠ 0) : dep l ((k + 1 : Nat) : Int) = dep l x.up + 1 := by
  have e := depthF_up (l := l) (d := 0) (by omega) hx
  rw [Nat.sub_zero] at e
  unfold dep at hd ⊢
  have e' : depthF l (l.length + 1) ((k + 1 : Nat) : Int) (0 : Nat) = depthF l l.length x.up 1 := e
  rw [e'] at hd ⊢
  have hs : depthF l l.length x.up 1 = depthF l l.length x.up 0 + 1 := depthF_shift _ _ 0 hd
  have hfar := depthF_far h0 hd
  rw [hs]
  have hne : depthF l l.length x.up 0 ≠ 0 := by omega
  rw [depthF_fuel _ _ _ hne]

section
variable {l : List Node} (hv : treeOk l = true)
include hv
theorem ok_len : l.length ≤ 12 := (treeOk_iff.1 hv).1
theorem ok_node {k : Nat} {x : Node} (hx : l[k]? = some x) : styleOk x.style = true ∧ (1 ≤ dep l ((k + 1 : Nat) : Int) ∧ dep l ((k + 1 : Nat) : Int) ≤ 4) ∧ (∀ y ∈ x.kids, kidOk l k y = true) ∧ upOk l k x = true ∧ tabOk x = true := by
  have h := (treeOk_iff.1 hv).2 k x hx
  unfold nodeOk inB at h
  simp only [Bool.and_eq_true, decide_eq_true_eq, List.all_eq_true] at h
  obtain ⟨⟨⟨⟨h1, h2⟩, h3⟩, h4⟩, h5⟩ := h
  refine ⟨h1, ?_, h3, h4, h5⟩
  unfold dep
  omega
/-- A child of a node: where it is, and that it knows its node; it is one level below. -/
theorem ok_kid {k : Nat} {x : Node} (hx : l[k]? = some x) {y : Int} (hy : y ∈ x.kids) : ∃ (ky : Nat) (z : Node), y = ((ky + 1 : Nat) : Int) ∧ l[ky]? = some z ∧ z.up = ((k + 1 : Nat) : Int) ∧ dep l y = dep l ((k + 1 : Nat) : Int) + 1 := by
  obtain ⟨_, _, h3, _, _⟩ := ok_node hv hx
  have hk := h3 y hy
  unfold kidOk at hk
  rw [Bool.and_eq_true] at hk
  obtain ⟨ky, rfl, hky⟩ := inB_node hk.1
  have hz := List.getElem?_eq_getElem hky
  generalize l[ky] = z at hz
  have hu : z.up = ((k + 1 : Nat) : Int) := by
    have := hk.2
    rw [show (((ky + 1 : Nat) : Int) - 1).toNat = ky by omega, hz] at this
    simpa using this
  have hd := (ok_node hv hz).2.1
  refine ⟨ky, z, rfl, hz, hu, ?_⟩
  rw [dep_up hz (by omega) (by omega), hu]
theorem ok_count {k : Nat} {x : Node} (hx : l[k]? = some x) {y : Int} (hy : y ∈ x.kids) : x.kids.count y = 1 := by
  obtain ⟨ky, z, rfl, hz, hu, _⟩ := ok_kid hv hx hy
  obtain ⟨_, _, _, h4, _⟩ := ok_node hv hz
  rw [upOk_at hu hx] at h4
  simpa using h4
omit hv in
theorem nodup_len : ∀ (N : Nat) (xs : List Int), (∀ a, xs.count a ≤ 1) → (∀ x ∈ xs, 1 ≤ x ∧ x ≤ (N : Int)) → xs.length ≤ N
  | 0, xs, _, h => by
    cases xs with
    | nil => simp
    | cons x xs => have := h x List.mem_cons_self; omega
  | N + 1, xs, hc, h => by
    have ih := nodup_len N (xs.filter fun x => !decide (x = ((N + 1 : Nat) : Int))) (fun a => by
      have h1 := hc a
      have h2 : (xs.filter fun x => !decide (x = ((N + 1 : Nat) : Int))).count a ≤ xs.count a := List.Sublist.count_le a List.filter_sublist
      omega) (fun x hx => by
      obtain ⟨hx1, hx2⟩ := List.mem_filter.1 hx
      have := h x hx1
      simp at hx2
      omega)
    have h3 := List.length_eq_countP_add_countP (fun x => decide (x = ((N + 1 : Nat) : Int))) (l := xs)
    have h4 : xs.countP (fun x => decide (x = ((N + 1 : Nat) : Int))) ≤ 1 := by
      have := hc ((N + 1 : Nat) : Int)
      unfold List.count at this
      have e : (fun x : Int => decide (x = ((N + 1 : Nat) : Int))) = fun x => x == ((N + 1 : Nat) : Int) := by
        funext x
        rw [Bool.eq_iff_iff]
        simp
      rw [e]; exact this
    have h5 : xs.countP (fun x => decide ¬ (decide (x = ((N + 1 : Nat) : Int))) = true) = (xs.filter fun x => !decide (x = ((N + 1 : Nat) : Int))).length := by
      rw [List.countP_eq_length_filter]
      congr 1
      apply List.filter_congr
      intro x _
      simp
    omega
theorem ok_kids_len {k : Nat} {x : Node} (hx : l[k]? = some x) : x.kids.length ≤ 12 := by
  refine nodup_len 12 x.kids (fun a => ?_) (fun y hy => ?_)
  · by_cases ha : a ∈ x.kids
    · rw [ok_count hv hx ha]; omega
    · rw [List.count_eq_zero.2 ha]; omega
  · obtain ⟨ky, z, rfl, hz, _, _⟩ := ok_kid hv hx hy
    have := (List.getElem?_eq_some_iff.1 hz).1
    have := ok_len hv
    omega
end
/-- A node and all below it. -/
def under (l : List Node) : Nat → Int → List Int
  | 0, n => [n]
  | f + 1, n => n :: ((nodeAt l n).kids.map (under l f)).flatten
def underB : Nat → Nat
  | 0 => 1
  | f + 1 => 1 + 12 * underB f
theorem under_len {l : List Node} (hv : treeOk l = true) : ∀ (f k : Nat) (x : Node), l[k]? = some x → (under l f ((k + 1 : Nat) : Int)).length ≤ underB f
  | 0, _, _, _ => Nat.le_refl _
  | f + 1, k, x, hx => by
    have hb : ∀ ys : List Int, (∀ y ∈ ys, y ∈ x.kids) → ((ys.map (under l f)).flatten).length ≤ ys.length * underB f := by
      intro ys
      induction ys with
      | nil => intro _; simp
      | cons y ys ih =>
        intro h
        obtain ⟨ky, z, rfl, hz, _, _⟩ := ok_kid hv hx (h y List.mem_cons_self)
        have h1 := under_len hv f ky z hz
        have h2 := ih fun y hy => h y (List.mem_cons_of_mem _ hy)
        rw [List.map_cons, List.flatten_cons, List.length_append, List.length_cons, Nat.succ_mul]
        omega
    have h1 := hb x.kids fun _ h => h
    have h2 := ok_kids_len hv hx
    have h3 : x.kids.length * underB f ≤ 12 * underB f := Nat.mul_le_mul_right _ h2
    unfold under underB
    rw [nodeAt_of hx, List.length_cons]
    omega
/-- A node and all below it, in a valid tree. -/
def allU (l : List Node) (n : Int) : List Int := under l (5 - dep l n).toNat n
theorem allU_len {l : List Node} (hv : treeOk l = true) {k : Nat} {x : Node} (hx : l[k]? = some x) : (allU l ((k + 1 : Nat) : Int)).length ≤ 30000 := by
  have h1 := (ok_node hv hx).2.1
  have h2 := under_len hv (5 - dep l ((k + 1 : Nat) : Int)).toNat k x hx
  have h3 : ∀ f, f ≤ 4 → underB f ≤ 22621 := by decide
  have h4 := h3 (5 - dep l ((k + 1 : Nat) : Int)).toNat (by omega)
  unfold allU
  omega
theorem allU_eq {l : List Node} (hv : treeOk l = true) {k : Nat} {x : Node} (hx : l[k]? = some x) : allU l ((k + 1 : Nat) : Int) = ((k + 1 : Nat) : Int) :: (x.kids.map (allU l)).flatten := by
  have h1 := (ok_node hv hx).2.1
  obtain ⟨f, hf⟩ : ∃ f, (5 - dep l ((k + 1 : Nat) : Int)).toNat = f + 1 := ⟨(5 - dep l ((k + 1 : Nat) : Int)).toNat - 1, by omega⟩
  unfold allU
  rw [hf]
  show _ :: _ = _
  rw [nodeAt_of hx]
  congr 2
  refine List.map_congr_left fun y hy => ?_
  obtain ⟨ky, z, rfl, hz, _, hd⟩ := ok_kid hv hx hy
  rw [hd]
  congr 1
  omega
end Go.Proofs.YtpkpkojmaebflaaGreatDoor
namespace Go.Proofs.YtpkpkojmaebflaaGreatDoor
open Go.RowKit

/-- A text's one cell. -/
def tcell (l : List UInt8) : List Value := [.string ⟨l.toArray⟩]
theorem info_string : (Tryz.prog.info? 9).map (fun i => (i.zero, i.size, i.bytes)) = some (some (.string ⟨#[]⟩), 1, 16) := by kernel_rfl
abbrev TextSlice (R : Nat → Prop) (w : World) (a : Option Addr) (l : List (List UInt8)) : Prop := SliceAt (Flat tcell) 1 R w a l
theorem TextSlice.get {R : Nat → Prop} {w : World} {a : Option Addr} {l : List (List UInt8)} (h : TextSlice R w a l) {k : Nat} (hk : k < l.length) :
    ∃ b o x, a = some ⟨b, o, none⟩ ∧ R b ∧ b < w.heap.size ∧ Hid (l[k]? = some x) ∧ w.cell? ⟨b, o + k, none⟩ = some (.string ⟨x.toArray⟩) := by
  obtain ⟨b, o, x, r, rfl, hR, hb, hx, hr, _, hc⟩ := SliceAt.get h hk
  obtain rfl : r = tcell x := hr
  have := hc 0 _ rfl
  rw [Nat.mul_one, Nat.add_zero] at this
  exact ⟨b, o, x, rfl, hR, hb, hx, this⟩

end Go.Proofs.YtpkpkojmaebflaaGreatDoor
namespace Go.Proofs.YtpkpkojmaebflaaGreatDoor
open Go.RowKit

theorem under_mem {l : List Node} (hv : treeOk l = true) : ∀ (f k : Nat) (x : Node), l[k]? = some x → ∀ y ∈ under l f ((k + 1 : Nat) : Int), ∃ (ky : Nat) (z : Node), y = ((ky + 1 : Nat) : Int) ∧ l[ky]? = some z
  | 0, k, x, hx, y, hy => by
    simp only [under, List.mem_singleton] at hy
    exact ⟨k, x, hy, hx⟩
  | f + 1, k, x, hx, y, hy => by
    unfold under at hy
    rw [nodeAt_of hx] at hy
    rcases List.mem_cons.1 hy with rfl | hy
    · exact ⟨k, x, rfl, hx⟩
    · obtain ⟨ys, hys, hy⟩ := List.mem_flatten.1 hy
      obtain ⟨u, hu, rfl⟩ := List.mem_map.1 hys
      obtain ⟨ku, z, rfl, hz, _, _⟩ := ok_kid hv hx hu
      exact under_mem hv f ku z hz y hy
theorem allU_mem {l : List Node} (hv : treeOk l = true) {k : Nat} {x : Node} (hx : l[k]? = some x) {y : Int} (hy : y ∈ allU l ((k + 1 : Nat) : Int)) : ∃ (ky : Nat) (z : Node), y = ((ky + 1 : Nat) : Int) ∧ l[ky]? = some z := under_mem hv _ k x hx y hy
/-- One node's line. -/
def nodeLine (l : List Node) (n : Int) : List UInt8 := (List.replicate (dep l n - 1).toNat 32 ++ Lib.itoa n) ++ (if (nodeAt l n).measured then [32, 42] else [])
def rootLines (l : List Node) (k : Nat) : List (List UInt8) := if (nodeAt l ((k + 1 : Nat) : Int)).up = 0 then (allU l ((k + 1 : Nat) : Int)).map (nodeLine l) else []
def upLines (l : List Node) (k : Nat) : List (List UInt8) := ((List.range k).map (rootLines l)).flatten
def treeLines (l : List Node) : List (List UInt8) := if treeOk l then upLines l l.length else []
theorem upLines_succ (l : List Node) (k : Nat) : upLines l (k + 1) = upLines l k ++ rootLines l k := by
  unfold upLines
  rw [List.range_succ, List.map_append, List.flatten_append]
  simp
theorem rootLines_no {l : List Node} {k : Nat} {x : Node} (hx : l[k]? = some x) (h : x.up ≠ 0) : rootLines l k = [] := by
  unfold rootLines
  rw [nodeAt_of hx, if_neg h]
theorem rootLines_yes {l : List Node} {k : Nat} {x : Node} (hx : l[k]? = some x) (h : x.up = 0) : rootLines l k = (allU l ((k + 1 : Nat) : Int)).map (nodeLine l) := by
  unfold rootLines
  rw [nodeAt_of hx, if_pos h]
theorem upLines_len {l : List Node} (hv : treeOk l = true) : ∀ k, k ≤ l.length → (upLines l k).length ≤ k * 30000
  | 0, _ => by simp [upLines]
  | k + 1, h => by
    have ih := upLines_len hv k (by omega)
    obtain ⟨x, hx⟩ : ∃ x, l[k]? = some x := ⟨_, List.getElem?_eq_getElem (by omega)⟩
    have h1 := allU_len hv hx
    rw [upLines_succ, List.length_append]
    have h2 : (rootLines l k).length ≤ 30000 := by
      unfold rootLines
      split
      · rw [List.length_map]; exact h1
      · simp
    omega
/-- What is written when j of the nodes below root k are told. -/
def partLines (l : List Node) (k j : Nat) : List (List UInt8) := upLines l k ++ ((allU l ((k + 1 : Nat) : Int)).take j).map (nodeLine l)
theorem partLines_succ {l : List Node} {k j : Nat} {y : Int} (h : (allU l ((k + 1 : Nat) : Int))[j]? = some y) : partLines l k (j + 1) = partLines l k j ++ [nodeLine l y] := by
  unfold partLines
  rw [List.take_add_one, h, List.map_append, List.append_assoc]
  rfl
theorem partLines_all {l : List Node} {k : Nat} {x : Node} (hx : l[k]? = some x) (h : x.up = 0) : partLines l k (allU l ((k + 1 : Nat) : Int)).length = upLines l (k + 1) := by
  unfold partLines
  rw [List.take_length, upLines_succ, rootLines_yes hx h]
theorem partLines_len {l : List Node} (hv : treeOk l = true) {k j : Nat} {x : Node} (hx : l[k]? = some x) : (partLines l k j).length ≤ 400000 := by
  have h1 := upLines_len hv k (by have := (List.getElem?_eq_some_iff.1 hx).1; omega)
  have h2 := allU_len hv hx
  have h3 := ok_len hv
  have h4 := (List.getElem?_eq_some_iff.1 hx).1
  unfold partLines
  rw [List.length_append, List.length_map, List.length_take]
  omega
end Go.Proofs.YtpkpkojmaebflaaGreatDoor
namespace Go.Proofs.YtpkpkojmaebflaaGreatDoor
open Go.RowKit
set_option linter.unusedVariables false
set_option linter.unusedSimpArgs false

set_option maxRecDepth 100000 in
set_option maxHeartbeats 16000000 in
theorem treeOk_any (l : List Node) (o : Bool) (a : Option Addr) (c : Nat) (R : Nat → Prop) (w : World) (hlen : l.length ≤ 1048576) (hfit : ∀ x ∈ l, x.fits 1048576) (h : NodeSlice o R w a l) :
    Calls Tryz.prog 51 #[.agg #[.slice a l.length c]] w fun e w' => e = .returned (.bool (treeOk l)) ∧ Mod (fun _ => False) w w' := by
  refine calls_sx Tryz.func51 rfl rfl (fun a h1 h2 h3 => ((Fr.nil h1 h2).arg (h3 0 _ rfl))) ?_
  by_cases hn : l.length ≤ 12
  rotate_left
  · repeat (first | refine SX.seq ?_ | refine SXl.nil ?_ | refine SX.region ?_ | refine SQ.thenNormal ?_ | refine SX.condT rfl ?_ | (refine l_load ?_; (refine SXl.v (OpW.load 0 rfl rfl rfl) rfl ?_ ?_ ?_); rfl; rfl) | (refine l_fieldAddr ?_; (refine SXl.v (OpW.fieldAddr rfl) rfl ?_ ?_ ?_); rfl; rfl) | (refine l_assign ?_; (refine SXl.v (OpW.assign rfl) rfl ?_ ?_ ?_); rfl; rfl) | (refine l_len ?_; (refine SXl.v (OpW.len rfl) rfl ?_ ?_ ?_); rfl; rfl) | (refine l_gtr ?_; (refine SXl.v (OpW.gtrT rfl rfl (by omega)) rfl ?_ ?_ ?_); rfl; rfl) | (refine l_box ?_; refine SXl.box ?_ ?_ rfl rfl (fun g => ?_); rfl; rfl) | refine SX.ret ?_ | refine SQ.thenRet ?_)
    refine SQ.body1 rfl rfl (fun w' hl => ⟨by rw [treeOk_long hn], hl.mod⟩)
  repeat (first | refine SX.seq ?_ | refine SXl.nil ?_ | refine SX.region ?_ | refine SQ.thenNormal ?_ | refine SX.block ?_ | refine SX.skip ?_ | refine SX.condF rfl ?_ | (refine l_load ?_; (refine SXl.v (OpW.load 0 rfl rfl rfl) rfl ?_ ?_ ?_); rfl; rfl) | (refine l_fieldAddr ?_; (refine SXl.v (OpW.fieldAddr rfl) rfl ?_ ?_ ?_); rfl; rfl) | (refine l_move ?_; (refine SXl.v (OpW.move rfl) rfl ?_ ?_ ?_); rfl; rfl) | (refine l_assign ?_; (refine SXl.v (OpW.assign rfl) rfl ?_ ?_ ?_); rfl; rfl) | (refine l_len ?_; (refine SXl.v (OpW.len rfl) rfl ?_ ?_ ?_); rfl; rfl) | (refine l_gtr ?_; (refine SXl.v (OpW.gtrF rfl rfl (by omega)) rfl ?_ ?_ ?_); rfl; rfl) | (refine l_box ?_; refine SXl.box ?_ ?_ rfl rfl (fun g => ?_); rfl; rfl))
  revert g; intro gt
  refine SX.loopi (fun k : Nat => k ≤ l.length ∧ ∀ i x, i < k → l[i]? = some x → nodeOk l i x = true) (fun k => l.length - k) (fun _ => [⟨gt, [.slice a l.length c], 37⟩]) (fun _ => []) (fun _ => []) (fun k => [(1, .pointer (some ⟨gt, 0, none⟩)), (16, .slice a l.length c), (17, .int .i64 l.length), (18, .int .i64 k)]) 0 ⟨Nat.zero_le _, fun i x h => absurd h (Nat.not_lt_zero _)⟩ ?_ (fun _ hl => hl) ?_
  · (repeat (first | exact subF_nil _ | (refine subF_cons rfl ?_) | (refine subF_consv rfl (by rfl) ?_)))
  rintro k ⟨hk, hs⟩
  by_cases hlt : k < l.length
  rotate_left
  · repeat (first | refine SX.seq ?_ | refine SXl.nil ?_ | refine SX.region ?_ | refine SQ.thenNormal ?_ | refine SX.condF rfl ?_ | (refine l_assign ?_; (refine SXl.v (OpW.assign rfl) rfl ?_ ?_ ?_); rfl; rfl) | (refine l_lss ?_; (refine SXl.v (OpW.lssF rfl rfl (by omega)) rfl ?_ ?_ ?_); rfl; rfl) | refine SX.ret ?_ | refine SX.exit ?_ | refine SQ.thenExit ?_ | refine SQ.blockExit ?_)
    refine SQ.body1 rfl rfl (fun w' hl => ⟨by rw [treeOk_all hn hs (by omega)], hl.mod⟩)
  obtain ⟨b1, o1, ⟨up, kids, st, me, ru⟩, r1, rfl, hR1, hb1, hxk, hr1, hl1, hc1⟩ := h.get hlt
  obtain ⟨ka, kc, ra, rc, rfl, hk1, ht1, _⟩ := hr1
  replace hxk := hxk.out
  have hfx := hfit _ (List.mem_of_getElem? hxk)
  have hf1 : kids.length ≤ 1048576 := hfx.1
  have hf2 : ru.length ≤ 1048576 := hfx.2
  clear hfx
  simp only at hc1 hk1 ht1
  cases q1 : styleOk st
  · have hv := nodeOk_s (l := l) (i := k) (x := ⟨up, kids, st, me, ru⟩) q1
    repeat (first | refine SX.seq ?_ | refine SXl.nil ?_ | refine SX.region ?_ | refine SQ.thenNormal ?_ | refine SX.block ?_ | refine SX.skip ?_ | refine SX.condT rfl ?_ | (refine SXl.no rfl rfl rfl ?_) | (refine l_load ?_; (first | refine SXl.v (OpW.loadRowOld rfl hc1 (nodeRow_len _ _ _ _ _ _ _ _ _) (Nat.succ_pos _) (fun h => h)) rfl ?_ ?_ ?_ | refine SXl.v (OpW.loadRow (cells := nodeRow up ka kids.length kc st me ra ru.length rc) 0 rfl rfl rfl (nodeRow_style _ _ _ _ _ _ _ _ _)) rfl ?_ ?_ ?_ | refine SXl.v (OpW.loadAll 1 rfl rfl rfl) rfl ?_ ?_ ?_); rfl; rfl) | (refine l_call ?_; (refine SXl.v (OpW.call rfl (fun w hl => styleC_any _ _)) rfl ?_ ?_ ?_); rfl; rfl) | (refine l_fieldAddr ?_; (refine SXl.v (OpW.fieldAddr rfl) rfl ?_ ?_ ?_); rfl; rfl) | (refine l_move ?_; (refine SXl.v (OpW.move rfl) rfl ?_ ?_ ?_); rfl; rfl) | (refine l_assign ?_; (refine SXl.v (OpW.assign rfl) rfl ?_ ?_ ?_); rfl; rfl) | (refine l_add ?_; (refine SXl.v (OpW.succ rfl rfl (by omega)) rfl ?_ ?_ ?_); rfl; rfl) | (refine l_lss ?_; (refine SXl.v (OpW.lssT rfl rfl (by omega)) rfl ?_ ?_ ?_); rfl; rfl) | (refine l_not ?_; (refine SXl.v (OpW.not rfl) rfl ?_ ?_ ?_); rfl; rfl) | (refine l_pick ?_; (refine SXl.v (OpW.pick rfl rfl rfl) rfl ?_ ?_ ?_); rfl; rfl) | (refine l_indexAddr ?_; (refine SXl.v (OpW.indexAddr (by omega) rfl rfl) rfl ?_ ?_ ?_); rfl; rfl) | (refine l_alloc ?_; refine SXl.alloc ?_ ?_ (fun g => ?_); rfl; rfl) | (refine l_store ?_; first | (refine SXl.storeAll 0 ?_ rfl rfl rfl rfl rfl rfl rfl ?_; rfl; simp only [List.set_cons_zero, List.set_cons_succ]) | (refine SXl.storeAll 1 ?_ rfl rfl rfl rfl rfl rfl rfl ?_; rfl; simp only [List.set_cons_zero, List.set_cons_succ]) | (refine SXl.storeAll 2 ?_ rfl rfl rfl rfl rfl rfl rfl ?_; rfl; simp only [List.set_cons_zero, List.set_cons_succ]) | (refine SXl.storeRow 0 ?_ rfl rfl rfl rfl rfl rfl rfl ?_; rfl; simp only [over, List.set_cons_zero, List.set_cons_succ]) | (refine SXl.storeRow 1 ?_ rfl rfl rfl rfl rfl rfl rfl ?_; rfl; simp only [over, List.set_cons_zero, List.set_cons_succ]) | (refine SXl.storeRow 2 ?_ rfl rfl rfl rfl rfl rfl rfl ?_; rfl; simp only [over, List.set_cons_zero, List.set_cons_succ])) | (rw [q1]) | refine SX.ret ?_ | refine SQ.thenRet ?_ | refine SQ.blockRet ?_)
    refine SQ.body1 rfl rfl (fun w' hl => ⟨by rw [treeOk_no hxk (hv)], hl.mod⟩)
  cases q2 : inB (depthF l (l.length + 1) ((k + 1 : Nat) : Int) (0 : Nat)) 1 4
  · have hv := nodeOk_d (x := ⟨up, kids, st, me, ru⟩) q2
    repeat (first | refine SX.seq ?_ | refine SXl.nil ?_ | refine SX.region ?_ | refine SQ.thenNormal ?_ | refine SX.block ?_ | refine SX.skip ?_ | refine SX.condT rfl ?_ | (refine l_load ?_; (first | refine SXl.v (OpW.loadRowOld rfl hc1 (nodeRow_len _ _ _ _ _ _ _ _ _) (Nat.succ_pos _) (fun h => h)) rfl ?_ ?_ ?_ | refine SXl.v (OpW.loadRow (cells := nodeRow up ka kids.length kc st me ra ru.length rc) 0 rfl rfl rfl (nodeRow_style _ _ _ _ _ _ _ _ _)) rfl ?_ ?_ ?_ | refine SXl.v (OpW.loadAll 1 rfl rfl rfl) rfl ?_ ?_ ?_); rfl; rfl) | (refine l_call ?_; (first | refine SXl.v (OpW.call rfl (fun w hl => styleC_any _ _)) rfl ?_ ?_ ?_ | refine SXl.v (OpW.call rfl (fun w hl => depthOf_any l _ o _ c R _ (by omega) (h.keep hl.mod))) rfl ?_ ?_ ?_ | refine SXl.v (OpW.calls rfl (fun w _ => in_any _ _ _ _)) rfl ?_ ?_ ?_); rfl; rfl) | (refine l_fieldAddr ?_; (refine SXl.v (OpW.fieldAddr rfl) rfl ?_ ?_ ?_); rfl; rfl) | (refine l_move ?_; (refine SXl.v (OpW.move rfl) rfl ?_ ?_ ?_); rfl; rfl) | (refine l_assign ?_; (refine SXl.v (OpW.assign rfl) rfl ?_ ?_ ?_); rfl; rfl) | (refine l_add ?_; (refine SXl.v (OpW.succ rfl rfl (by omega)) rfl ?_ ?_ ?_); rfl; rfl) | (refine l_lss ?_; (refine SXl.v (OpW.lssT rfl rfl (by omega)) rfl ?_ ?_ ?_); rfl; rfl) | (refine l_not ?_; (refine SXl.v (OpW.not rfl) rfl ?_ ?_ ?_); rfl; rfl) | (refine l_pick ?_; (refine SXl.v (OpW.pick rfl rfl rfl) rfl ?_ ?_ ?_); rfl; rfl) | (refine l_indexAddr ?_; (refine SXl.v (OpW.indexAddr (by omega) rfl rfl) rfl ?_ ?_ ?_); rfl; rfl) | (refine l_alloc ?_; refine SXl.alloc ?_ ?_ (fun g => ?_); rfl; rfl) | (refine l_store ?_; first | (refine SXl.storeAll 0 ?_ rfl rfl rfl rfl rfl rfl rfl ?_; rfl; simp only [List.set_cons_zero, List.set_cons_succ]) | (refine SXl.storeAll 1 ?_ rfl rfl rfl rfl rfl rfl rfl ?_; rfl; simp only [List.set_cons_zero, List.set_cons_succ]) | (refine SXl.storeAll 2 ?_ rfl rfl rfl rfl rfl rfl rfl ?_; rfl; simp only [List.set_cons_zero, List.set_cons_succ]) | (refine SXl.storeRow 0 ?_ rfl rfl rfl rfl rfl rfl rfl ?_; rfl; simp only [over, List.set_cons_zero, List.set_cons_succ]) | (refine SXl.storeRow 1 ?_ rfl rfl rfl rfl rfl rfl rfl ?_; rfl; simp only [over, List.set_cons_zero, List.set_cons_succ]) | (refine SXl.storeRow 2 ?_ rfl rfl rfl rfl rfl rfl rfl ?_; rfl; simp only [over, List.set_cons_zero, List.set_cons_succ])) | ((first | rw [q1] | rw [q2])) | refine SX.ret ?_ | refine SQ.thenRet ?_ | refine SQ.blockRet ?_)
    refine SQ.body1 rfl rfl (fun w' hl => ⟨by rw [treeOk_no hxk (hv)], hl.mod⟩)
  repeat (first | refine SX.seq ?_ | refine SXl.nil ?_ | refine SX.region ?_ | refine SQ.thenNormal ?_ | refine SX.block ?_ | refine SX.skip ?_ | refine SX.condT rfl ?_ | refine SX.condF rfl ?_ | (refine l_load ?_; (first | refine SXl.v (OpW.loadRowOld rfl hc1 (nodeRow_len _ _ _ _ _ _ _ _ _) (Nat.succ_pos _) (fun h => h)) rfl ?_ ?_ ?_ | refine SXl.v (OpW.loadRow (cells := nodeRow up ka kids.length kc st me ra ru.length rc) 0 rfl rfl rfl (nodeRow_style _ _ _ _ _ _ _ _ _)) rfl ?_ ?_ ?_ | refine SXl.v (OpW.load 0 rfl rfl rfl) rfl ?_ ?_ ?_ | refine SXl.v (OpW.loadAll 1 rfl rfl rfl) rfl ?_ ?_ ?_); rfl; rfl) | (refine l_call ?_; (first | refine SXl.v (OpW.call rfl (fun w hl => styleC_any _ _)) rfl ?_ ?_ ?_ | refine SXl.v (OpW.call rfl (fun w hl => depthOf_any l _ o _ c R _ (by omega) (h.keep hl.mod))) rfl ?_ ?_ ?_ | refine SXl.v (OpW.calls rfl (fun w _ => in_any _ _ _ _)) rfl ?_ ?_ ?_); rfl; rfl) | (refine l_fieldAddr ?_; (refine SXl.v (OpW.fieldAddr rfl) rfl ?_ ?_ ?_); rfl; rfl) | (refine l_move ?_; (refine SXl.v (OpW.move rfl) rfl ?_ ?_ ?_); rfl; rfl) | (refine l_assign ?_; (refine SXl.v (OpW.assign rfl) rfl ?_ ?_ ?_); rfl; rfl) | (refine l_len ?_; (refine SXl.v (OpW.len rfl) rfl ?_ ?_ ?_); rfl; rfl) | (refine l_add ?_; (refine SXl.v (OpW.succ rfl rfl (by omega)) rfl ?_ ?_ ?_); rfl; rfl) | (refine l_lss ?_; (refine SXl.v (OpW.lssT rfl rfl (by omega)) rfl ?_ ?_ ?_); rfl; rfl) | (refine l_not ?_; (refine SXl.v (OpW.not rfl) rfl ?_ ?_ ?_); rfl; rfl) | (refine l_pick ?_; (refine SXl.v (OpW.pick rfl rfl rfl) rfl ?_ ?_ ?_); rfl; rfl) | (refine l_indexAddr ?_; (refine SXl.v (OpW.indexAddr (by omega) rfl rfl) rfl ?_ ?_ ?_); rfl; rfl) | (refine l_alloc ?_; refine SXl.alloc ?_ ?_ (fun g => ?_); rfl; rfl) | (refine l_store ?_; first | (refine SXl.storeAll 0 ?_ rfl rfl rfl rfl rfl rfl rfl ?_; rfl; simp only [List.set_cons_zero, List.set_cons_succ]) | (refine SXl.storeAll 1 ?_ rfl rfl rfl rfl rfl rfl rfl ?_; rfl; simp only [List.set_cons_zero, List.set_cons_succ]) | (refine SXl.storeAll 2 ?_ rfl rfl rfl rfl rfl rfl rfl ?_; rfl; simp only [List.set_cons_zero, List.set_cons_succ]) | (refine SXl.storeRow 0 ?_ rfl rfl rfl rfl rfl rfl rfl ?_; rfl; simp only [over, List.set_cons_zero, List.set_cons_succ]) | (refine SXl.storeRow 1 ?_ rfl rfl rfl rfl rfl rfl rfl ?_; rfl; simp only [over, List.set_cons_zero, List.set_cons_succ]) | (refine SXl.storeRow 2 ?_ rfl rfl rfl rfl rfl rfl rfl ?_; rfl; simp only [over, List.set_cons_zero, List.set_cons_succ])) | ((first | rw [q1] | rw [q2])))
  refine SX.loopi (fun j : Nat => j ≤ kids.length ∧ ∀ i y, i < j → kids[i]? = some y → kidOk l k y = true) (fun j => kids.length - j) (fun _ => [⟨g, nodeRow up ka kids.length kc st me ra ru.length rc, 85⟩, ⟨gt, [.slice (some ⟨b1, o1, none⟩) l.length c], 37⟩]) (fun _ => []) (fun _ => []) (fun j => [(1, .pointer (some ⟨gt, 0, none⟩)), (4, .pointer (some ⟨g, 0, none⟩)), (5, .int .i64 ((k + 1 : Nat) : Int)), (16, .slice (some ⟨b1, o1, none⟩) l.length c), (17, .int .i64 l.length), (18, .int .i64 k), (37, .slice ka kids.length kc), (38, .int .i64 kids.length), (39, .int .i64 j)]) 0 ⟨Nat.zero_le _, fun i x h => absurd h (Nat.not_lt_zero _)⟩ ?_ (fun _ hl => hl) ?_
  · (repeat (first | exact subF_nil _ | (refine subF_cons rfl ?_) | (refine subF_consv rfl (by rfl) ?_)))
  rintro j ⟨hj, hks⟩
  by_cases hjl : j < kids.length
  · obtain ⟨b3, o3, y, e3, hR3, hb3, hyk, hc3⟩ := IntSlice.get hk1 hjl
    subst e3
    replace hyk := hyk.out
    cases p1 : inB y 1 l.length
    · have hv := nodeOk_k (l := l) (i := k) (x := ⟨up, kids, st, me, ru⟩) hyk (by simp [kidOk, p1])
      repeat (first | refine SX.seq ?_ | refine SXl.nil ?_ | refine SX.region ?_ | refine SQ.thenNormal ?_ | refine SX.block ?_ | refine SX.skip ?_ | refine SX.condT rfl ?_ | (refine SXl.no rfl rfl rfl ?_) | (refine l_call ?_; (refine SXl.v (OpW.call rfl (fun w hl => isNode_any _ _ _ _ _)) rfl ?_ ?_ ?_); rfl; rfl) | (refine l_load ?_; (first | refine SXl.v (OpW.loadOld rfl (by assumption) (fun h => h)) rfl ?_ ?_ ?_ | refine SXl.v (OpW.loadAll 1 rfl rfl rfl) rfl ?_ ?_ ?_); rfl; rfl) | (refine l_move ?_; (refine SXl.v (OpW.move rfl) rfl ?_ ?_ ?_); rfl; rfl) | (refine l_assign ?_; (refine SXl.v (OpW.assign rfl) rfl ?_ ?_ ?_); rfl; rfl) | (refine l_lss ?_; (refine SXl.v (OpW.lssT rfl rfl (by omega)) rfl ?_ ?_ ?_); rfl; rfl) | (refine l_not ?_; (refine SXl.v (OpW.not rfl) rfl ?_ ?_ ?_); rfl; rfl) | (refine l_pick ?_; (refine SXl.v (OpW.pick rfl rfl rfl) rfl ?_ ?_ ?_); rfl; rfl) | (refine l_indexAddr ?_; (refine SXl.v (OpW.indexAddr1 (by omega) rfl rfl) rfl ?_ ?_ ?_); rfl; rfl) | (rw [p1]) | refine SX.ret ?_ | refine SQ.thenRet ?_ | refine SQ.blockRet ?_)
      refine SQ.body1 rfl rfl (fun w' hl => ⟨by rw [treeOk_no hxk (hv)], hl.mod⟩)
    obtain ⟨ky, rfl, hky⟩ := inB_node p1
    obtain ⟨b2, o2, z, r2, e2, hR2, hb2, hzk, hr2, hl2, hc2⟩ := h.get hky
    obtain ⟨rfl, rfl⟩ : b1 = b2 ∧ o1 = o2 := by simpa using e2
    obtain ⟨kb, kd, rb, rd, rfl, _, _, _⟩ := hr2
    have hkid : kidOk l k ((ky + 1 : Nat) : Int) = decide (z.up = ((k + 1 : Nat) : Int)) := kidOk_at p1 hzk.out
    by_cases p2 : z.up = ((k + 1 : Nat) : Int)
    · repeat (first | refine SX.seq ?_ | refine SXl.nil ?_ | refine SX.region ?_ | refine SQ.thenNormal ?_ | refine SX.block ?_ | refine SX.skip ?_ | refine SX.condT rfl ?_ | refine SX.condF rfl ?_ | (refine l_call ?_; (first | refine SXl.v (OpW.call rfl (fun w hl => isNode_any _ _ _ _ _)) rfl ?_ ?_ ?_ | refine SXl.v (OpW.call rfl (fun w hl => node_any _ _ _ _ ky _ _ _ _ _ _ _ _ _ w (by omega) hky (fun j v hv => hl.old (hc2 j v hv) (fun h => h)))) rfl ?_ ?_ ?_); rfl; rfl) | (refine l_field ?_; (refine SXl.v (OpW.field rfl (nodeRow_a0 _ _ _ _ _ _ _ _ _)) rfl ?_ ?_ ?_); rfl; rfl) | (refine l_load ?_; (first | refine SXl.v (OpW.loadOld rfl (by assumption) (fun h => h)) rfl ?_ ?_ ?_ | refine SXl.v (OpW.loadAll 1 rfl rfl rfl) rfl ?_ ?_ ?_); rfl; rfl) | (refine l_move ?_; (refine SXl.v (OpW.move rfl) rfl ?_ ?_ ?_); rfl; rfl) | (refine l_assign ?_; (refine SXl.v (OpW.assign rfl) rfl ?_ ?_ ?_); rfl; rfl) | (refine l_add ?_; (refine SXl.v (OpW.succ rfl rfl (by omega)) rfl ?_ ?_ ?_); rfl; rfl) | (refine l_lss ?_; (refine SXl.v (OpW.lssT rfl rfl (by omega)) rfl ?_ ?_ ?_); rfl; rfl) | (refine l_neq ?_; (refine SXl.v (OpW.neqF rfl rfl (by omega)) rfl ?_ ?_ ?_); rfl; rfl) | (refine l_not ?_; (refine SXl.v (OpW.not rfl) rfl ?_ ?_ ?_); rfl; rfl) | (refine l_pick ?_; (refine SXl.v (OpW.pick rfl rfl rfl) rfl ?_ ?_ ?_); rfl; rfl) | (refine l_indexAddr ?_; (refine SXl.v (OpW.indexAddr1 (by omega) rfl rfl) rfl ?_ ?_ ?_); rfl; rfl) | (rw [p1]) | refine SQ.blockNormal ?_)
      refine SQ.roundi (j + 1) ⟨by omega, pto_succ hks hyk (by rw [hkid]; exact decide_eq_true p2)⟩ (by omega) ?_ (fun _ hl => hl)
      (repeat (first | exact subF_nil _ | (refine subF_cons rfl ?_) | (refine subF_consv rfl (by rfl) ?_)))
    · have hv := nodeOk_k (l := l) (i := k) (x := ⟨up, kids, st, me, ru⟩) hyk (by rw [hkid]; exact decide_eq_false p2)
      repeat (first | refine SX.seq ?_ | refine SXl.nil ?_ | refine SX.region ?_ | refine SQ.thenNormal ?_ | refine SX.block ?_ | refine SX.skip ?_ | refine SX.condT rfl ?_ | (refine l_call ?_; (first | refine SXl.v (OpW.call rfl (fun w hl => isNode_any _ _ _ _ _)) rfl ?_ ?_ ?_ | refine SXl.v (OpW.call rfl (fun w hl => node_any _ _ _ _ ky _ _ _ _ _ _ _ _ _ w (by omega) hky (fun j v hv => hl.old (hc2 j v hv) (fun h => h)))) rfl ?_ ?_ ?_); rfl; rfl) | (refine l_field ?_; (refine SXl.v (OpW.field rfl (nodeRow_a0 _ _ _ _ _ _ _ _ _)) rfl ?_ ?_ ?_); rfl; rfl) | (refine l_load ?_; (first | refine SXl.v (OpW.loadOld rfl (by assumption) (fun h => h)) rfl ?_ ?_ ?_ | refine SXl.v (OpW.loadAll 1 rfl rfl rfl) rfl ?_ ?_ ?_); rfl; rfl) | (refine l_move ?_; (refine SXl.v (OpW.move rfl) rfl ?_ ?_ ?_); rfl; rfl) | (refine l_assign ?_; (refine SXl.v (OpW.assign rfl) rfl ?_ ?_ ?_); rfl; rfl) | (refine l_lss ?_; (refine SXl.v (OpW.lssT rfl rfl (by omega)) rfl ?_ ?_ ?_); rfl; rfl) | (refine l_neq ?_; (refine SXl.v (OpW.neqT rfl rfl (by omega)) rfl ?_ ?_ ?_); rfl; rfl) | (refine l_not ?_; (refine SXl.v (OpW.not rfl) rfl ?_ ?_ ?_); rfl; rfl) | (refine l_pick ?_; (refine SXl.v (OpW.pick rfl rfl rfl) rfl ?_ ?_ ?_); rfl; rfl) | (refine l_indexAddr ?_; (refine SXl.v (OpW.indexAddr1 (by omega) rfl rfl) rfl ?_ ?_ ?_); rfl; rfl) | (rw [p1]) | refine SX.ret ?_ | refine SQ.thenRet ?_ | refine SQ.blockRet ?_)
      refine SQ.body1 rfl rfl (fun w' hl => ⟨by rw [treeOk_no hxk (hv)], hl.mod⟩)
  have hka := all_ints (p := kidOk l k) hks (by omega)
  by_cases u0 : up = 0
  · subst u0
    have hup : upOk l k ⟨0, kids, st, me, ru⟩ = true := rfl
    cases me
    · by_cases r0 : ru.length = 0
      · repeat (first | refine SX.seq ?_ | refine SXl.nil ?_ | refine SX.region ?_ | refine SQ.thenNormal ?_ | refine SX.skip ?_ | refine SX.condF rfl ?_ | (refine SXl.no rfl rfl rfl ?_) | (refine l_load ?_; (refine SXl.v (OpW.load 0 rfl rfl rfl) rfl ?_ ?_ ?_); rfl; rfl) | (refine l_fieldAddr ?_; (refine SXl.v (OpW.fieldAddr rfl) rfl ?_ ?_ ?_); rfl; rfl) | (refine l_move ?_; (refine SXl.v (OpW.move rfl) rfl ?_ ?_ ?_); rfl; rfl) | (refine l_len ?_; (refine SXl.v (OpW.len rfl) rfl ?_ ?_ ?_); rfl; rfl) | (refine l_add ?_; (refine SXl.v (OpW.succ rfl rfl (by omega)) rfl ?_ ?_ ?_); rfl; rfl) | (refine l_gtr ?_; (refine SXl.v (OpW.gtrF rfl rfl (by omega)) rfl ?_ ?_ ?_); rfl; rfl) | (refine l_lss ?_; (refine SXl.v (OpW.lssF rfl rfl (by omega)) rfl ?_ ?_ ?_); rfl; rfl) | (refine l_neq ?_; (refine SXl.v (OpW.neqF rfl rfl (by omega)) rfl ?_ ?_ ?_); rfl; rfl) | (refine l_not ?_; (refine SXl.v (OpW.not rfl) rfl ?_ ?_ ?_); rfl; rfl) | (refine l_pick ?_; (refine SXl.v (OpW.pick rfl rfl rfl) rfl ?_ ?_ ?_); rfl; rfl) | refine SX.exit ?_ | refine SQ.thenExit ?_ | refine SQ.blockNormal ?_ | refine SQ.blockExit ?_)
        refine SQ.roundi (k + 1) ⟨by omega, pto_succ hs hxk (nodeOk_y q1 q2 hka hup (by simp [tabOk, r0]))⟩ (by omega) ?_ (fun _ hl => hl.drop1)
        (repeat (first | exact subF_nil _ | (refine subF_cons rfl ?_) | (refine subF_consv rfl (by rfl) ?_)))
      · have hv := nodeOk_t (l := l) (i := k) (x := ⟨0, kids, st, false, ru⟩) (by simp [tabOk]; intro e; exact r0 (by rw [e]; rfl))
        repeat (first | refine SX.seq ?_ | refine SXl.nil ?_ | refine SX.region ?_ | refine SQ.thenNormal ?_ | refine SX.skip ?_ | refine SX.condT rfl ?_ | refine SX.condF rfl ?_ | (refine SXl.no rfl rfl rfl ?_) | (refine l_load ?_; (refine SXl.v (OpW.load 0 rfl rfl rfl) rfl ?_ ?_ ?_); rfl; rfl) | (refine l_fieldAddr ?_; (refine SXl.v (OpW.fieldAddr rfl) rfl ?_ ?_ ?_); rfl; rfl) | (refine l_move ?_; (refine SXl.v (OpW.move rfl) rfl ?_ ?_ ?_); rfl; rfl) | (refine l_assign ?_; (refine SXl.v (OpW.assign rfl) rfl ?_ ?_ ?_); rfl; rfl) | (refine l_len ?_; (refine SXl.v (OpW.len rfl) rfl ?_ ?_ ?_); rfl; rfl) | (refine l_gtr ?_; (refine SXl.v (OpW.gtrT rfl rfl (by omega)) rfl ?_ ?_ ?_); rfl; rfl) | (refine l_lss ?_; (refine SXl.v (OpW.lssF rfl rfl (by omega)) rfl ?_ ?_ ?_); rfl; rfl) | (refine l_neq ?_; (refine SXl.v (OpW.neqF rfl rfl (by omega)) rfl ?_ ?_ ?_); rfl; rfl) | (refine l_not ?_; (refine SXl.v (OpW.not rfl) rfl ?_ ?_ ?_); rfl; rfl) | (refine l_pick ?_; (refine SXl.v (OpW.pick rfl rfl rfl) rfl ?_ ?_ ?_); rfl; rfl) | refine SX.ret ?_ | refine SX.exit ?_ | refine SQ.thenRet ?_ | refine SQ.thenExit ?_ | refine SQ.blockRet ?_ | refine SQ.blockExit ?_)
        refine SQ.body1 rfl rfl (fun w' hl => ⟨by rw [treeOk_no hxk (hv)], hl.mod⟩)
    · cases tq : tableOk ru
      · have hv := nodeOk_t (l := l) (i := k) (x := ⟨0, kids, st, true, ru⟩) (by simp [tabOk, tq])
        repeat (first | refine SX.seq ?_ | refine SXl.nil ?_ | refine SX.region ?_ | refine SQ.thenNormal ?_ | refine SX.skip ?_ | refine SX.condT rfl ?_ | refine SX.condF rfl ?_ | (refine SXl.no rfl rfl rfl ?_) | (refine l_load ?_; (first | refine SXl.v (OpW.loadRow (cells := nodeRow _ _ _ _ _ _ _ _ _) 0 rfl rfl rfl (nodeRow_tab _ _ _ _ _ _ _ _ _)) rfl ?_ ?_ ?_ | refine SXl.v (OpW.load 0 rfl rfl rfl) rfl ?_ ?_ ?_); rfl; rfl) | (refine l_call ?_; (refine SXl.v (OpW.call rfl (fun w hl => tableOk_any ru ra rc R _ hf2 (ht1.flatKeep hl.mod))) rfl ?_ ?_ ?_); rfl; rfl) | (refine l_fieldAddr ?_; (refine SXl.v (OpW.fieldAddr rfl) rfl ?_ ?_ ?_); rfl; rfl) | (refine l_move ?_; (refine SXl.v (OpW.move rfl) rfl ?_ ?_ ?_); rfl; rfl) | (refine l_assign ?_; (refine SXl.v (OpW.assign rfl) rfl ?_ ?_ ?_); rfl; rfl) | (refine l_lss ?_; (refine SXl.v (OpW.lssF rfl rfl (by omega)) rfl ?_ ?_ ?_); rfl; rfl) | (refine l_neq ?_; (refine SXl.v (OpW.neqF rfl rfl (by omega)) rfl ?_ ?_ ?_); rfl; rfl) | (refine l_not ?_; (refine SXl.v (OpW.not rfl) rfl ?_ ?_ ?_); rfl; rfl) | (refine l_pick ?_; (refine SXl.v (OpW.pick rfl rfl rfl) rfl ?_ ?_ ?_); rfl; rfl) | (rw [tq]) | refine SX.ret ?_ | refine SX.exit ?_ | refine SQ.thenRet ?_ | refine SQ.thenExit ?_ | refine SQ.blockRet ?_ | refine SQ.blockExit ?_)
        refine SQ.body1 rfl rfl (fun w' hl => ⟨by rw [treeOk_no hxk (hv)], hl.mod⟩)
      by_cases k0 : kids.length = 0
      · repeat (first | refine SX.seq ?_ | refine SXl.nil ?_ | refine SX.region ?_ | refine SQ.thenNormal ?_ | refine SX.skip ?_ | refine SX.condF rfl ?_ | (refine SXl.no rfl rfl rfl ?_) | (refine l_load ?_; (first | refine SXl.v (OpW.loadRow (cells := nodeRow _ _ _ _ _ _ _ _ _) 0 rfl rfl rfl (nodeRow_tab _ _ _ _ _ _ _ _ _)) rfl ?_ ?_ ?_ | refine SXl.v (OpW.load 0 rfl rfl rfl) rfl ?_ ?_ ?_); rfl; rfl) | (refine l_call ?_; (refine SXl.v (OpW.call rfl (fun w hl => tableOk_any ru ra rc R _ hf2 (ht1.flatKeep hl.mod))) rfl ?_ ?_ ?_); rfl; rfl) | (refine l_fieldAddr ?_; (refine SXl.v (OpW.fieldAddr rfl) rfl ?_ ?_ ?_); rfl; rfl) | (refine l_move ?_; (refine SXl.v (OpW.move rfl) rfl ?_ ?_ ?_); rfl; rfl) | (refine l_len ?_; (refine SXl.v (OpW.len rfl) rfl ?_ ?_ ?_); rfl; rfl) | (refine l_add ?_; (refine SXl.v (OpW.succ rfl rfl (by omega)) rfl ?_ ?_ ?_); rfl; rfl) | (refine l_gtr ?_; (refine SXl.v (OpW.gtrF rfl rfl (by omega)) rfl ?_ ?_ ?_); rfl; rfl) | (refine l_lss ?_; (refine SXl.v (OpW.lssF rfl rfl (by omega)) rfl ?_ ?_ ?_); rfl; rfl) | (refine l_neq ?_; (refine SXl.v (OpW.neqF rfl rfl (by omega)) rfl ?_ ?_ ?_); rfl; rfl) | (refine l_not ?_; (refine SXl.v (OpW.not rfl) rfl ?_ ?_ ?_); rfl; rfl) | (refine l_pick ?_; (refine SXl.v (OpW.pick rfl rfl rfl) rfl ?_ ?_ ?_); rfl; rfl) | (rw [tq]) | refine SX.exit ?_ | refine SQ.thenExit ?_ | refine SQ.blockNormal ?_ | refine SQ.blockExit ?_)
        refine SQ.roundi (k + 1) ⟨by omega, pto_succ hs hxk (nodeOk_y q1 q2 hka hup (by simp [tabOk, tq, k0]))⟩ (by omega) ?_ (fun _ hl => hl.drop1)
        (repeat (first | exact subF_nil _ | (refine subF_cons rfl ?_) | (refine subF_consv rfl (by rfl) ?_)))
      · have hv := nodeOk_t (l := l) (i := k) (x := ⟨0, kids, st, true, ru⟩) (by simp [tabOk, tq]; intro e; exact k0 (by rw [e]; rfl))
        repeat (first | refine SX.seq ?_ | refine SXl.nil ?_ | refine SX.region ?_ | refine SQ.thenNormal ?_ | refine SX.skip ?_ | refine SX.condT rfl ?_ | refine SX.condF rfl ?_ | (refine SXl.no rfl rfl rfl ?_) | (refine l_load ?_; (first | refine SXl.v (OpW.loadRow (cells := nodeRow _ _ _ _ _ _ _ _ _) 0 rfl rfl rfl (nodeRow_tab _ _ _ _ _ _ _ _ _)) rfl ?_ ?_ ?_ | refine SXl.v (OpW.load 0 rfl rfl rfl) rfl ?_ ?_ ?_); rfl; rfl) | (refine l_call ?_; (refine SXl.v (OpW.call rfl (fun w hl => tableOk_any ru ra rc R _ hf2 (ht1.flatKeep hl.mod))) rfl ?_ ?_ ?_); rfl; rfl) | (refine l_fieldAddr ?_; (refine SXl.v (OpW.fieldAddr rfl) rfl ?_ ?_ ?_); rfl; rfl) | (refine l_move ?_; (refine SXl.v (OpW.move rfl) rfl ?_ ?_ ?_); rfl; rfl) | (refine l_assign ?_; (refine SXl.v (OpW.assign rfl) rfl ?_ ?_ ?_); rfl; rfl) | (refine l_len ?_; (refine SXl.v (OpW.len rfl) rfl ?_ ?_ ?_); rfl; rfl) | (refine l_gtr ?_; (refine SXl.v (OpW.gtrT rfl rfl (by omega)) rfl ?_ ?_ ?_); rfl; rfl) | (refine l_lss ?_; (refine SXl.v (OpW.lssF rfl rfl (by omega)) rfl ?_ ?_ ?_); rfl; rfl) | (refine l_neq ?_; (refine SXl.v (OpW.neqF rfl rfl (by omega)) rfl ?_ ?_ ?_); rfl; rfl) | (refine l_not ?_; (refine SXl.v (OpW.not rfl) rfl ?_ ?_ ?_); rfl; rfl) | (refine l_pick ?_; (refine SXl.v (OpW.pick rfl rfl rfl) rfl ?_ ?_ ?_); rfl; rfl) | (rw [tq]) | refine SX.ret ?_ | refine SX.exit ?_ | refine SQ.thenRet ?_ | refine SQ.thenExit ?_ | refine SQ.blockRet ?_ | refine SQ.blockExit ?_)
        refine SQ.body1 rfl rfl (fun w' hl => ⟨by rw [treeOk_no hxk (hv)], hl.mod⟩)
  have hu0 : up ≠ 0 := u0
  obtain ⟨ku, rfl, hku⟩ := depth_up hxk q2 u0
  obtain ⟨b5, o5, z, r5, e5, hR5, hb5, hzk, hr5, hl5, hc5⟩ := h.get hku
  obtain ⟨rfl, rfl⟩ : b1 = b5 ∧ o1 = o5 := by simpa using e5
  obtain ⟨kb, kd, rb, rd, rfl, hk5, _, _⟩ := hr5
  have hfz : z.kids.length ≤ 1048576 := (hfit _ (List.mem_of_getElem? hzk.out)).1
  have hup := upOk_at (l := l) (i := k) (x := ⟨((ku + 1 : Nat) : Int), kids, st, me, ru⟩) rfl hzk.out
  repeat (first | refine SX.seq ?_ | refine SXl.nil ?_ | refine SX.region ?_ | refine SQ.thenNormal ?_ | refine SX.block ?_ | refine SX.condT rfl ?_ | refine SX.condF rfl ?_ | (refine l_call ?_; (refine SXl.v (OpW.call rfl (fun w hl => node_any _ _ _ _ ku _ _ _ _ _ _ _ _ _ w (by omega) hku (fun j v hv => hl.old (hc5 j v hv) (fun h => h)))) rfl ?_ ?_ ?_); rfl; rfl) | (refine l_field ?_; (refine SXl.v (OpW.field rfl (nodeRow_a1 _ _ _ _ _ _ _ _ _)) rfl ?_ ?_ ?_); rfl; rfl) | (refine l_load ?_; (first | refine SXl.v (OpW.load 0 rfl rfl rfl) rfl ?_ ?_ ?_ | refine SXl.v (OpW.loadAll 1 rfl rfl rfl) rfl ?_ ?_ ?_); rfl; rfl) | (refine l_fieldAddr ?_; (refine SXl.v (OpW.fieldAddr rfl) rfl ?_ ?_ ?_); rfl; rfl) | (refine l_move ?_; (refine SXl.v (OpW.move rfl) rfl ?_ ?_ ?_); rfl; rfl) | (refine l_assign ?_; (refine SXl.v (OpW.assign rfl) rfl ?_ ?_ ?_); rfl; rfl) | (refine l_len ?_; (refine SXl.v (OpW.len rfl) rfl ?_ ?_ ?_); rfl; rfl) | (refine l_lss ?_; (refine SXl.v (OpW.lssF rfl rfl (by omega)) rfl ?_ ?_ ?_); rfl; rfl) | (refine l_neq ?_; (refine SXl.v (OpW.neqT rfl rfl (by omega)) rfl ?_ ?_ ?_); rfl; rfl) | refine SX.exit ?_ | refine SQ.thenExit ?_ | refine SQ.blockExit ?_)
  refine SX.loopi (fun j : Nat => j ≤ z.kids.length) (fun j => z.kids.length - j) (fun _ => [⟨g, nodeRow ((ku + 1 : Nat) : Int) ka kids.length kc st me ra ru.length rc, 85⟩, ⟨gt, [.slice (some ⟨b1, o1, none⟩) l.length c], 37⟩]) (fun _ => []) (fun _ => []) (fun j => [(1, .pointer (some ⟨gt, 0, none⟩)), (4, .pointer (some ⟨g, 0, none⟩)), (5, .int .i64 ((k + 1 : Nat) : Int)), (16, .slice (some ⟨b1, o1, none⟩) l.length c), (17, .int .i64 l.length), (18, .int .i64 k), (8, .int .i64 (hasTo z.kids ((k + 1 : Nat) : Int) j : Nat)), (63, .slice kb z.kids.length kd), (64, .int .i64 z.kids.length), (65, .int .i64 j)]) 0 (Nat.zero_le _) ?_ (fun _ hl => hl) ?_
  · (repeat (first | exact subF_nil _ | (refine subF_cons rfl ?_) | (refine subF_consv rfl (by rfl) ?_)))
  intro j hj
  have hle := hasTo_le z.kids ((k + 1 : Nat) : Int) j
  by_cases hjl : j < z.kids.length
  · obtain ⟨b6, o6, y, rfl, _, _, hyk, hc6⟩ := IntSlice.get hk5 hjl
    have hsu := hasTo_succ (n := ((k + 1 : Nat) : Int)) hyk.out
    by_cases e : y = ((k + 1 : Nat) : Int)
    · rw [if_pos e] at hsu
      repeat (first | refine SX.seq ?_ | refine SXl.nil ?_ | refine SX.region ?_ | refine SQ.thenNormal ?_ | refine SX.block ?_ | refine SX.skip ?_ | refine SX.condT rfl ?_ | (refine l_load ?_; (refine SXl.v (OpW.loadOld rfl (by assumption) (fun h => h)) rfl ?_ ?_ ?_); rfl; rfl) | (refine l_move ?_; (refine SXl.v (OpW.move rfl) rfl ?_ ?_ ?_); rfl; rfl) | (refine l_assign ?_; (refine SXl.v (OpW.assign rfl) rfl ?_ ?_ ?_); rfl; rfl) | (refine l_add ?_; (refine SXl.v (OpW.succ rfl rfl (by omega)) rfl ?_ ?_ ?_); rfl; rfl) | (refine l_eql ?_; (refine SXl.v (OpW.eqlT rfl rfl (by omega)) rfl ?_ ?_ ?_); rfl; rfl) | (refine l_lss ?_; (refine SXl.v (OpW.lssT rfl rfl (by omega)) rfl ?_ ?_ ?_); rfl; rfl) | (refine l_indexAddr ?_; (refine SXl.v (OpW.indexAddr1 (by omega) rfl rfl) rfl ?_ ?_ ?_); rfl; rfl) | refine SQ.blockNormal ?_)
      refine SQ.roundi (j + 1) (by omega) (by omega) ?_ (fun _ hl => hl)
      (repeat (first | exact subF_nil _ | (refine subF_cons rfl ?_) | (refine subF_consv rfl (by rw [hsu]) ?_)))
    · rw [if_neg e] at hsu
      repeat (first | refine SX.seq ?_ | refine SXl.nil ?_ | refine SX.region ?_ | refine SQ.thenNormal ?_ | refine SX.block ?_ | refine SX.skip ?_ | refine SX.condT rfl ?_ | refine SX.condF rfl ?_ | (refine l_load ?_; (refine SXl.v (OpW.loadOld rfl (by assumption) (fun h => h)) rfl ?_ ?_ ?_); rfl; rfl) | (refine l_move ?_; (refine SXl.v (OpW.move rfl) rfl ?_ ?_ ?_); rfl; rfl) | (refine l_assign ?_; (refine SXl.v (OpW.assign rfl) rfl ?_ ?_ ?_); rfl; rfl) | (refine l_add ?_; (refine SXl.v (OpW.succ rfl rfl (by omega)) rfl ?_ ?_ ?_); rfl; rfl) | (refine l_eql ?_; (refine SXl.v (OpW.eqlF rfl rfl (by omega)) rfl ?_ ?_ ?_); rfl; rfl) | (refine l_lss ?_; (refine SXl.v (OpW.lssT rfl rfl (by omega)) rfl ?_ ?_ ?_); rfl; rfl) | (refine l_indexAddr ?_; (refine SXl.v (OpW.indexAddr1 (by omega) rfl rfl) rfl ?_ ?_ ?_); rfl; rfl) | refine SQ.blockNormal ?_)
      refine SQ.roundi (j + 1) (by omega) (by omega) ?_ (fun _ hl => hl)
      (repeat (first | exact subF_nil _ | (refine subF_cons rfl ?_) | (refine subF_consv rfl (by rw [hsu]; rfl) ?_)))
  have hjz : j = z.kids.length := by omega
  have hall := hasTo_all (n := ((k + 1 : Nat) : Int)) (show z.kids.length ≤ j by omega)
  by_cases c1 : z.kids.count ((k + 1 : Nat) : Int) = 1
  rotate_left
  · rw [decide_eq_false c1] at hup
    have hv := nodeOk_u hup
    repeat (first | refine SX.seq ?_ | refine SXl.nil ?_ | refine SX.region ?_ | refine SQ.thenNormal ?_ | refine SX.condT rfl ?_ | refine SX.condF rfl ?_ | (refine l_move ?_; (refine SXl.v (OpW.move rfl) rfl ?_ ?_ ?_); rfl; rfl) | (refine l_assign ?_; (refine SXl.v (OpW.assign rfl) rfl ?_ ?_ ?_); rfl; rfl) | (refine l_lss ?_; (refine SXl.v (OpW.lssF rfl rfl (by omega)) rfl ?_ ?_ ?_); rfl; rfl) | (refine l_neq ?_; (refine SXl.v (OpW.neqT rfl rfl (by omega)) rfl ?_ ?_ ?_); rfl; rfl) | refine SX.ret ?_ | refine SX.exit ?_ | refine SQ.thenRet ?_ | refine SQ.thenExit ?_ | refine SQ.blockRet ?_ | refine SQ.blockExit ?_)
    refine SQ.body1 rfl rfl (fun w' hl => ⟨by rw [treeOk_no hxk (hv)], hl.mod⟩)
  rw [decide_eq_true c1] at hup
  cases me
  · by_cases r0 : ru.length = 0
    · repeat (first | refine SX.seq ?_ | refine SXl.nil ?_ | refine SX.region ?_ | refine SQ.thenNormal ?_ | refine SX.skip ?_ | refine SX.condF rfl ?_ | (refine SXl.no rfl rfl rfl ?_) | (refine l_load ?_; (refine SXl.v (OpW.load 0 rfl rfl rfl) rfl ?_ ?_ ?_); rfl; rfl) | (refine l_fieldAddr ?_; (refine SXl.v (OpW.fieldAddr rfl) rfl ?_ ?_ ?_); rfl; rfl) | (refine l_move ?_; (refine SXl.v (OpW.move rfl) rfl ?_ ?_ ?_); rfl; rfl) | (refine l_len ?_; (refine SXl.v (OpW.len rfl) rfl ?_ ?_ ?_); rfl; rfl) | (refine l_add ?_; (refine SXl.v (OpW.succ rfl rfl (by omega)) rfl ?_ ?_ ?_); rfl; rfl) | (refine l_gtr ?_; (refine SXl.v (OpW.gtrF rfl rfl (by omega)) rfl ?_ ?_ ?_); rfl; rfl) | (refine l_lss ?_; (refine SXl.v (OpW.lssF rfl rfl (by omega)) rfl ?_ ?_ ?_); rfl; rfl) | (refine l_neq ?_; (refine SXl.v (OpW.neqF rfl rfl (by omega)) rfl ?_ ?_ ?_); rfl; rfl) | (refine l_not ?_; (refine SXl.v (OpW.not rfl) rfl ?_ ?_ ?_); rfl; rfl) | (refine l_pick ?_; (refine SXl.v (OpW.pick rfl rfl rfl) rfl ?_ ?_ ?_); rfl; rfl) | refine SX.exit ?_ | refine SQ.thenExit ?_ | refine SQ.blockNormal ?_ | refine SQ.blockExit ?_)
      refine SQ.roundi (k + 1) ⟨by omega, pto_succ hs hxk (nodeOk_y q1 q2 hka hup (by simp [tabOk, r0]))⟩ (by omega) ?_ (fun _ hl => hl.drop1)
      (repeat (first | exact subF_nil _ | (refine subF_cons rfl ?_) | (refine subF_consv rfl (by rfl) ?_)))
    · have hv := nodeOk_t (l := l) (i := k) (x := ⟨((ku + 1 : Nat) : Int), kids, st, false, ru⟩) (by simp [tabOk]; intro e; exact r0 (by rw [e]; rfl))
      repeat (first | refine SX.seq ?_ | refine SXl.nil ?_ | refine SX.region ?_ | refine SQ.thenNormal ?_ | refine SX.skip ?_ | refine SX.condT rfl ?_ | refine SX.condF rfl ?_ | (refine SXl.no rfl rfl rfl ?_) | (refine l_load ?_; (refine SXl.v (OpW.load 0 rfl rfl rfl) rfl ?_ ?_ ?_); rfl; rfl) | (refine l_fieldAddr ?_; (refine SXl.v (OpW.fieldAddr rfl) rfl ?_ ?_ ?_); rfl; rfl) | (refine l_move ?_; (refine SXl.v (OpW.move rfl) rfl ?_ ?_ ?_); rfl; rfl) | (refine l_assign ?_; (refine SXl.v (OpW.assign rfl) rfl ?_ ?_ ?_); rfl; rfl) | (refine l_len ?_; (refine SXl.v (OpW.len rfl) rfl ?_ ?_ ?_); rfl; rfl) | (refine l_gtr ?_; (refine SXl.v (OpW.gtrT rfl rfl (by omega)) rfl ?_ ?_ ?_); rfl; rfl) | (refine l_lss ?_; (refine SXl.v (OpW.lssF rfl rfl (by omega)) rfl ?_ ?_ ?_); rfl; rfl) | (refine l_neq ?_; (refine SXl.v (OpW.neqF rfl rfl (by omega)) rfl ?_ ?_ ?_); rfl; rfl) | (refine l_not ?_; (refine SXl.v (OpW.not rfl) rfl ?_ ?_ ?_); rfl; rfl) | (refine l_pick ?_; (refine SXl.v (OpW.pick rfl rfl rfl) rfl ?_ ?_ ?_); rfl; rfl) | refine SX.ret ?_ | refine SX.exit ?_ | refine SQ.thenRet ?_ | refine SQ.thenExit ?_ | refine SQ.blockRet ?_ | refine SQ.blockExit ?_)
      refine SQ.body1 rfl rfl (fun w' hl => ⟨by rw [treeOk_no hxk (hv)], hl.mod⟩)
  · cases tq : tableOk ru
    · have hv := nodeOk_t (l := l) (i := k) (x := ⟨((ku + 1 : Nat) : Int), kids, st, true, ru⟩) (by simp [tabOk, tq])
      repeat (first | refine SX.seq ?_ | refine SXl.nil ?_ | refine SX.region ?_ | refine SQ.thenNormal ?_ | refine SX.skip ?_ | refine SX.condT rfl ?_ | refine SX.condF rfl ?_ | (refine SXl.no rfl rfl rfl ?_) | (refine l_load ?_; (first | refine SXl.v (OpW.loadRow (cells := nodeRow _ _ _ _ _ _ _ _ _) 0 rfl rfl rfl (nodeRow_tab _ _ _ _ _ _ _ _ _)) rfl ?_ ?_ ?_ | refine SXl.v (OpW.load 0 rfl rfl rfl) rfl ?_ ?_ ?_); rfl; rfl) | (refine l_call ?_; (refine SXl.v (OpW.call rfl (fun w hl => tableOk_any ru ra rc R _ hf2 (ht1.flatKeep hl.mod))) rfl ?_ ?_ ?_); rfl; rfl) | (refine l_fieldAddr ?_; (refine SXl.v (OpW.fieldAddr rfl) rfl ?_ ?_ ?_); rfl; rfl) | (refine l_move ?_; (refine SXl.v (OpW.move rfl) rfl ?_ ?_ ?_); rfl; rfl) | (refine l_assign ?_; (refine SXl.v (OpW.assign rfl) rfl ?_ ?_ ?_); rfl; rfl) | (refine l_lss ?_; (refine SXl.v (OpW.lssF rfl rfl (by omega)) rfl ?_ ?_ ?_); rfl; rfl) | (refine l_neq ?_; (refine SXl.v (OpW.neqF rfl rfl (by omega)) rfl ?_ ?_ ?_); rfl; rfl) | (refine l_not ?_; (refine SXl.v (OpW.not rfl) rfl ?_ ?_ ?_); rfl; rfl) | (refine l_pick ?_; (refine SXl.v (OpW.pick rfl rfl rfl) rfl ?_ ?_ ?_); rfl; rfl) | (rw [tq]) | refine SX.ret ?_ | refine SX.exit ?_ | refine SQ.thenRet ?_ | refine SQ.thenExit ?_ | refine SQ.blockRet ?_ | refine SQ.blockExit ?_)
      refine SQ.body1 rfl rfl (fun w' hl => ⟨by rw [treeOk_no hxk (hv)], hl.mod⟩)
    by_cases k0 : kids.length = 0
    · repeat (first | refine SX.seq ?_ | refine SXl.nil ?_ | refine SX.region ?_ | refine SQ.thenNormal ?_ | refine SX.skip ?_ | refine SX.condF rfl ?_ | (refine SXl.no rfl rfl rfl ?_) | (refine l_load ?_; (first | refine SXl.v (OpW.loadRow (cells := nodeRow _ _ _ _ _ _ _ _ _) 0 rfl rfl rfl (nodeRow_tab _ _ _ _ _ _ _ _ _)) rfl ?_ ?_ ?_ | refine SXl.v (OpW.load 0 rfl rfl rfl) rfl ?_ ?_ ?_); rfl; rfl) | (refine l_call ?_; (refine SXl.v (OpW.call rfl (fun w hl => tableOk_any ru ra rc R _ hf2 (ht1.flatKeep hl.mod))) rfl ?_ ?_ ?_); rfl; rfl) | (refine l_fieldAddr ?_; (refine SXl.v (OpW.fieldAddr rfl) rfl ?_ ?_ ?_); rfl; rfl) | (refine l_move ?_; (refine SXl.v (OpW.move rfl) rfl ?_ ?_ ?_); rfl; rfl) | (refine l_len ?_; (refine SXl.v (OpW.len rfl) rfl ?_ ?_ ?_); rfl; rfl) | (refine l_add ?_; (refine SXl.v (OpW.succ rfl rfl (by omega)) rfl ?_ ?_ ?_); rfl; rfl) | (refine l_gtr ?_; (refine SXl.v (OpW.gtrF rfl rfl (by omega)) rfl ?_ ?_ ?_); rfl; rfl) | (refine l_lss ?_; (refine SXl.v (OpW.lssF rfl rfl (by omega)) rfl ?_ ?_ ?_); rfl; rfl) | (refine l_neq ?_; (refine SXl.v (OpW.neqF rfl rfl (by omega)) rfl ?_ ?_ ?_); rfl; rfl) | (refine l_not ?_; (refine SXl.v (OpW.not rfl) rfl ?_ ?_ ?_); rfl; rfl) | (refine l_pick ?_; (refine SXl.v (OpW.pick rfl rfl rfl) rfl ?_ ?_ ?_); rfl; rfl) | (rw [tq]) | refine SX.exit ?_ | refine SQ.thenExit ?_ | refine SQ.blockNormal ?_ | refine SQ.blockExit ?_)
      refine SQ.roundi (k + 1) ⟨by omega, pto_succ hs hxk (nodeOk_y q1 q2 hka hup (by simp [tabOk, tq, k0]))⟩ (by omega) ?_ (fun _ hl => hl.drop1)
      (repeat (first | exact subF_nil _ | (refine subF_cons rfl ?_) | (refine subF_consv rfl (by rfl) ?_)))
    · have hv := nodeOk_t (l := l) (i := k) (x := ⟨((ku + 1 : Nat) : Int), kids, st, true, ru⟩) (by simp [tabOk, tq]; intro e; exact k0 (by rw [e]; rfl))
      repeat (first | refine SX.seq ?_ | refine SXl.nil ?_ | refine SX.region ?_ | refine SQ.thenNormal ?_ | refine SX.skip ?_ | refine SX.condT rfl ?_ | refine SX.condF rfl ?_ | (refine SXl.no rfl rfl rfl ?_) | (refine l_load ?_; (first | refine SXl.v (OpW.loadRow (cells := nodeRow _ _ _ _ _ _ _ _ _) 0 rfl rfl rfl (nodeRow_tab _ _ _ _ _ _ _ _ _)) rfl ?_ ?_ ?_ | refine SXl.v (OpW.load 0 rfl rfl rfl) rfl ?_ ?_ ?_); rfl; rfl) | (refine l_call ?_; (refine SXl.v (OpW.call rfl (fun w hl => tableOk_any ru ra rc R _ hf2 (ht1.flatKeep hl.mod))) rfl ?_ ?_ ?_); rfl; rfl) | (refine l_fieldAddr ?_; (refine SXl.v (OpW.fieldAddr rfl) rfl ?_ ?_ ?_); rfl; rfl) | (refine l_move ?_; (refine SXl.v (OpW.move rfl) rfl ?_ ?_ ?_); rfl; rfl) | (refine l_assign ?_; (refine SXl.v (OpW.assign rfl) rfl ?_ ?_ ?_); rfl; rfl) | (refine l_len ?_; (refine SXl.v (OpW.len rfl) rfl ?_ ?_ ?_); rfl; rfl) | (refine l_gtr ?_; (refine SXl.v (OpW.gtrT rfl rfl (by omega)) rfl ?_ ?_ ?_); rfl; rfl) | (refine l_lss ?_; (refine SXl.v (OpW.lssF rfl rfl (by omega)) rfl ?_ ?_ ?_); rfl; rfl) | (refine l_neq ?_; (refine SXl.v (OpW.neqF rfl rfl (by omega)) rfl ?_ ?_ ?_); rfl; rfl) | (refine l_not ?_; (refine SXl.v (OpW.not rfl) rfl ?_ ?_ ?_); rfl; rfl) | (refine l_pick ?_; (refine SXl.v (OpW.pick rfl rfl rfl) rfl ?_ ?_ ?_); rfl; rfl) | (rw [tq]) | refine SX.ret ?_ | refine SX.exit ?_ | refine SQ.thenRet ?_ | refine SQ.thenExit ?_ | refine SQ.blockRet ?_ | refine SQ.blockExit ?_)
      refine SQ.body1 rfl rfl (fun w' hl => ⟨by rw [treeOk_no hxk (hv)], hl.mod⟩)

end Go.Proofs.YtpkpkojmaebflaaGreatDoor
