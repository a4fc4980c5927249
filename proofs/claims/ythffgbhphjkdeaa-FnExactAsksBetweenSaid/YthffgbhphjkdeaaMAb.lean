/-
  PROVED: contracts of functions and words on memory, several texts put together: what each says stands at its theorems. Conditions: as told there.
-/
import Derived.Test.YthffgbhphjkdeaaMAa
import Derived.Test.YthffgbhphjkdeaaChecked
import Derived.Deep.RegionHeld3
import Derived.Deep.QuietTactic
import Derived.BigQuiet
import Derived.Outline
import Derived.StillTailTactics
import Derived.WalkLawsBesides
import Derived.Deep.LoopGhost
import Derived.Maps.AppendAt
import Derived.Laws.StructEq
import Derived.Deep.MidRow
import Derived.Laws.Strings3
import Derived.Laws.Slices
import Derived.Laws.Tables
set_option linter.unusedVariables false
set_option linter.unusedSimpArgs false
namespace Go.Proofs.Ythffgbhphjkdeaa
open Go.RowKit
attribute [local irreducible] Style.cells nodeRow

abbrev NodeSlice (o : Bool) (R : Nat → Prop) (w : World) (a : Option Addr) (l : List Node) : Prop := SliceAt (NodeIn o R) 64 R w a l
theorem NodeSlice.mod {o : Bool} {R S : Nat → Prop} {w w' : World} {a : Option Addr} {l : List Node} (h : NodeSlice o R w a l) (hm : Mod S w w') (hs : ∀ k, R k → ¬ S k) : NodeSlice o R w' a l := SliceAt.mod h hm hs fun _ _ hx => hx.mod hm hs
theorem NodeSlice.keep {o : Bool} {R : Nat → Prop} {w w' : World} {a : Option Addr} {l : List Node} (h : NodeSlice o R w a l) (hm : Mod (fun _ => False) w w') : NodeSlice o R w' a l := h.mod hm fun _ _ f => f
/-- Lengths that a walk can bear. -/
def Node.fits (n : Nat) (x : Node) : Prop := x.kids.length ≤ n ∧ x.rules.length ≤ n

theorem info_Node : (Try.prog.info? 86).map (fun i => (i.zero, i.size, i.bytes)) = some (some (.agg (nodeRow 0 none 0 0 Style.zero false none 0 0).toArray), 64, 536) := by kernel_rfl
/-- A row of a slice, as the walk loads it. -/
theorem row_of_get {w : World} {b p : Nat} {r : List Value} {n : Nat} (hn : r.length = n) (h0 : 0 < n) (h : ∀ j v, r[j]? = some v → w.cell? ⟨b, p + j, none⟩ = some v) : hasRow w b p n = true ∧ rowOf w b p n = r.toArray := by
  subst hn
  exact rowOf_told h0 h

set_option maxRecDepth 100000 in
set_option maxHeartbeats 4000000 in
theorem toNodeS_any (l : List Node) (o : Bool) (a : Option Addr) (c : Nat) (R : Nat → Prop) (w : World) (hl : l.length ≤ 1048576) (hf : ∀ x ∈ l, x.fits 1048576) (h : NodeSlice o R w a l) :
    Calls Try.prog 100 #[.slice a l.length c] w (NewNest (NodeIn true) 86 64 w l) := by
  have H := hid h
  have HF := hid hf
  clear h hf
  obtain ⟨i0, hi, hz0, hz1, hz2⟩ := info_parts info_Node
  have hmk : ∀ W : World, (Instr.makeSlice 35 (.int .i64 (l.length : Int)) (.int .i64 (l.length : Int))).run Try.prog W = .ok (.slice (some ⟨W.heap.size, 0, none⟩) l.length l.length) (W.alloc (.cells (madeCells (Value.cells (.agg (nodeRow 0 none 0 0 Style.zero false none 0 0).toArray)) (l.length * 64)) 86)) := by
    intro W
    have := run_make (P := Try.prog) W 35 86 i0 _ Try.underlying35 hi hz0 .i64 .i64 l.length l.length (by omega) (by omega) (by rw [hz2]; omega) (by omega)
    simpa [hz1] using this
  clear hz0 hz1 hz2 hi
  go_enter Try.func100, Try.ntmps100
  go_wp2
  go_loopw [4] (fun i wr => ∃ (k : Nat) (rows : List (List Value)), k ≤ l.length ∧ i = .int .i64 k ∧ Hid (rows.length = k ∧ (∀ r ∈ rows, r.length = 64) ∧ (∀ (i : Nat) (r : List Value) (x : Node), rows[i]? = some r → l[i]? = some x → NodeIn true (fun b => w.heap.size < b) wr r x)) ∧ Filled w.heap.size 86 (l.length * 64) wr rows.flatten ∧ Mod (fun _ => False) w wr) (fun i _ => l.length - (intOf i).toNat)
  case atStart => exact ⟨0, [], by omega, rfl, hid ⟨rfl, (fun _ h => by simp at h), (fun _ _ _ h => by simp at h)⟩, Filled.made w _ _ _ (size_madeCells _ _), (Mod.refl _ w).alloc _⟩
  case round =>
    obtain ⟨k, rows, hk, rfl, HR, hF, hM⟩ := hrel
    clear hmk
    by_cases hlt : k < l.length
    · obtain ⟨b, o', x, r, rfl, hb, hbw, hx, hin, hrl', hc⟩ := (H.out.keep hM).get hlt
      obtain ⟨hxk, hxr⟩ := HF.out x (List.mem_of_getElem? hx.out)
      obtain ⟨q0, q1⟩ := row_of_get hrl' (by omega) hc
      have Hin := hid hin
      have hF0 := hF.size
      have HFl := hid hF
      have HM := hid hM
      clear hc hrl' hin hF hM
      go_wp2_with fail
      refine (toNode_any x o r R _ hxk hxr (Hin.out.keep (by (repeat (first | with_reducible exact Mod.refl _ _ | with_reducible refine Mod.drewN ?_ _ | with_reducible refine Mod.drew ?_ | with_reducible refine Mod.alloc ?_ _ | ((with_reducible refine Mod.setNew ?_ ?_ _ _ _); (rotate_left; omega)) | with_reducible refine Mod.setAt ?_ _ _ _ ))))).mono ?_
      rintro e w1 ⟨cs1, rfl, ⟨k1, c1, t1, c1', rfl, n1, n2, n3⟩, hm1⟩
      have HN := hid (show NodeIn true (fun b => wr.heap.size ≤ b) w1 (nodeRow x.up k1 x.kids.length c1 x.style x.measured t1 x.rules.length c1') x from ⟨k1, c1, t1, c1', rfl, n1, n2, n3⟩)
      have hF1 := HFl.out.mod hm1 (fun f => f)
      have q2 := hF1.row (k * 64) 64 (by omega)
      have q3 := hF1.open
      have HF1 := hid hF1
      have Hm1 := hid hm1
      clear n1 n2 n3 hF1 hm1 q0 q1
      go_wp2
      go_roundw
      case rel =>
        obtain ⟨hrl, hrs, hrep⟩ := HR.out
        have hmr : Mod (fun k => k = w.heap.size) wr (w1.setCells w.heap.size (k * 64) (nodeRow x.up k1 x.kids.length c1 x.style x.measured t1 x.rules.length c1')) := Mod.setCells (R := fun k => k = w.heap.size) (Hm1.out.mono (fun _ _ f => f.elim)) (fun _ => .inl rfl) _ _
        have hms : Mod (fun k => k = w.heap.size) w1 (w1.setCells w.heap.size (k * 64) (nodeRow x.up k1 x.kids.length c1 x.style x.measured t1 x.rules.length c1')) := Mod.setCells (R := fun k => k = w.heap.size) (Mod.refl _ _) (fun _ => .inl rfl) _ _
        refine ⟨k + 1, rows ++ [nodeRow x.up k1 x.kids.length c1 x.style x.measured t1 x.rules.length c1'], by omega, by go_num, hid ⟨by simp [hrl], lens_succ hrs (nodeRow_len _ _ _ _ _ _ _ _ _), ?_⟩, ?_, ?_⟩
        · refine rows_succ hx hrl (rows_map hrep fun r x hq => hq.mod hmr (fun k hk e => by omega)) ?_
          exact (HN.out.mod hms (fun k hk (e : k = w.heap.size) => by omega)).wide (fun k _ hk => by show w.heap.size < k; omega)
        · have hl0 := flatten_length hrs
          rw [hrl] at hl0
          rw [List.flatten_append, List.flatten_singleton]
          exact HF1.out.pushRow _ hl0.symm (by rw [nodeRow_len]; omega)
        · exact (HM.out.thenNone Hm1.out).setCellsNew (Nat.le_refl _) _ _
      case measure => simp [intOf]; omega
    · have hk' : k = l.length := by omega
      subst hk'
      obtain ⟨hrl, hrs, hrep⟩ := HR.out
      go_wp2
      go_ret
      refine ⟨w.heap.size, rows, rfl, Nat.le_refl _, ?_, hrl, hrs, rows_map hrep fun r x hq => hq.wide fun _ _ hk => Nat.le_of_lt hk, hM⟩
      exact hF.full (by rw [flatten_length hrs, hrl])

set_option maxRecDepth 100000 in
set_option maxHeartbeats 4000000 in
theorem eqNodeS_same (l : List Node) (o o' : Bool) (a a' : Option Addr) (c c' : Nat) (R S : Nat → Prop) (w : World) (hl : l.length ≤ 1048576) (hf : ∀ x ∈ l, x.fits 1048576) (h : NodeSlice o R w a l) (h' : NodeSlice o' S w a' l) :
    Calls Try.prog 105 #[.slice a l.length c, .slice a' l.length c'] w fun e w' => e = .returned (.bool true) ∧ Mod (fun _ => False) w w' := by
  have H := hid h
  have H' := hid h'
  have HF := hid hf
  clear h h' hf
  have hn0 : ((l.length : Int) != (l.length : Int)) = false := by simp
  go_enter Try.func105, Try.ntmps105
  go_wp2
  go_loopw [5] (fun i wr => ∃ k : Nat, k ≤ l.length ∧ i = .int .i64 k ∧ Mod (fun _ => False) w wr) (fun i _ => l.length - (intOf i).toNat)
  case atStart => exact ⟨0, by omega, rfl, Mod.refl _ _⟩
  case round =>
    obtain ⟨k, hk, rfl, hM⟩ := hrel
    by_cases hlt : k < l.length
    · obtain ⟨b, o1, x, r, rfl, hb, hbw, hx, hin, hrl, hc⟩ := (H.out.keep hM).get hlt
      obtain ⟨b', o2, y, r', rfl, hb', hbw', hy, hin', hrl', hd⟩ := (H'.out.keep hM).get hlt
      obtain rfl : x = y := Option.some.inj (hx.out.symm.trans hy.out)
      obtain ⟨hxk, hxr⟩ := HF.out x (List.mem_of_getElem? hx.out)
      obtain ⟨q0, q1⟩ := row_of_get hrl (by omega) hc
      obtain ⟨q2, q3⟩ := row_of_get hrl' (by omega) hd
      have Hin := hid hin
      have Hin' := hid hin'
      have HM := hid hM
      clear hc hd hrl hrl' hin hin' hM
      go_wp2
      go_still_tail 8, (by kernel_rfl)
      go_wp2_with fail
      try rw [q1]
      try rw [q3]
      refine (eqNode_same x o o' r r' R S _ hxk hxr (Hin.out.keep (by (repeat (first | with_reducible exact Mod.refl _ _ | with_reducible refine Mod.drewN ?_ _ | with_reducible refine Mod.drew ?_ | with_reducible refine Mod.alloc ?_ _ | ((with_reducible refine Mod.setNew ?_ ?_ _ _ _); (rotate_left; omega)) | with_reducible refine Mod.setAt ?_ _ _ _ )))) (Hin'.out.keep (by (repeat (first | with_reducible exact Mod.refl _ _ | with_reducible refine Mod.drewN ?_ _ | with_reducible refine Mod.drew ?_ | with_reducible refine Mod.alloc ?_ _ | ((with_reducible refine Mod.setNew ?_ ?_ _ _ _); (rotate_left; omega)) | with_reducible refine Mod.setAt ?_ _ _ _ ))))).mono ?_
      rintro e w1 ⟨rfl, hm1⟩
      go_wp2
      go_roundw
      case rel => exact ⟨k + 1, by omega, by go_num, HM.out.drew.thenNone hm1⟩
      case measure => simp [intOf]; omega
    · go_wp2
      go_ret
      exact ⟨rfl, hM⟩

set_option maxRecDepth 100000 in
set_option maxHeartbeats 4000000 in
theorem szNodeS_any (l : List Node) (o : Bool) (a : Option Addr) (c : Nat) (R : Nat → Prop) (left : Int) (w : World) (h0 : 0 ≤ left) (h1 : left ≤ 1048576) (hl : l.length ≤ 9223372036854775807) (hf : ∀ x ∈ l, x.fits 9223372036854775807) (h : NodeSlice o R w a l) :
    Calls Try.prog 97 #[.slice a l.length c, .int .i64 left] w fun e w' => e = .returned (.int .i64 (szRes left (l.length + costs Node.cost l))) ∧ Mod (fun _ => False) w w' := by
  have H := hid h
  have HF := hid hf
  clear h hf
  by_cases hs : left < l.length
  · rw [szRes_less (by omega)]
    have h2 : left - l.length < 0 := by omega
    have h3 : -9223372036854775807 ≤ left - l.length := by omega
    go_enter Try.func97, Try.ntmps97
    go_wp2
    go_ret
    exact ⟨rfl, Mod.refl _ _⟩
  · have h2 : 0 ≤ left - l.length := by omega
    go_enter Try.func97, Try.ntmps97
    go_wp2
    go_loopw [1, 5] (fun z i wr => ∃ (k : Nat) (q : Int), k ≤ l.length ∧ z = .int .i64 q ∧ Hid (q = left - l.length - costs Node.cost (l.take k)) ∧ 0 ≤ q ∧ q ≤ 1048576 ∧ i = .int .i64 k ∧ Mod (fun _ => False) w wr) (fun _ i _ => l.length - (intOf i).toNat)
    case atStart => exact ⟨0, _, by omega, rfl, hid (by simp [costs]), h2, by omega, rfl, Mod.refl _ _⟩
    case round =>
      obtain ⟨k, q, hk, rfl, hq, q1, q2, rfl, hM⟩ := hrel
      by_cases hlt : k < l.length
      · obtain ⟨b, o', x, r, rfl, hb, hbw, hx, hin, hrl', hc⟩ := (H.out.keep hM).get hlt
        obtain ⟨hxk, hxr⟩ := HF.out x (List.mem_of_getElem? hx.out)
        obtain ⟨p0, p1⟩ := row_of_get hrl' (by omega) hc
        have Hin := hid hin
        have HM := hid hM
        clear hc hrl' hin hM
        have hs1 := hid (costs_succ Node.cost hx)
        have hs2 := hid (costs_take Node.cost l (k + 1))
        go_wp2_with fail
        refine (szNode_any x o r R q _ q1 q2 hxk hxr (Hin.out.keep (by (repeat (first | with_reducible exact Mod.refl _ _ | with_reducible refine Mod.drewN ?_ _ | with_reducible refine Mod.drew ?_ | with_reducible refine Mod.alloc ?_ _ | ((with_reducible refine Mod.setNew ?_ ?_ _ _ _); (rotate_left; omega)) | with_reducible refine Mod.setAt ?_ _ _ _ ))))).mono ?_
        rintro e w1 ⟨rfl, hm1⟩
        have HM1 := hid (HM.out.thenNone hm1)
        clear hm1
        by_cases hsx : q < x.cost
        · rw [szRes_less hsx]
          have hlast := hid (szRes_less (left := left) (n := l.length + costs Node.cost l) (by have := hs1.out; have := hs2.out; have := hq.out; omega))
          go_wp2
          go_ret
          exact ⟨ret_int hlast.out.symm, HM1.out⟩
        · rw [szRes_more (by omega)]
          have q3 : 0 ≤ q - x.cost := by omega
          have hq2 := hid (show q - x.cost = left - l.length - costs Node.cost (l.take (k + 1)) by have := hs1.out; have := hq.out; omega)
          go_wp2
          go_roundw
          case rel => exact ⟨k + 1, _, by omega, rfl, hq2, q3, by omega, by go_num, HM1.out⟩
          case measure => simp [intOf]; omega
      · have hk' : k = l.length := by omega
        subst hk'
        have hlast := hid (show q = szRes left (l.length + costs Node.cost l) by have h5 := hq.out; rw [List.take_length] at h5; rw [szRes_more (by omega)]; omega)
        go_wp2
        go_ret
        exact ⟨ret_int hlast.out, hM⟩

end Go.Proofs.Ythffgbhphjkdeaa
namespace Go.Proofs.Ythffgbhphjkdeaa
open Go.RowKit

theorem cut_at (cs : List Value) (o n m : Nat) (h : o + n = m) : cs.drop o = (cs.drop o).take n ++ cs.drop m := by
  subst h
  rw [← List.drop_drop, List.take_append_drop]

set_option maxRecDepth 100000 in
set_option maxHeartbeats 4000000 in
theorem rdA_Val {w : World} {cs : List Value} (h : Rd Try.prog w 157 cs) : ∃ x : Val, cs = x.cells := by
  obtain ⟨hl, hf⟩ := h.struct Try.underlying157
  have hl2 : cs.length = 2 := hl.trans (by kernel_rfl)
  have cz0 : Try.prog.cellsOf 3 = 1 := by kernel_rfl
  match cs, hl2 with
  | [q0, q1], _ =>
    obtain ⟨v0, e0, _⟩ := (hf 0 _ rfl).int Try.underlying3
    simp [cz0] at e0
    obtain ⟨v1, e1, _⟩ := (hf 1 _ rfl).int Try.underlying3
    simp [cz0] at e1
    exact ⟨⟨v0, v1⟩, by simp [Val.cells, e0, e1]⟩

set_option maxRecDepth 100000 in
set_option maxHeartbeats 4000000 in
theorem rdA_Sides {w : World} {cs : List Value} (h : Rd Try.prog w 159 cs) : ∃ x : Sides, cs = x.cells := by
  obtain ⟨hl, hf⟩ := h.struct Try.underlying159
  have hl2 : cs.length = 12 := hl.trans (by kernel_rfl)
  have cz0 : Try.prog.cellsOf 157 = 2 := by kernel_rfl
  match cs, hl2 with
  | [q0, q1, q2, q3, q4, q5, q6, q7, q8, q9, q10, q11], _ =>
    obtain ⟨v0, e0⟩ := rdA_Val (hf 0 _ rfl)
    simp [cz0, Val.cells] at e0
    obtain ⟨v1, e1⟩ := rdA_Val (hf 1 _ rfl)
    simp [cz0, Val.cells] at e1
    obtain ⟨v2, e2⟩ := rdA_Val (hf 2 _ rfl)
    simp [cz0, Val.cells] at e2
    obtain ⟨v3, e3⟩ := rdA_Val (hf 3 _ rfl)
    simp [cz0, Val.cells] at e3
    obtain ⟨v4, e4⟩ := rdA_Val (hf 4 _ rfl)
    simp [cz0, Val.cells] at e4
    obtain ⟨v5, e5⟩ := rdA_Val (hf 5 _ rfl)
    simp [cz0, Val.cells] at e5
    exact ⟨⟨v0, v1, v2, v3, v4, v5⟩, by simp [Sides.cells, e0, e1, e2, e3, e4, e5]⟩

set_option maxRecDepth 100000 in
set_option maxHeartbeats 4000000 in
theorem rdA_Edges {w : World} {cs : List Value} (h : Rd Try.prog w 160 cs) : ∃ x : Edges, cs = x.cells := by
  obtain ⟨hl, hf⟩ := h.struct Try.underlying160
  have hl2 : cs.length = 4 := hl.trans (by kernel_rfl)
  have cz0 : Try.prog.cellsOf 3 = 1 := by kernel_rfl
  match cs, hl2 with
  | [q0, q1, q2, q3], _ =>
    obtain ⟨v0, e0, _⟩ := (hf 0 _ rfl).int Try.underlying3
    simp [cz0] at e0
    obtain ⟨v1, e1, _⟩ := (hf 1 _ rfl).int Try.underlying3
    simp [cz0] at e1
    obtain ⟨v2, e2, _⟩ := (hf 2 _ rfl).int Try.underlying3
    simp [cz0] at e2
    obtain ⟨v3, e3, _⟩ := (hf 3 _ rfl).int Try.underlying3
    simp [cz0] at e3
    exact ⟨⟨v0, v1, v2, v3⟩, by simp [Edges.cells, e0, e1, e2, e3]⟩

set_option maxRecDepth 100000 in
set_option maxHeartbeats 4000000 in
theorem rdA_Style {w : World} {cs : List Value} (h : Rd Try.prog w 162 cs) : ∃ x : Style, cs = x.cells := by
  obtain ⟨hl, hf⟩ := h.struct Try.underlying162
  have hl2 : cs.length = 60 := hl.trans (by kernel_rfl)
  have cz0 : Try.prog.cellsOf 160 = 4 := by kernel_rfl
  have cz1 : Try.prog.cellsOf 159 = 12 := by kernel_rfl
  have cz2 : Try.prog.cellsOf 157 = 2 := by kernel_rfl
  have cz3 : Try.prog.cellsOf 4 = 1 := by kernel_rfl
  have cz4 : Try.prog.cellsOf 3 = 1 := by kernel_rfl
  obtain ⟨v0, e0, _⟩ := (hf 0 _ rfl).int Try.underlying3
  replace e0 : (cs.drop 0).take (Try.prog.cellsOf 3) = [.int .i64 v0] := e0
  rw [cz4] at e0
  obtain ⟨v1, e1, _⟩ := (hf 1 _ rfl).int Try.underlying3
  replace e1 : (cs.drop 1).take (Try.prog.cellsOf 3) = [.int .i64 v1] := e1
  rw [cz4] at e1
  obtain ⟨v2, e2, _⟩ := (hf 2 _ rfl).int Try.underlying3
  replace e2 : (cs.drop 2).take (Try.prog.cellsOf 3) = [.int .i64 v2] := e2
  rw [cz4] at e2
  obtain ⟨v3, e3, _⟩ := (hf 3 _ rfl).int Try.underlying3
  replace e3 : (cs.drop 3).take (Try.prog.cellsOf 3) = [.int .i64 v3] := e3
  rw [cz4] at e3
  obtain ⟨v4, e4, _⟩ := (hf 4 _ rfl).int Try.underlying3
  replace e4 : (cs.drop 4).take (Try.prog.cellsOf 3) = [.int .i64 v4] := e4
  rw [cz4] at e4
  obtain ⟨v5, e5, _⟩ := (hf 5 _ rfl).int Try.underlying3
  replace e5 : (cs.drop 5).take (Try.prog.cellsOf 3) = [.int .i64 v5] := e5
  rw [cz4] at e5
  obtain ⟨v6, e6⟩ := (hf 6 _ rfl).bool Try.underlying4
  replace e6 : (cs.drop 6).take (Try.prog.cellsOf 4) = [.bool v6] := e6
  rw [cz3] at e6
  obtain ⟨v7, e7⟩ := (hf 7 _ rfl).bool Try.underlying4
  replace e7 : (cs.drop 7).take (Try.prog.cellsOf 4) = [.bool v7] := e7
  rw [cz3] at e7
  obtain ⟨v8, e8, _⟩ := (hf 8 _ rfl).int Try.underlying3
  replace e8 : (cs.drop 8).take (Try.prog.cellsOf 3) = [.int .i64 v8] := e8
  rw [cz4] at e8
  obtain ⟨v9, e9, _⟩ := (hf 9 _ rfl).int Try.underlying3
  replace e9 : (cs.drop 9).take (Try.prog.cellsOf 3) = [.int .i64 v9] := e9
  rw [cz4] at e9
  obtain ⟨v10, e10, _⟩ := (hf 10 _ rfl).int Try.underlying3
  replace e10 : (cs.drop 10).take (Try.prog.cellsOf 3) = [.int .i64 v10] := e10
  rw [cz4] at e10
  obtain ⟨v11, e11⟩ := rdA_Val (hf 11 _ rfl)
  replace e11 : (cs.drop 11).take (Try.prog.cellsOf 157) = v11.cells := e11
  rw [cz2] at e11
  obtain ⟨v12, e12⟩ := rdA_Val (hf 12 _ rfl)
  replace e12 : (cs.drop 13).take (Try.prog.cellsOf 157) = v12.cells := e12
  rw [cz2] at e12
  obtain ⟨v13, e13⟩ := rdA_Val (hf 13 _ rfl)
  replace e13 : (cs.drop 15).take (Try.prog.cellsOf 157) = v13.cells := e13
  rw [cz2] at e13
  obtain ⟨v14, e14⟩ := rdA_Val (hf 14 _ rfl)
  replace e14 : (cs.drop 17).take (Try.prog.cellsOf 157) = v14.cells := e14
  rw [cz2] at e14
  obtain ⟨v15, e15⟩ := rdA_Val (hf 15 _ rfl)
  replace e15 : (cs.drop 19).take (Try.prog.cellsOf 157) = v15.cells := e15
  rw [cz2] at e15
  obtain ⟨v16, e16⟩ := rdA_Val (hf 16 _ rfl)
  replace e16 : (cs.drop 21).take (Try.prog.cellsOf 157) = v16.cells := e16
  rw [cz2] at e16
  obtain ⟨v17, e17⟩ := rdA_Val (hf 17 _ rfl)
  replace e17 : (cs.drop 23).take (Try.prog.cellsOf 157) = v17.cells := e17
  rw [cz2] at e17
  obtain ⟨v18, e18, _⟩ := (hf 18 _ rfl).int Try.underlying3
  replace e18 : (cs.drop 25).take (Try.prog.cellsOf 3) = [.int .i64 v18] := e18
  rw [cz4] at e18
  obtain ⟨v19, e19⟩ := rdA_Sides (hf 19 _ rfl)
  replace e19 : (cs.drop 26).take (Try.prog.cellsOf 159) = v19.cells := e19
  rw [cz1] at e19
  obtain ⟨v20, e20⟩ := rdA_Sides (hf 20 _ rfl)
  replace e20 : (cs.drop 38).take (Try.prog.cellsOf 159) = v20.cells := e20
  rw [cz1] at e20
  obtain ⟨v21, e21⟩ := rdA_Edges (hf 21 _ rfl)
  replace e21 : (cs.drop 50).take (Try.prog.cellsOf 160) = v21.cells := e21
  rw [cz0] at e21
  obtain ⟨v22, e22⟩ := rdA_Edges (hf 22 _ rfl)
  replace e22 : (cs.drop 54).take (Try.prog.cellsOf 160) = v22.cells := e22
  rw [cz0] at e22
  obtain ⟨v23, e23, _⟩ := (hf 23 _ rfl).int Try.underlying3
  replace e23 : (cs.drop 58).take (Try.prog.cellsOf 3) = [.int .i64 v23] := e23
  rw [cz4] at e23
  obtain ⟨v24, e24, _⟩ := (hf 24 _ rfl).int Try.underlying3
  replace e24 : (cs.drop 59).take (Try.prog.cellsOf 3) = [.int .i64 v24] := e24
  rw [cz4] at e24
  have hz : cs.drop 60 = [] := List.drop_eq_nil_of_le (by omega)
  clear hf hl hl2 h
  refine ⟨⟨v0, v1, v2, v3, v4, v5, v6, v7, v8, v9, v10, v11, v12, v13, v14, v15, v16, v17, v18, v19, v20, v21, v22, v23, v24⟩, ?_⟩
  show cs.drop 0 = _
  rw [cut_at cs 0 1 1 rfl, e0, cut_at cs 1 1 2 rfl, e1, cut_at cs 2 1 3 rfl, e2, cut_at cs 3 1 4 rfl, e3, cut_at cs 4 1 5 rfl, e4, cut_at cs 5 1 6 rfl, e5, cut_at cs 6 1 7 rfl, e6, cut_at cs 7 1 8 rfl, e7, cut_at cs 8 1 9 rfl, e8, cut_at cs 9 1 10 rfl, e9, cut_at cs 10 1 11 rfl, e10, cut_at cs 11 2 13 rfl, e11, cut_at cs 13 2 15 rfl, e12, cut_at cs 15 2 17 rfl, e13, cut_at cs 17 2 19 rfl, e14, cut_at cs 19 2 21 rfl, e15, cut_at cs 21 2 23 rfl, e16, cut_at cs 23 2 25 rfl, e17, cut_at cs 25 1 26 rfl, e18, cut_at cs 26 12 38 rfl, e19, cut_at cs 38 12 50 rfl, e20, cut_at cs 50 4 54 rfl, e21, cut_at cs 54 4 58 rfl, e22, cut_at cs 58 1 59 rfl, e23, cut_at cs 59 1 60 rfl, e24, hz]
  rfl

end Go.Proofs.Ythffgbhphjkdeaa
namespace Go.Proofs.Ythffgbhphjkdeaa
open Go.RowKit

theorem NodeSlice.wide {o : Bool} {R S : Nat → Prop} {w : World} {a : Option Addr} {l : List Node} (h : NodeSlice o R w a l) (hs : ∀ k, k < w.heap.size → R k → S k) : NodeSlice o S w a l := SliceAt.wideBy h hs fun _ _ hx => hx.wide hs
/-- A tree, read from its cells; o: it may be written. -/
def TreeIn (o : Bool) (R : Nat → Prop) (w : World) (cs : List Value) (l : List Node) : Prop :=
  ∃ a c, cs = [.slice a l.length c] ∧ NodeSlice o R w a l ∧ (o = true → Wr 86 64 R w a l.length)
theorem TreeIn.mod {o : Bool} {R S : Nat → Prop} {w w' : World} {cs : List Value} {x : List Node} (h : TreeIn o R w cs x) (hm : Mod S w w') (hs : ∀ k, R k → ¬ S k) : TreeIn o R w' cs x := by
  obtain ⟨a, c, h1, h2, h3⟩ := h
  exact ⟨a, c, h1, NodeSlice.mod h2 hm hs, fun ho => (h3 ho).mod hm hs⟩
theorem TreeIn.keep {o : Bool} {R : Nat → Prop} {w w' : World} {cs : List Value} {x : List Node} (h : TreeIn o R w cs x) (hm : Mod (fun _ => False) w w') : TreeIn o R w' cs x := h.mod hm fun _ _ f => f
theorem TreeIn.wide {o : Bool} {R S : Nat → Prop} {w : World} {cs : List Value} {x : List Node} (h : TreeIn o R w cs x) (hs : ∀ k, k < w.heap.size → R k → S k) : TreeIn o S w cs x := by
  obtain ⟨a, c, h1, h2, h3⟩ := h
  exact ⟨a, c, h1, NodeSlice.wide h2 hs, fun ho => (h3 ho).weaken hs⟩
/-- Lengths that a walk can bear. -/
def treeFits (n : Nat) (l : List Node) : Prop := l.length ≤ n ∧ ∀ x ∈ l, x.fits n
def treeCost (l : List Node) : Nat := l.length + costs Node.cost l
theorem treeFits_of {l : List Node} {n : Nat} (h : treeCost l ≤ n) : treeFits n l := by
  unfold treeCost at h
  refine ⟨by omega, fun x hx => ?_⟩
  have := costs_mem Node.cost hx
  have e : x.cost = x.kids.length + x.rules.length := rfl
  unfold Node.fits
  omega

set_option maxHeartbeats 2000000 in
theorem toTree_any (x : List Node) (o : Bool) (cs : List Value) (R : Nat → Prop) (w : World) (hf : treeFits 1048576 x) (h : TreeIn o R w cs x) :
    Calls Try.prog 56 #[.agg cs.toArray] w fun e w' => ∃ cs', e = .returned (.agg cs'.toArray) ∧ TreeIn true (fun b => w.heap.size ≤ b) w' cs' x ∧ Mod (fun _ => False) w w' := by
  obtain ⟨a, c, rfl, h1, _⟩ := h
  obtain ⟨f1, f2⟩ := hf
  have H1 := hid h1
  have F2 := hid f2
  clear h1 f2
  go_enter Try.func56, Try.ntmps56
  go_wp2_with fail
  refine (toNodeS_any x o _ _ R _ f1 F2.out (H1.out.keep (by (repeat (first | with_reducible exact Mod.refl _ _ | with_reducible refine Mod.drewN ?_ _ | with_reducible refine Mod.drew ?_ | with_reducible refine Mod.alloc ?_ _ | ((with_reducible refine Mod.setNew ?_ ?_ _ _ _); (rotate_left; omega)) | with_reducible refine Mod.setAt ?_ _ _ _ ))))).mono ?_
  intro e w1 hh
  obtain ⟨g1, rfl, hg1, s1, u1, hm1⟩ := hh.use
  obtain ⟨hq1, hz1⟩ := mcell hm1
  have hs1 := hm1.size
  repeat (rw [World.size_alloc] at hs1)
  have hr1_0 : w.heap.size < w1.heap.size := by omega
  have hr1_1 : w.heap.size + 1 < w1.heap.size := by omega
  have hr1_2 : w.heap.size + 1 + 1 < w1.heap.size := by omega
  have hM1 : Mod (fun _ => False) w w1 := by (repeat (first | with_reducible exact Mod.refl _ _ | with_reducible refine Mod.drewN ?_ _ | with_reducible refine Mod.drew ?_ | with_reducible refine Mod.alloc ?_ _ | ((with_reducible refine Mod.setNew ?_ ?_ _ _ _); (rotate_left; omega)) | with_reducible refine Mod.setAt ?_ _ _ _ | with_reducible exact hm1 | with_reducible refine Mod.thenNone ?_ hm1 ))
  have S1 := hid (NodeSlice.wide s1 (S := fun b => w.heap.size + 1 + 1 + 1 ≤ b) (fun k _ hk => by simpa using hk))
  have U1 := hid (u1.weaken (S := fun b => w.heap.size + 1 + 1 + 1 ≤ b) (fun k _ hk => by simpa using hk))
  clear hh s1 u1 hm1
  go_wp2
  have hfin : ∀ W : World, Mod (fun k => k = w.heap.size + 1 + 1 ∨ k = w.heap.size + 1) w1 W → TreeIn true (fun b => w.heap.size ≤ b) W [.slice (some ⟨g1, 0, none⟩) x.length x.length] x := by
    intro W hW
    have k1 : ∀ k, w.heap.size + 1 + 1 + 1 ≤ k → ¬ (k = w.heap.size + 1 + 1 ∨ k = w.heap.size + 1) := by omega
    exact TreeIn.wide ⟨_, _, rfl, NodeSlice.mod S1.out hW k1, fun _ => U1.out.mod hW k1⟩ (fun k _ hk => by show w.heap.size ≤ k; omega)
  refine bodyPost_ret (v := .agg [.slice (some ⟨g1, 0, none⟩) x.length x.length].toArray) ?_ rfl ⟨_, rfl, hfin _ ?_, ?_⟩
  · simp [results, Try.results56, go_sem, *]
  · refine Mod.setCell (Mod.setCell (Mod.refl _ _) (fun _ => .inl (.inl rfl)) _) (fun _ => .inl (.inr rfl)) _
  · (repeat (first | with_reducible exact Mod.refl _ _ | with_reducible refine Mod.drewN ?_ _ | with_reducible refine Mod.drew ?_ | with_reducible refine Mod.alloc ?_ _ | ((with_reducible refine Mod.setNew ?_ ?_ _ _ _); (rotate_left; omega)) | with_reducible refine Mod.setAt ?_ _ _ _ | with_reducible exact hM1 | with_reducible refine Mod.thenNone ?_ hM1 ))

set_option maxHeartbeats 2000000 in
theorem eqTree_same (x : List Node) (o o' : Bool) (cs cs' : List Value) (R S : Nat → Prop) (w : World) (hf : treeFits 1048576 x) (h : TreeIn o R w cs x) (h' : TreeIn o' S w cs' x) :
    Calls Try.prog 60 #[.agg cs.toArray, .agg cs'.toArray] w fun e w' => e = .returned (.bool true) ∧ Mod (fun _ => False) w w' := by
  obtain ⟨m, c, rfl, h1, _⟩ := h
  obtain ⟨m', d, rfl, h1', _⟩ := h'
  obtain ⟨f1, f3⟩ := hf
  have H1 := hid h1
  have H1' := hid h1'
  have F3 := hid f3
  clear h1 h1' f3
  go_enter Try.func60, Try.ntmps60
  go_wp2_with fail
  refine (eqNodeS_same x o o' _ _ _ _ R S _ f1 F3.out (H1.out.keep (by (repeat (first | with_reducible exact Mod.refl _ _ | with_reducible refine Mod.drewN ?_ _ | with_reducible refine Mod.drew ?_ | with_reducible refine Mod.alloc ?_ _ | ((with_reducible refine Mod.setNew ?_ ?_ _ _ _); (rotate_left; omega)) | with_reducible refine Mod.setAt ?_ _ _ _ )))) (H1'.out.keep (by (repeat (first | with_reducible exact Mod.refl _ _ | with_reducible refine Mod.drewN ?_ _ | with_reducible refine Mod.drew ?_ | with_reducible refine Mod.alloc ?_ _ | ((with_reducible refine Mod.setNew ?_ ?_ _ _ _); (rotate_left; omega)) | with_reducible refine Mod.setAt ?_ _ _ _ ))))).mono ?_
  rintro e w1 ⟨rfl, hm1⟩
  have hM1 : Mod (fun _ => False) w w1 := by (repeat (first | with_reducible exact Mod.refl _ _ | with_reducible refine Mod.drewN ?_ _ | with_reducible refine Mod.drew ?_ | with_reducible refine Mod.alloc ?_ _ | ((with_reducible refine Mod.setNew ?_ ?_ _ _ _); (rotate_left; omega)) | with_reducible refine Mod.setAt ?_ _ _ _ | with_reducible exact hm1 | with_reducible refine Mod.thenNone ?_ hm1 ))
  go_wp2
  go_ret
  exact ⟨rfl, hM1⟩

set_option maxHeartbeats 2000000 in
theorem szTree_any (x : List Node) (o : Bool) (cs : List Value) (R : Nat → Prop) (left : Int) (w : World) (h0 : 0 ≤ left) (h1 : left ≤ 1048576) (hf : treeFits 9223372036854775807 x) (h : TreeIn o R w cs x) :
    Calls Try.prog 53 #[.agg cs.toArray, .int .i64 left] w fun e w' => e = .returned (.int .i64 (szRes left (treeCost x))) ∧ Mod (fun _ => False) w w' := by
  obtain ⟨m, c, rfl, hs, _⟩ := h
  obtain ⟨f1, f3⟩ := hf
  have H := hid hs
  have F3 := hid f3
  clear hs f3
  go_enter Try.func53, Try.ntmps53
  go_wp2_with fail
  refine (szNodeS_any x o _ _ R left _ h0 h1 f1 F3.out (H.out.keep (by (repeat (first | with_reducible exact Mod.refl _ _ | with_reducible refine Mod.drewN ?_ _ | with_reducible refine Mod.drew ?_ | with_reducible refine Mod.alloc ?_ _ | ((with_reducible refine Mod.setNew ?_ ?_ _ _ _); (rotate_left; omega)) | with_reducible refine Mod.setAt ?_ _ _ _ ))))).mono ?_
  rintro e w1 ⟨rfl, hm1⟩
  have hM1 : Mod (fun _ => False) w w1 := by (repeat (first | with_reducible exact Mod.refl _ _ | with_reducible refine Mod.drewN ?_ _ | with_reducible refine Mod.drew ?_ | with_reducible refine Mod.alloc ?_ _ | ((with_reducible refine Mod.setNew ?_ ?_ _ _ _); (rotate_left; omega)) | with_reducible refine Mod.setAt ?_ _ _ _ | with_reducible exact hm1 | with_reducible refine Mod.thenNone ?_ hm1 ))
  by_cases hs : left < (x.length + costs Node.cost x : Nat)
  · rw [szRes_less hs]
    have hc := hid (szRes_less (left := left) (n := treeCost x) hs)
    go_wp2
    go_ret
    exact ⟨ret_int hc.out.symm, hM1⟩
  · rw [szRes_more (by omega)]
    have hc := hid (szRes_more (left := left) (n := treeCost x) (by unfold treeCost; omega))
    have h2 : 0 ≤ left - (x.length + costs Node.cost x : Nat) := by omega
    unfold treeCost at hc
    generalize left - ((x.length + costs Node.cost x : Nat) : Int) = q at hc h2
    go_wp2
    go_ret
    exact ⟨ret_int hc.out.symm, hM1⟩

set_option maxRecDepth 100000 in
theorem rd_int {w : World} {cs : List Value} (h : Rd Try.prog w 3 cs) : ∃ x : Int, cs = icell x := by
  obtain ⟨x, e, _⟩ := h.int Try.underlying3
  exact ⟨x, e⟩
set_option maxRecDepth 100000 in
theorem rd_Node {w : World} {cs : List Value} (h : Rd Try.prog w 167 cs) : ∃ x : Node, NodeIn false (fun k => k < w.heap.size) w cs x ∧ x.fits 9223372036854775807 := by
  obtain ⟨hl, hf⟩ := h.struct Try.underlying167
  have hl2 : cs.length = 64 := hl.trans (by kernel_rfl)
  have z1 : Try.prog.cellsOf 3 = 1 := by kernel_rfl
  have z2 : Try.prog.cellsOf 84 = 1 := by kernel_rfl
  have z3 : Try.prog.cellsOf 162 = 60 := by kernel_rfl
  have z4 : Try.prog.cellsOf 4 = 1 := by kernel_rfl
  have z5 : Try.prog.cellsOf 165 = 1 := by kernel_rfl
  obtain ⟨up, e0, _⟩ := (hf 0 _ rfl).int Try.underlying3
  replace e0 : (cs.drop 0).take (Try.prog.cellsOf 3) = [.int .i64 up] := e0
  rw [z1] at e0
  obtain ⟨a, l, c, e1, h1, h2, h3⟩ := (hf 1 _ rfl).list (rep := Flat icell) (sz := 1) Try.underlying84 (by kernel_rfl) (by decide) (fun cs h => rd_int h)
  replace e1 : (cs.drop 1).take (Try.prog.cellsOf 84) = [.slice a l.length c] := e1
  rw [z2] at e1
  obtain ⟨s, e2⟩ := rdA_Style (hf 2 _ rfl)
  replace e2 : (cs.drop 2).take (Try.prog.cellsOf 162) = s.cells := e2
  rw [z3] at e2
  obtain ⟨m, e3⟩ := (hf 3 _ rfl).bool Try.underlying4
  replace e3 : (cs.drop 62).take (Try.prog.cellsOf 4) = [.bool m] := e3
  rw [z4] at e3
  obtain ⟨a', l', c', e4, h1', h3'⟩ := rd_Table (hf 4 _ rfl)
  replace e4 : (cs.drop 63).take (Try.prog.cellsOf 165) = [.slice a' l'.length c'] := e4
  rw [z5] at e4
  have hz : cs.drop 64 = [] := List.drop_eq_nil_of_le (by omega)
  have e : cs = nodeRow up a l.length c s m a' l'.length c' := by
    show cs.drop 0 = _
    rw [cut_at cs 0 1 1 rfl, e0, cut_at cs 1 1 2 rfl, e1, cut_at cs 2 60 62 rfl, e2, cut_at cs 62 1 63 rfl, e3, cut_at cs 63 1 64 rfl, e4, hz]
    simp [nodeRow]
  unfold maxLen at h2
  exact ⟨⟨up, l, s, m, l'⟩, ⟨a, c, a', c', e, h3, h3', fun h => by cases h⟩, by show l.length ≤ _; omega, h1'⟩
set_option maxRecDepth 100000 in
theorem rd_Tree {w : World} {cs : List Value} (h : Rd Try.prog w 24 cs) : ∃ x : List Node, TreeIn false (fun k => k < w.heap.size) w cs x ∧ treeFits 9223372036854775807 x := by
  obtain ⟨hl, hf⟩ := h.struct Try.underlying24
  have hl2 : cs.length = 1 := hl.trans (by kernel_rfl)
  have c1 : Try.prog.cellsOf 22 = 1 := by kernel_rfl
  match cs, hl2 with
  | [q0], _ =>
    obtain ⟨a, l, c, e0, h1, h2, h3⟩ := (hf 0 _ rfl).list (rep := fun w' r x => NodeIn false (fun k => k < w.heap.size) w' r x ∧ x.fits 9223372036854775807) (sz := 64) Try.underlying22 (by kernel_rfl) (by decide) (fun cs h => rd_Node h)
    obtain ⟨h4, h5⟩ := h3.split2
    simp [c1] at e0
    unfold maxLen at h2
    exact ⟨l, ⟨a, c, by simp [e0], h4, fun h => by cases h⟩, by omega, h5⟩

end Go.Proofs.Ythffgbhphjkdeaa
namespace Go.Proofs.Ythffgbhphjkdeaa
open Go.RowKit

theorem toSpace_any (x : Space) (w : World) : Calls Try.prog 153 #[.agg #[.int .i64 x.mode, .int .i64 x.n]] w fun e w' => e = .returned (.agg #[.int .i64 x.mode, .int .i64 x.n]) ∧ Mod (fun _ => False) w w' := by
  go_enter Try.func153, Try.ntmps153
  go_wp2
  refine bodyPost_ret (v := .agg #[.int .i64 x.mode, .int .i64 x.n]) (by simp [results, Try.results153, go_sem]) rfl ⟨rfl, by (repeat (first | with_reducible exact Mod.refl _ _ | with_reducible refine Mod.drewN ?_ _ | with_reducible refine Mod.drew ?_ | with_reducible refine Mod.alloc ?_ _ | ((with_reducible refine Mod.setNew ?_ ?_ _ _ _); (rotate_left; omega)) | with_reducible refine Mod.setAt ?_ _ _ _ ))⟩

theorem eqSpace_any (x y : Space) (w : World) : Calls Try.prog 104 #[.agg #[.int .i64 x.mode, .int .i64 x.n], .agg #[.int .i64 y.mode, .int .i64 y.n]] w fun e w' => e = .returned (.bool (decide (x = y))) ∧ Mod (fun _ => False) w w' := by
  obtain ⟨x0, x1⟩ := x
  obtain ⟨y0, y1⟩ := y
  go_enter Try.func104, Try.ntmps104
  go_wp2
  all_goals
    go_ret
    refine ⟨ret_bool ?_, by (repeat (first | with_reducible exact Mod.refl _ _ | with_reducible refine Mod.drewN ?_ _ | with_reducible refine Mod.drew ?_ | with_reducible refine Mod.alloc ?_ _ | ((with_reducible refine Mod.setNew ?_ ?_ _ _ _); (rotate_left; omega)) | with_reducible refine Mod.setAt ?_ _ _ _ ))⟩
    simp_all

end Go.Proofs.Ythffgbhphjkdeaa
namespace Go.Proofs.Ythffgbhphjkdeaa
open Go.RowKit

theorem info_Frame : (Try.prog.info? 132).map (fun i => (i.zero, i.size, i.bytes)) = some (some (.agg #[.int .i64 0, .int .i64 0, .int .i64 0, .int .i64 0, .int .i64 0]), 5, 40) := by kernel_rfl
set_option maxRecDepth 100000 in
theorem toFrame_any (x : Frame) (w : World) :
    Calls Try.prog 103 #[.agg #[.int .i64 x.node, .int .i64 x.x, .int .i64 x.y, .int .i64 x.wide, .int .i64 x.high]] w fun e w' => e = .returned (.agg #[.int .i64 x.node, .int .i64 x.x, .int .i64 x.y, .int .i64 x.wide, .int .i64 x.high]) ∧ Mod (fun _ => False) w w' := by
  go_enter Try.func103, Try.ntmps103
  go_wp2
  exact bodyPost_ret (v := .agg #[.int .i64 x.node, .int .i64 x.x, .int .i64 x.y, .int .i64 x.wide, .int .i64 x.high]) (by simp [results, Try.results103, go_sem]) rfl ⟨rfl, by (repeat (first | with_reducible exact Mod.refl _ _ | with_reducible refine Mod.drewN ?_ _ | with_reducible refine Mod.drew ?_ | with_reducible refine Mod.alloc ?_ _ | ((with_reducible refine Mod.setNew ?_ ?_ _ _ _); (rotate_left; omega)) | with_reducible refine Mod.setAt ?_ _ _ _ ))⟩

set_option maxHeartbeats 1000000 in
theorem eqFrame_any (x y : Frame) (w : World) : Calls Try.prog 107 #[.agg #[.int .i64 x.node, .int .i64 x.x, .int .i64 x.y, .int .i64 x.wide, .int .i64 x.high], .agg #[.int .i64 y.node, .int .i64 y.x, .int .i64 y.y, .int .i64 y.wide, .int .i64 y.high]] w fun e w' => e = .returned (.bool (decide (x = y))) ∧ Mod (fun _ => False) w w' := by
  obtain ⟨x0, x1, x2, x3, x4⟩ := x
  obtain ⟨y0, y1, y2, y3, y4⟩ := y
  go_enter Try.func107, Try.ntmps107
  go_wp2
  all_goals
    go_ret
    refine ⟨ret_bool ?_, by (repeat (first | with_reducible exact Mod.refl _ _ | with_reducible refine Mod.drewN ?_ _ | with_reducible refine Mod.drew ?_ | with_reducible refine Mod.alloc ?_ _ | ((with_reducible refine Mod.setNew ?_ ?_ _ _ _); (rotate_left; omega)) | with_reducible refine Mod.setAt ?_ _ _ _ ))⟩
    simp_all

/-- A frame of machine numbers. -/
def Frame.ok (x : Frame) : Prop := I64 x.node ∧ I64 x.x ∧ I64 x.y ∧ I64 x.wide ∧ I64 x.high
set_option maxRecDepth 100000 in
theorem rd_Frame {w : World} {cs : List Value} (h : Rd Try.prog w 134 cs) : ∃ x : Frame, cs = x.cells ∧ x.ok := by
  obtain ⟨hl, hf⟩ := h.struct Try.underlying134
  have hl2 : cs.length = 5 := hl.trans (by kernel_rfl)
  have c1 : Try.prog.cellsOf 3 = 1 := by kernel_rfl
  match cs, hl2 with
  | [q0, q1, q2, q3, q4], _ =>
    obtain ⟨n0, e0, w0⟩ := (hf 0 _ rfl).int Try.underlying3
    obtain ⟨n1, e1, w1⟩ := (hf 1 _ rfl).int Try.underlying3
    obtain ⟨n2, e2, w2⟩ := (hf 2 _ rfl).int Try.underlying3
    obtain ⟨n3, e3, w3⟩ := (hf 3 _ rfl).int Try.underlying3
    obtain ⟨n4, e4, w4⟩ := (hf 4 _ rfl).int Try.underlying3
    simp [c1] at e0 e1 e2 e3 e4
    exact ⟨⟨n0, n1, n2, n3, n4⟩, by simp [Frame.cells, e0, e1, e2, e3, e4], wf_i64 w0, wf_i64 w1, wf_i64 w2, wf_i64 w3, wf_i64 w4⟩

end Go.Proofs.Ythffgbhphjkdeaa
namespace Go.Proofs.Ythffgbhphjkdeaa
open Go.RowKit

theorem szFrameS_any (n c : Nat) (a : Option Addr) (left : Int) (h0 : 0 ≤ left) (h1 : left ≤ 1048576) (hn : n ≤ 9223372036854775807) (w : World) : Calls Try.prog 55 #[.slice a n c, .int .i64 left] w fun e w' => e = .returned (.int .i64 (if left < n then -1 else left - n)) ∧ w = w' := by
  by_cases h : left < n
  · rw [if_pos h]
    have h2 : left - n < 0 := by omega
    have h3 : -9223372036854775807 ≤ left - n := by omega
    go_enter Try.func55, Try.ntmps55
    go_wp2
    go_ret
    exact ⟨rfl, rfl⟩
  · rw [if_neg h]
    have h2 : 0 ≤ left - n := by omega
    go_enter Try.func55, Try.ntmps55
    go_wp2
    go_ret
    exact ⟨rfl, rfl⟩

set_option maxRecDepth 100000 in
set_option maxHeartbeats 1000000 in
theorem toFrameS_any (l : List Frame) (a : Option Addr) (c : Nat) (R : Nat → Prop) (w : World) (hl : l.length ≤ 1048576) (h : SliceAt (Flat Frame.cells) 5 R w a l) :
    Calls Try.prog 58 #[.slice a l.length c] w (NewRows 132 w l.length (l.map Frame.cells).flatten) := by
  have H := hid h
  clear h
  obtain ⟨i0, hi, hz0, hz1, hz2⟩ := info_parts info_Frame
  have hmk : ∀ W : World, (Instr.makeSlice 41 (.int .i64 (l.length : Int)) (.int .i64 (l.length : Int))).run Try.prog W = .ok (.slice (some ⟨W.heap.size, 0, none⟩) l.length l.length) (W.alloc (.cells (madeCells (Value.cells (.agg #[.int .i64 0, .int .i64 0, .int .i64 0, .int .i64 0, .int .i64 0])) (l.length * 5)) 132)) := by
    intro W
    have := run_make (P := Try.prog) W 41 132 i0 _ Try.underlying41 hi hz0 .i64 .i64 l.length l.length (by omega) (by omega) (by rw [hz2]; omega) (by omega)
    simpa [hz1] using this
  clear hz0 hz1 hz2 hi
  go_enter Try.func58, Try.ntmps58
  go_wp2
  go_loopw [4] (fun i wr => ∃ k : Nat, k ≤ l.length ∧ i = .int .i64 k ∧ Filled w.heap.size 132 (l.length * 5) wr ((l.take k).map Frame.cells).flatten ∧ Mod (fun _ => False) w wr) (fun i _ => l.length - (intOf i).toNat)
  case atStart => exact ⟨0, by omega, rfl, Filled.made w _ _ _ (size_madeCells _ _), (Mod.refl _ w).alloc _⟩
  case round =>
    obtain ⟨k, hk, rfl, hF, hM⟩ := hrel
    clear hmk
    by_cases hlt : k < l.length
    · obtain ⟨b, o, x, r, rfl, hb, hbw, hx, hr, hrl, hc⟩ := (H.out.mod hM (fun _ _ f => f) (fun _ _ h => h)).get hlt
      obtain rfl : r = x.cells := hr
      have c0 : wr.cell? ⟨b, o + k * 5, none⟩ = _ := hc 0 _ rfl
      have c1 : wr.cell? ⟨b, o + k * 5 + 1, none⟩ = _ := hc 1 _ rfl
      have c2 : wr.cell? ⟨b, o + k * 5 + 2, none⟩ = _ := hc 2 _ rfl
      have c3 : wr.cell? ⟨b, o + k * 5 + 3, none⟩ = _ := hc 3 _ rfl
      have c4 : wr.cell? ⟨b, o + k * 5 + 4, none⟩ = _ := hc 4 _ rfl
      clear hc hrl
      go_wp2_with fail
      refine (toFrame_any x _).mono ?_
      rintro e w1 ⟨rfl, hm1⟩
      have hF1 := hF.mod hm1 (fun f => f)
      obtain ⟨v0, d0⟩ := hF1.cell (off := k * 5) (by omega)
      obtain ⟨v1, d1⟩ := hF1.cell (off := k * 5 + 1) (by omega)
      obtain ⟨v2, d2⟩ := hF1.cell (off := k * 5 + 2) (by omega)
      obtain ⟨v3, d3⟩ := hF1.cell (off := k * 5 + 3) (by omega)
      obtain ⟨v4, d4⟩ := hF1.cell (off := k * 5 + 4) (by omega)
      have z0 := hF1.free (k * 5)
      have z1 := hF1.free (k * 5 + 1)
      have z2 := hF1.free (k * 5 + 2)
      have z3 := hF1.free (k * 5 + 3)
      have z4 := hF1.free (k * 5 + 4)
      go_wp2
      go_roundw
      case rel =>
        refine ⟨k + 1, by omega, by go_num, ?_, ?_⟩
        · have hl0 := flat_length (cells := Frame.cells) (sz := 5) (fun _ => rfl) (l.take k)
          rw [take_length_of_lt hk] at hl0
          rw [flat_succ hx]
          have e : ∀ s : List Value, s ++ x.cells = s ++ [.int .i64 x.node] ++ [.int .i64 x.x] ++ [.int .i64 x.y] ++ [.int .i64 x.wide] ++ [.int .i64 x.high] := by intro s; simp [Frame.cells]
          rw [e]
          generalize ((l.take k).map Frame.cells).flatten = s at hF1 hl0
          exact (((((hF1.push (off := k * 5) (by simp [hl0]) (by omega) _).push (off := k * 5 + 1) (by simp [hl0]) (by omega) _).push (off := k * 5 + 2) (by simp [hl0]) (by omega) _).push (off := k * 5 + 3) (by simp [hl0]) (by omega) _).push (off := k * 5 + 4) (by simp [hl0]) (by omega) _)
        · have hM1 := hM.thenNone hm1
          (repeat (first | with_reducible exact Mod.refl _ _ | with_reducible refine Mod.drewN ?_ _ | with_reducible refine Mod.drew ?_ | with_reducible refine Mod.alloc ?_ _ | ((with_reducible refine Mod.setNew ?_ ?_ _ _ _); (rotate_left; omega)) | with_reducible refine Mod.setAt ?_ _ _ _ | with_reducible exact hM1 | with_reducible refine Mod.thenNone ?_ hM1 ))
      case measure => simp [intOf]; omega
    · have hk' : k = l.length := by omega
      subst hk'
      go_wp2
      go_ret
      refine ⟨w.heap.size, rfl, Nat.le_refl _, ?_, hM⟩
      rw [List.take_length] at hF
      exact hF.full (flat_length (cells := Frame.cells) (sz := 5) (fun _ => rfl) l)

set_option maxRecDepth 100000 in
set_option maxHeartbeats 1000000 in
theorem eqFrameS_any (l m : List Frame) (a a' : Option Addr) (c c' : Nat) (R S : Nat → Prop) (w : World) (hl : l.length ≤ 9223372036854775807) (_hm : m.length ≤ 9223372036854775807) (h : SliceAt (Flat Frame.cells) 5 R w a l) (h' : SliceAt (Flat Frame.cells) 5 S w a' m) :
    Calls Try.prog 62 #[.slice a l.length c, .slice a' m.length c'] w fun e w' => e = .returned (.bool (decide (l = m))) ∧ Mod (fun _ => False) w w' := by
  have H := hid h
  have H' := hid h'
  clear h h'
  by_cases hlen : l.length = m.length
  · have hn0 : ((l.length : Int) != (m.length : Int)) = false := by simp [hlen]
    have hn1 : l.length ≤ m.length := by omega
    have hn2 : m.length ≤ l.length := by omega
    clear hlen
    go_enter Try.func62, Try.ntmps62
    go_wp2
    go_loopw [5] (fun i wr => ∃ k : Nat, k ≤ l.length ∧ i = .int .i64 k ∧ SameTo l m k ∧ Mod (fun _ => False) w wr) (fun i _ => l.length - (intOf i).toNat)
    case atStart => exact ⟨0, by omega, rfl, rfl, Mod.refl _ _⟩
    case round =>
      obtain ⟨k, hk, rfl, hsame, hmod⟩ := hrel
      by_cases hlt : k < l.length
      · obtain ⟨b, o, x, r, rfl, hb, hbw, hx, hr, hrl, hc⟩ := (H.out.mod hmod (fun _ _ f => f) (fun _ _ h => h)).get hlt
        obtain rfl : r = x.cells := hr
        obtain ⟨b', o', y, r', rfl, hb', hbw', hy, hr', hrl', hd⟩ := (H'.out.mod hmod (fun _ _ f => f) (fun _ _ h => h)).get (show k < m.length by omega)
        obtain rfl : r' = y.cells := hr'
        have hlt2 : k < m.length := by omega
        have c0 : wr.cell? ⟨b, o + k * 5, none⟩ = _ := hc 0 _ rfl
        have d0 : wr.cell? ⟨b', o' + k * 5, none⟩ = _ := hd 0 _ rfl
        have c1 : wr.cell? ⟨b, o + k * 5 + 1, none⟩ = _ := hc 1 _ rfl
        have d1 : wr.cell? ⟨b', o' + k * 5 + 1, none⟩ = _ := hd 1 _ rfl
        have c2 : wr.cell? ⟨b, o + k * 5 + 2, none⟩ = _ := hc 2 _ rfl
        have d2 : wr.cell? ⟨b', o' + k * 5 + 2, none⟩ = _ := hd 2 _ rfl
        have c3 : wr.cell? ⟨b, o + k * 5 + 3, none⟩ = _ := hc 3 _ rfl
        have d3 : wr.cell? ⟨b', o' + k * 5 + 3, none⟩ = _ := hd 3 _ rfl
        have c4 : wr.cell? ⟨b, o + k * 5 + 4, none⟩ = _ := hc 4 _ rfl
        have d4 : wr.cell? ⟨b', o' + k * 5 + 4, none⟩ = _ := hd 4 _ rfl
        clear hc hd hrl hrl'
        by_cases hxy : x = y
        · have hd : decide (x = y) = true := decide_eq_true hxy
          have Hxy := hid hxy
          clear hxy
          go_wp2
          go_still_tail 8, (by kernel_rfl)
          go_wp2_with fail
          refine (eqFrame_any x y _).mono ?_
          rintro e w1 ⟨rfl, hm1⟩
          go_wp2
          go_roundw
          case rel => exact ⟨k + 1, by omega, by go_num, hsame.succ hx (Hxy.out ▸ hy), hmod.drew.thenNone hm1⟩
          case measure => simp [intOf]; omega
        · have hd : decide (x = y) = false := decide_eq_false hxy
          go_wp2
          go_still_tail 8, (by kernel_rfl)
          go_wp2_with fail
          refine (eqFrame_any x y _).mono ?_
          rintro e w1 ⟨rfl, hm1⟩
          go_wp2
          go_ret
          exact ⟨ret_bool (decide_eq_false (ne_at hx hy hxy)).symm, hmod.drew.thenNone hm1⟩
      · go_wp2
        go_ret
        exact ⟨ret_bool (decide_eq_true (hsame.all (by omega) (by omega))).symm, hmod⟩
  · have hn0 : ((l.length : Int) != (m.length : Int)) = true := by simp; omega
    have hne : l ≠ m := fun h => hlen (by rw [h])
    clear hlen
    go_enter Try.func62, Try.ntmps62
    go_wp2
    go_ret
    exact ⟨ret_bool (decide_eq_false hne).symm, Mod.refl _ _⟩

/-- A marked element's cells, its first mark q. -/
def Frame.marked (q : Int) : List Value := [.int .i64 (q), .int .i64 (q + 1), .int .i64 (q + 1 + 1), .int .i64 (q + 1 + 1 + 1), .int .i64 (q + 1 + 1 + 1 + 1)]
def Frame.marks (q : Int) : Nat → List Value
  | 0 => []
  | k + 1 => Frame.marks q k ++ Frame.marked (q + k * 5)
theorem Frame.marks_length (q : Int) (k : Nat) : (Frame.marks q k).length = k * 5 := by
  induction k with
  | zero => simp [Frame.marks]
  | succ k ih => simp [Frame.marks, Frame.marked, ih]; omega

set_option maxRecDepth 100000 in
set_option maxHeartbeats 1000000 in
theorem markFrameS_any (n c : Nat) (a : Option Addr) (g N : Nat) (w : World) (q0 : Int) (hq0 : 0 ≤ q0) (hq1 : q0 ≤ 1000000000000000) (hn : n ≤ 1048576) (h : n = 0 ∨ a = some ⟨g, 0, none⟩ ∧ n * 5 ≤ N ∧ Filled g 132 N w []) :
    Calls Try.prog 65 #[.slice a n c, .int .i64 q0] w fun e w' => e = .returned (.int .i64 (q0 + n * 5)) ∧ Mod (fun k => k = g) w w' ∧ (n = 0 ∨ Filled g 132 N w' (Frame.marks q0 n)) := by
  have H := hid h
  clear h
  go_enter Try.func65, Try.ntmps65
  go_wp2
  go_loopw [1, 5] (fun z i wr => ∃ (k : Nat) (q : Int), k ≤ n ∧ z = .int .i64 q ∧ Hid (q = q0 + k * 5) ∧ 0 ≤ q ∧ q ≤ 10000000000000000 ∧ i = .int .i64 k ∧ Mod (fun k => k = g) w wr ∧ (n = 0 ∨ Filled g 132 N wr (Frame.marks q0 k))) (fun _ i _ => n - (intOf i).toNat)
  case atStart =>
    refine ⟨0, q0, by omega, rfl, by show q0 = q0 + _; omega, by omega, by omega, rfl, Mod.refl _ _, ?_⟩
    rcases H.out with h | ⟨_, _, h⟩
    · exact .inl h
    · exact .inr h
  case round =>
    obtain ⟨k, q, hk, rfl, hq, q1, q2, rfl, hM, hF0⟩ := hrel
    by_cases hlt : k < n
    · rcases H.out with h | ⟨rfl, hN, _⟩
      · omega
      have hF := hF0.resolve_left (by omega)
      have hl0 := Frame.marks_length q0 k
      clear hF0
      obtain ⟨v0, d0⟩ := hF.cell (off := k * 5) (by omega)
      have z0 := hF.free (k * 5)
      obtain ⟨v1, d1⟩ := hF.cell (off := k * 5 + 1) (by omega)
      have z1 := hF.free (k * 5 + 1)
      obtain ⟨v2, d2⟩ := hF.cell (off := k * 5 + 2) (by omega)
      have z2 := hF.free (k * 5 + 2)
      obtain ⟨v3, d3⟩ := hF.cell (off := k * 5 + 3) (by omega)
      have z3 := hF.free (k * 5 + 3)
      obtain ⟨v4, d4⟩ := hF.cell (off := k * 5 + 4) (by omega)
      have z4 := hF.free (k * 5 + 4)
      have HF := hid hF
      have Hl0 := hid hl0
      clear hF hl0
      go_wp2
      go_roundw
      case rel =>
        have hF := HF.out
        have hl0 := Hl0.out
        have hq' := hq.out
        refine ⟨k + 1, q + 1 + 1 + 1 + 1 + 1, by omega, rfl, by show q + 1 + 1 + 1 + 1 + 1 = _; omega, by omega, by omega, by go_num, by (repeat (first | with_reducible exact Mod.refl _ _ | with_reducible refine Mod.drewN ?_ _ | with_reducible refine Mod.drew ?_ | with_reducible refine Mod.alloc ?_ _ | ((with_reducible refine Mod.setNew ?_ ?_ _ _ _); (rotate_left; omega)) | with_reducible refine Mod.setAt ?_ _ _ _ | with_reducible exact hM | with_reducible refine Mod.thenNone ?_ hM )), .inr ?_⟩
        have e : Frame.marks q0 (k + 1) = Frame.marks q0 k ++ [.int .i64 (q)] ++ [.int .i64 (q + 1)] ++ [.int .i64 (q + 1 + 1)] ++ [.int .i64 (q + 1 + 1 + 1)] ++ [.int .i64 (q + 1 + 1 + 1 + 1)] := by
          simp [Frame.marks, Frame.marked, ← hq']
        rw [e]
        exact (((((hF.push (off := k * 5) (by simp [hl0]) (by omega) _).push (off := k * 5 + 1) (by simp [hl0]) (by omega) _).push (off := k * 5 + 2) (by simp [hl0]) (by omega) _).push (off := k * 5 + 3) (by simp [hl0]) (by omega) _).push (off := k * 5 + 4) (by simp [hl0]) (by omega) _)
      case measure => simp [intOf]; omega
    · have hk' : k = n := by omega
      subst hk'
      go_wp2
      go_ret
      exact ⟨ret_int hq.out, hM, hF0⟩

theorem Frame.marks_at (q0 : Int) (n k j : Nat) (v : Value) (hk : k < n) (hj : (Frame.marked (q0 + k * 5))[j]? = some v) : (Frame.marks q0 n)[k * 5 + j]? = some v := by
  have hjl : j < 5 := by
    have := (List.getElem?_eq_some_iff.1 hj).1
    simpa [Frame.marked] using this
  induction n with
  | zero => omega
  | succ n ih =>
    have hl := Frame.marks_length q0 n
    unfold Frame.marks
    by_cases e : k = n
    · subst e
      rw [List.getElem?_append_right (by omega), hl, Nat.add_sub_cancel_left]
      exact hj
    · rw [List.getElem?_append_left (by rw [hl]; omega)]
      exact ih (by omega)
theorem Frame.marks_cell {g e N n k : Nat} {w : World} {q0 q : Int} (hF : Filled g e N w (Frame.marks q0 n)) (hk : k < n) (hq : Hid (q = q0 + k * 5)) (j : Nat) (v : Value) (hj : (Frame.marked q)[j]? = some v) : w.cell? ⟨g, k * 5 + j, none⟩ = some v :=
  hF.read (Frame.marks_at q0 n k j v hk (by rw [← hq.out]; exact hj))

end Go.Proofs.Ythffgbhphjkdeaa
namespace Go.Proofs.Ythffgbhphjkdeaa
open Go.RowKit

/-- What holds after a struct with one new slice of frames was made. -/
def NewFrames (l : List Frame) (v : Nat → Value) (w : World) (en : Ending) (w' : World) : Prop :=
  ∃ g, en = .returned (v g) ∧ w.heap.size ≤ g ∧ w'.heap[g]? = some (.cells (l.map Frame.cells).flatten.toArray 132 (0, 0)) ∧ Mod (fun _ => False) w w'

set_option maxHeartbeats 1000000 in
theorem toBox_any (x : Memo) (a : Option Addr) (c : Nat) (R : Nat → Prop) (w : World) (hl : x.frames.length ≤ 1048576) (h : SliceAt (Flat Frame.cells) 5 R w a x.frames) :
    Calls Try.prog 154 #[.agg #[.int .i64 x.bw, .int .i64 x.bh, .int .i64 x.bb, .slice a x.frames.length c]] w (NewFrames x.frames (fun g => .agg #[.int .i64 x.bw, .int .i64 x.bh, .int .i64 x.bb, .slice (some ⟨g, 0, none⟩) x.frames.length x.frames.length]) w) := by
  have H := hid h
  clear h
  go_enter Try.func154, Try.ntmps154
  go_wp2_with fail
  refine (toFrameS_any x.frames _ _ R _ hl ?_).mono ?_
  · refine H.out.flatKeep ?_
    (repeat (first | with_reducible exact Mod.refl _ _ | with_reducible refine Mod.drewN ?_ _ | with_reducible refine Mod.drew ?_ | with_reducible refine Mod.alloc ?_ _ | ((with_reducible refine Mod.setNew ?_ ?_ _ _ _); (rotate_left; omega)) | with_reducible refine Mod.setAt ?_ _ _ _ ))
  rintro e w1 ⟨g, rfl, hg, hb, hm1⟩
  obtain ⟨hq1, hz1⟩ := mcell hm1
  have hs1 := hm1.size
  repeat (rw [World.size_alloc] at hs1)
  have hr1_0 : w.heap.size < w1.heap.size := by omega
  have hr1_1 : w.heap.size + 1 < w1.heap.size := by omega
  have hr1_2 : w.heap.size + 1 + 1 < w1.heap.size := by omega
  simp only [World.size_alloc, World.size_setCell] at hg
  have hne : g ≠ w.heap.size + 1 + 1 := by omega
  have hne' : g ≠ w.heap.size + 1 := by omega
  have Hb := hid hb
  clear hb
  go_wp2
  refine bodyPost_ret (v := .agg #[.int .i64 x.bw, .int .i64 x.bh, .int .i64 x.bb, .slice (some ⟨g, 0, none⟩) x.frames.length x.frames.length]) ?_ rfl ⟨g, rfl, by omega, ?_, ?_⟩
  · simp [results, Try.results154, go_sem, *]
  · simp only [blk_far hne, blk_far hne']
    exact Hb.out
  · (repeat (first | with_reducible exact Mod.refl _ _ | with_reducible refine Mod.drewN ?_ _ | with_reducible refine Mod.drew ?_ | with_reducible refine Mod.alloc ?_ _ | ((with_reducible refine Mod.setNew ?_ ?_ _ _ _); (rotate_left; omega)) | with_reducible refine Mod.setAt ?_ _ _ _ | with_reducible exact hm1 | with_reducible refine Mod.thenNone ?_ hm1 ))

set_option maxRecDepth 100000 in
set_option maxHeartbeats 2000000 in
theorem toMemo_any (x : Memo) (a : Option Addr) (c : Nat) (R : Nat → Prop) (w : World) (hl : x.frames.length ≤ 1048576) (h : SliceAt (Flat Frame.cells) 5 R w a x.frames) :
    Calls Try.prog 133 #[.agg #[.int .i64 x.node, .int .i64 x.wide.mode, .int .i64 x.wide.n, .int .i64 x.high.mode, .int .i64 x.high.n, .bool x.rtl, .int .i64 x.bw, .int .i64 x.bh, .int .i64 x.bb, .slice a x.frames.length c]] w (NewFrames x.frames (fun g => .agg #[.int .i64 x.node, .int .i64 x.wide.mode, .int .i64 x.wide.n, .int .i64 x.high.mode, .int .i64 x.high.n, .bool x.rtl, .int .i64 x.bw, .int .i64 x.bh, .int .i64 x.bb, .slice (some ⟨g, 0, none⟩) x.frames.length x.frames.length]) w) := by
  have H := hid h
  clear h
  go_enter Try.func133, Try.ntmps133
  go_wp2_with fail
  refine (toSpace_any x.wide _).mono ?_
  rintro e w1 ⟨rfl, hm1⟩
  obtain ⟨hq1, hz1⟩ := mcell hm1
  have hs1 := hm1.size
  repeat (rw [World.size_alloc] at hs1)
  have hr1_0 : w.heap.size < w1.heap.size := by omega
  have hr1_1 : w.heap.size + 1 < w1.heap.size := by omega
  have hr1_2 : w.heap.size + 1 + 1 < w1.heap.size := by omega
  have hM1 : Mod (fun _ => False) w w1 := by (repeat (first | with_reducible exact Mod.refl _ _ | with_reducible refine Mod.drewN ?_ _ | with_reducible refine Mod.drew ?_ | with_reducible refine Mod.alloc ?_ _ | ((with_reducible refine Mod.setNew ?_ ?_ _ _ _); (rotate_left; omega)) | with_reducible refine Mod.setAt ?_ _ _ _ | with_reducible exact hm1 | with_reducible refine Mod.thenNone ?_ hm1 ))
  go_wp2_with fail
  refine (toSpace_any x.high _).mono ?_
  rintro e w2 ⟨rfl, hm2⟩
  obtain ⟨hq2, hz2⟩ := mcell hm2
  have hs2 := hm2.size
  repeat (rw [World.size_setCell] at hs2)
  have hr2_0 : w.heap.size < w2.heap.size := by omega
  have hr2_1 : w.heap.size + 1 < w2.heap.size := by omega
  have hr2_2 : w.heap.size + 1 + 1 < w2.heap.size := by omega
  have hM2 : Mod (fun _ => False) w w2 := by (repeat (first | with_reducible exact Mod.refl _ _ | with_reducible refine Mod.drewN ?_ _ | with_reducible refine Mod.drew ?_ | with_reducible refine Mod.alloc ?_ _ | ((with_reducible refine Mod.setNew ?_ ?_ _ _ _); (rotate_left; omega)) | with_reducible refine Mod.setAt ?_ _ _ _ | with_reducible exact hm2 | with_reducible refine Mod.thenNone ?_ hm2 | with_reducible exact hM1 | with_reducible refine Mod.thenNone ?_ hM1 ))
  go_wp2_with fail
  refine (toBox_any x _ _ R _ hl ?_).mono ?_
  · refine H.out.flatKeep ?_
    (repeat (first | with_reducible exact Mod.refl _ _ | with_reducible refine Mod.drewN ?_ _ | with_reducible refine Mod.drew ?_ | with_reducible refine Mod.alloc ?_ _ | ((with_reducible refine Mod.setNew ?_ ?_ _ _ _); (rotate_left; omega)) | with_reducible refine Mod.setAt ?_ _ _ _ | with_reducible exact hM2 | with_reducible refine Mod.thenNone ?_ hM2 ))
  rintro e w3 ⟨g, rfl, hg, hb, hm3⟩
  obtain ⟨hq3, hz3⟩ := mcell hm3
  have hs3 := hm3.size
  repeat (rw [World.size_setCell] at hs3)
  have hr3_0 : w.heap.size < w3.heap.size := by omega
  have hr3_1 : w.heap.size + 1 < w3.heap.size := by omega
  have hr3_2 : w.heap.size + 1 + 1 < w3.heap.size := by omega
  simp only [World.size_alloc, World.size_setCell] at hg
  have hne : g ≠ w.heap.size + 1 + 1 := by omega
  have hne' : g ≠ w.heap.size + 1 := by omega
  have Hb := hid hb
  have hM3 : Mod (fun _ => False) w w3 := by (repeat (first | with_reducible exact Mod.refl _ _ | with_reducible refine Mod.drewN ?_ _ | with_reducible refine Mod.drew ?_ | with_reducible refine Mod.alloc ?_ _ | ((with_reducible refine Mod.setNew ?_ ?_ _ _ _); (rotate_left; omega)) | with_reducible refine Mod.setAt ?_ _ _ _ | with_reducible exact hm3 | with_reducible refine Mod.thenNone ?_ hm3 | with_reducible exact hM2 | with_reducible refine Mod.thenNone ?_ hM2 ))
  clear hb hm1 hm2 hm3 hM1 hM2
  go_wp2
  refine bodyPost_ret (v := .agg #[.int .i64 x.node, .int .i64 x.wide.mode, .int .i64 x.wide.n, .int .i64 x.high.mode, .int .i64 x.high.n, .bool x.rtl, .int .i64 x.bw, .int .i64 x.bh, .int .i64 x.bb, .slice (some ⟨g, 0, none⟩) x.frames.length x.frames.length]) ?_ rfl ⟨g, rfl, by omega, ?_, ?_⟩
  · simp [results, Try.results133, go_sem, *]
  · simp only [blk_far hne, blk_far hne']
    exact Hb.out
  · (repeat (first | with_reducible exact Mod.refl _ _ | with_reducible refine Mod.drewN ?_ _ | with_reducible refine Mod.drew ?_ | with_reducible refine Mod.alloc ?_ _ | ((with_reducible refine Mod.setNew ?_ ?_ _ _ _); (rotate_left; omega)) | with_reducible refine Mod.setAt ?_ _ _ _ | with_reducible exact hM3 | with_reducible refine Mod.thenNone ?_ hM3 ))

set_option maxHeartbeats 1000000 in
theorem eqBox_any (x : Memo) (a a' : Option Addr) (c c' : Nat) (R S : Nat → Prop) (w : World) (hl : x.frames.length ≤ 1048576) (h : SliceAt (Flat Frame.cells) 5 R w a x.frames) (h' : SliceAt (Flat Frame.cells) 5 S w a' x.frames) :
    Calls Try.prog 158 #[.agg #[.int .i64 x.bw, .int .i64 x.bh, .int .i64 x.bb, .slice a x.frames.length c], .agg #[.int .i64 x.bw, .int .i64 x.bh, .int .i64 x.bb, .slice a' x.frames.length c']] w fun e w' => e = .returned (.bool true) ∧ Mod (fun _ => False) w w' := by
  have H := hid h
  have H' := hid h'
  clear h h'
  go_enter Try.func158, Try.ntmps158
  go_wp2_with fail
  refine (eqFrameS_any x.frames x.frames _ _ _ _ _ _ _ (by omega) (by omega) (H.out.flatKeep (by (repeat (first | with_reducible exact Mod.refl _ _ | with_reducible refine Mod.drewN ?_ _ | with_reducible refine Mod.drew ?_ | with_reducible refine Mod.alloc ?_ _ | ((with_reducible refine Mod.setNew ?_ ?_ _ _ _); (rotate_left; omega)) | with_reducible refine Mod.setAt ?_ _ _ _ )))) (H'.out.flatKeep (by (repeat (first | with_reducible exact Mod.refl _ _ | with_reducible refine Mod.drewN ?_ _ | with_reducible refine Mod.drew ?_ | with_reducible refine Mod.alloc ?_ _ | ((with_reducible refine Mod.setNew ?_ ?_ _ _ _); (rotate_left; omega)) | with_reducible refine Mod.setAt ?_ _ _ _ ))))).mono ?_
  rintro e w1 ⟨rfl, hm1⟩
  rw [decide_eq_true rfl]
  go_wp2
  go_ret
  exact ⟨rfl, by (repeat (first | with_reducible exact Mod.refl _ _ | with_reducible refine Mod.drewN ?_ _ | with_reducible refine Mod.drew ?_ | with_reducible refine Mod.alloc ?_ _ | ((with_reducible refine Mod.setNew ?_ ?_ _ _ _); (rotate_left; omega)) | with_reducible refine Mod.setAt ?_ _ _ _ | with_reducible exact hm1 | with_reducible refine Mod.thenNone ?_ hm1 ))⟩

set_option maxHeartbeats 1000000 in
theorem eqMemo_any (x : Memo) (a a' : Option Addr) (c c' : Nat) (R S : Nat → Prop) (w : World) (hl : x.frames.length ≤ 1048576) (h : SliceAt (Flat Frame.cells) 5 R w a x.frames) (h' : SliceAt (Flat Frame.cells) 5 S w a' x.frames) :
    Calls Try.prog 136 #[.agg #[.int .i64 x.node, .int .i64 x.wide.mode, .int .i64 x.wide.n, .int .i64 x.high.mode, .int .i64 x.high.n, .bool x.rtl, .int .i64 x.bw, .int .i64 x.bh, .int .i64 x.bb, .slice a x.frames.length c], .agg #[.int .i64 x.node, .int .i64 x.wide.mode, .int .i64 x.wide.n, .int .i64 x.high.mode, .int .i64 x.high.n, .bool x.rtl, .int .i64 x.bw, .int .i64 x.bh, .int .i64 x.bb, .slice a' x.frames.length c']] w fun e w' => e = .returned (.bool true) ∧ Mod (fun _ => False) w w' := by
  have H := hid h
  have H' := hid h'
  clear h h'
  go_enter Try.func136, Try.ntmps136
  go_wp2_with fail
  refine (eqSpace_any x.wide x.wide _).mono ?_
  rintro e w1 ⟨rfl, hm1⟩
  rw [decide_eq_true rfl]
  obtain ⟨hq1, hz1⟩ := mcell hm1
  have hs1 := hm1.size
  repeat (rw [World.size_alloc] at hs1)
  have hr1_0 : w.heap.size < w1.heap.size := by omega
  have hr1_1 : w.heap.size + 1 < w1.heap.size := by omega
  have hM1 : Mod (fun _ => False) w w1 := by (repeat (first | with_reducible exact Mod.refl _ _ | with_reducible refine Mod.drewN ?_ _ | with_reducible refine Mod.drew ?_ | with_reducible refine Mod.alloc ?_ _ | ((with_reducible refine Mod.setNew ?_ ?_ _ _ _); (rotate_left; omega)) | with_reducible refine Mod.setAt ?_ _ _ _ | with_reducible exact hm1 | with_reducible refine Mod.thenNone ?_ hm1 ))
  go_wp2_with fail
  refine (eqSpace_any x.high x.high _).mono ?_
  rintro e w2 ⟨rfl, hm2⟩
  rw [decide_eq_true rfl]
  obtain ⟨hq2, hz2⟩ := mcell hm2
  have hs2 := hm2.size
  repeat (unfold World.drewN at hs2)
  have hr2_0 : w.heap.size < w2.heap.size := by omega
  have hr2_1 : w.heap.size + 1 < w2.heap.size := by omega
  have hM2 : Mod (fun _ => False) w w2 := by (repeat (first | with_reducible exact Mod.refl _ _ | with_reducible refine Mod.drewN ?_ _ | with_reducible refine Mod.drew ?_ | with_reducible refine Mod.alloc ?_ _ | ((with_reducible refine Mod.setNew ?_ ?_ _ _ _); (rotate_left; omega)) | with_reducible refine Mod.setAt ?_ _ _ _ | with_reducible exact hm2 | with_reducible refine Mod.thenNone ?_ hm2 | with_reducible exact hM1 | with_reducible refine Mod.thenNone ?_ hM1 ))
  go_wp2_with fail
  refine (eqBox_any x _ _ _ _ R S _ hl (H.out.flatKeep hM2) (H'.out.flatKeep hM2)).mono ?_
  rintro e w3 ⟨rfl, hm3⟩
  go_wp2
  go_ret
  exact ⟨rfl, by (repeat (first | with_reducible exact Mod.refl _ _ | with_reducible refine Mod.drewN ?_ _ | with_reducible refine Mod.drew ?_ | with_reducible refine Mod.alloc ?_ _ | ((with_reducible refine Mod.setNew ?_ ?_ _ _ _); (rotate_left; omega)) | with_reducible refine Mod.setAt ?_ _ _ _ | with_reducible exact hm3 | with_reducible refine Mod.thenNone ?_ hm3 | with_reducible exact hM2 | with_reducible refine Mod.thenNone ?_ hM2 ))⟩

theorem szBox_any (x0 x1 x2 : Int) (n c : Nat) (a : Option Addr) (left : Int) (h0 : 0 ≤ left) (h1 : left ≤ 1048576) (hn : n ≤ 9223372036854775807) (w : World) : Calls Try.prog 149 #[.agg #[.int .i64 x0, .int .i64 x1, .int .i64 x2, .slice a n c], .int .i64 left] w fun e w' => e = .returned (.int .i64 (if left < n then -1 else left - n)) ∧ Mod (fun _ => False) w w' := by
  by_cases h : left < n
  · rw [if_pos h]
    go_enter Try.func149, Try.ntmps149
    go_wp2_with fail
    refine (szFrameS_any _ _ _ _ h0 h1 hn _).mono ?_
    rintro e w' ⟨rfl, rfl⟩
    rw [if_pos h]
    go_wp2
    go_ret
    exact ⟨rfl, by (repeat (first | with_reducible exact Mod.refl _ _ | with_reducible refine Mod.drewN ?_ _ | with_reducible refine Mod.drew ?_ | with_reducible refine Mod.alloc ?_ _ | ((with_reducible refine Mod.setNew ?_ ?_ _ _ _); (rotate_left; omega)) | with_reducible refine Mod.setAt ?_ _ _ _ ))⟩
  · rw [if_neg h]
    have h2 : 0 ≤ left - n := by omega
    go_enter Try.func149, Try.ntmps149
    go_wp2_with fail
    refine (szFrameS_any _ _ _ _ h0 h1 hn _).mono ?_
    rintro e w' ⟨rfl, rfl⟩
    rw [if_neg (by omega)]
    go_wp2
    go_ret
    exact ⟨rfl, by (repeat (first | with_reducible exact Mod.refl _ _ | with_reducible refine Mod.drewN ?_ _ | with_reducible refine Mod.drew ?_ | with_reducible refine Mod.alloc ?_ _ | ((with_reducible refine Mod.setNew ?_ ?_ _ _ _); (rotate_left; omega)) | with_reducible refine Mod.setAt ?_ _ _ _ ))⟩
theorem szMemo_any (x : Memo) (n c : Nat) (a : Option Addr) (left : Int) (h0 : 0 ≤ left) (h1 : left ≤ 1048576) (hn : n ≤ 9223372036854775807) (w : World) : Calls Try.prog 131 #[.agg #[.int .i64 x.node, .int .i64 x.wide.mode, .int .i64 x.wide.n, .int .i64 x.high.mode, .int .i64 x.high.n, .bool x.rtl, .int .i64 x.bw, .int .i64 x.bh, .int .i64 x.bb, .slice a n c], .int .i64 left] w fun e w' => e = .returned (.int .i64 (if left < n then -1 else left - n)) ∧ Mod (fun _ => False) w w' := by
  by_cases h : left < n
  · rw [if_pos h]
    go_enter Try.func131, Try.ntmps131
    go_wp2_with fail
    refine (szBox_any _ _ _ _ _ _ _ h0 h1 hn _).mono ?_
    rintro e w1 ⟨rfl, hm1⟩
    rw [if_pos h]
    go_wp2
    go_ret
    exact ⟨rfl, by (repeat (first | with_reducible exact Mod.refl _ _ | with_reducible refine Mod.drewN ?_ _ | with_reducible refine Mod.drew ?_ | with_reducible refine Mod.alloc ?_ _ | ((with_reducible refine Mod.setNew ?_ ?_ _ _ _); (rotate_left; omega)) | with_reducible refine Mod.setAt ?_ _ _ _ | with_reducible exact hm1 | with_reducible refine Mod.thenNone ?_ hm1 ))⟩
  · rw [if_neg h]
    have h2 : 0 ≤ left - n := by omega
    go_enter Try.func131, Try.ntmps131
    go_wp2_with fail
    refine (szBox_any _ _ _ _ _ _ _ h0 h1 hn _).mono ?_
    rintro e w1 ⟨rfl, hm1⟩
    rw [if_neg (by omega)]
    go_wp2
    go_ret
    exact ⟨rfl, by (repeat (first | with_reducible exact Mod.refl _ _ | with_reducible refine Mod.drewN ?_ _ | with_reducible refine Mod.drew ?_ | with_reducible refine Mod.alloc ?_ _ | ((with_reducible refine Mod.setNew ?_ ?_ _ _ _); (rotate_left; omega)) | with_reducible refine Mod.setAt ?_ _ _ _ | with_reducible exact hm1 | with_reducible refine Mod.thenNone ?_ hm1 ))⟩

/-- A memo of machine numbers. -/
def Memo.ok (x : Memo) : Prop := I64 x.node ∧ I64 x.bw ∧ I64 x.bh ∧ ∀ f ∈ x.frames, f.ok
set_option maxRecDepth 100000 in
theorem rd_Space {w : World} {cs : List Value} (h : Rd Try.prog w 169 cs) : ∃ x : Space, cs = x.cells := by
  obtain ⟨hl, hf⟩ := h.struct Try.underlying169
  have hl2 : cs.length = 2 := hl.trans (by kernel_rfl)
  have c1 : Try.prog.cellsOf 3 = 1 := by kernel_rfl
  match cs, hl2 with
  | [c0, c1'], _ =>
    obtain ⟨n0, e0, _⟩ := (hf 0 _ rfl).int Try.underlying3
    obtain ⟨n1, e1, _⟩ := (hf 1 _ rfl).int Try.underlying3
    simp [c1] at e0 e1
    exact ⟨⟨n0, n1⟩, by simp [Space.cells, e0, e1]⟩
set_option maxRecDepth 100000 in
theorem rd_Box {w : World} {cs : List Value} (h : Rd Try.prog w 171 cs) : ∃ (x0 x1 x2 : Int) (a : Option Addr) (l : List Frame) (c : Nat), cs = [.int .i64 x0, .int .i64 x1, .int .i64 x2, .slice a l.length c] ∧ I64 x0 ∧ I64 x1 ∧ l.length ≤ 9223372036854775807 ∧ SliceAt (Flat Frame.cells) 5 (fun k => k < w.heap.size) w a l ∧ ∀ f ∈ l, f.ok := by
  obtain ⟨hl, hf⟩ := h.struct Try.underlying171
  have hl2 : cs.length = 4 := hl.trans (by kernel_rfl)
  have c1 : Try.prog.cellsOf 3 = 1 := by kernel_rfl
  have c2 : Try.prog.cellsOf 29 = 1 := by kernel_rfl
  match cs, hl2 with
  | [q0, q1, q2, q3], _ =>
    obtain ⟨n0, e0, w0⟩ := (hf 0 _ rfl).int Try.underlying3
    obtain ⟨n1, e1, w1⟩ := (hf 1 _ rfl).int Try.underlying3
    obtain ⟨n2, e2, w2⟩ := (hf 2 _ rfl).int Try.underlying3
    obtain ⟨a, l, c, e, h1, h2, h3⟩ := (hf 3 _ rfl).list (rep := fun _ r x => r = Frame.cells x ∧ x.ok) (sz := 5) Try.underlying29 (by kernel_rfl) (by decide) (fun cs h => rd_Frame h)
    simp [c1, c2] at e0 e1 e2 e
    unfold maxLen at h2
    obtain ⟨h4, h5⟩ := h3.split
    exact ⟨n0, n1, n2, a, l, c, by simp [e0, e1, e2, e], wf_i64 w0, wf_i64 w1, by omega, h4, h5⟩
set_option maxRecDepth 100000 in
theorem rd_Memo {w : World} {cs : List Value} (h : Rd Try.prog w 173 cs) : ∃ (x : Memo) (a : Option Addr) (c : Nat), cs = [.int .i64 x.node, .int .i64 x.wide.mode, .int .i64 x.wide.n, .int .i64 x.high.mode, .int .i64 x.high.n, .bool x.rtl, .int .i64 x.bw, .int .i64 x.bh, .int .i64 x.bb, .slice a x.frames.length c] ∧ x.ok ∧ x.frames.length ≤ 9223372036854775807 ∧ SliceAt (Flat Frame.cells) 5 (fun k => k < w.heap.size) w a x.frames := by
  obtain ⟨hl, hf⟩ := h.struct Try.underlying173
  have hl2 : cs.length = 10 := hl.trans (by kernel_rfl)
  have c1 : Try.prog.cellsOf 3 = 1 := by kernel_rfl
  have c2 : Try.prog.cellsOf 4 = 1 := by kernel_rfl
  have c3 : Try.prog.cellsOf 169 = 2 := by kernel_rfl
  have c4 : Try.prog.cellsOf 171 = 4 := by kernel_rfl
  match cs, hl2 with
  | [q0, q1, q2, q3, q4, q5, q6, q7, q8, q9], _ =>
    obtain ⟨n0, e0, w0⟩ := (hf 0 _ rfl).int Try.underlying3
    obtain ⟨x1, e1⟩ := rd_Space (hf 1 _ rfl)
    obtain ⟨x2, e2⟩ := rd_Space (hf 2 _ rfl)
    obtain ⟨b3, e3⟩ := (hf 3 _ rfl).bool Try.underlying4
    obtain ⟨y0, y1, y2, a, l, c, e4, i0, i1, hn, hs, hk⟩ := rd_Box (hf 4 _ rfl)
    simp [c1, c2, c3, c4, Space.cells] at e0 e1 e2 e3 e4
    exact ⟨⟨n0, x1, x2, b3, y0, y1, y2, l⟩, a, c, by simp [e0, e1, e2, e3, e4], ⟨wf_i64 w0, i0, i1, hk⟩, hn, hs⟩

/-- A memo's value reads as the memo. -/
def MemoAt (x : Memo) (w : World) (v : Value) : Prop := ∃ a c, v = .agg #[.int .i64 x.node, .int .i64 x.wide.mode, .int .i64 x.wide.n, .int .i64 x.high.mode, .int .i64 x.high.n, .bool x.rtl, .int .i64 x.bw, .int .i64 x.bh, .int .i64 x.bb, .slice a x.frames.length c] ∧ ∃ R, SliceAt (Flat Frame.cells) 5 R w a x.frames
theorem MemoAt.keep {x : Memo} {w w' : World} {v : Value} (h : MemoAt x w v) (hm : Mod (fun _ => False) w w') : MemoAt x w' v := by
  obtain ⟨a, c, h1, R, h2⟩ := h
  exact ⟨a, c, h1, R, h2.flatKeep hm⟩
theorem NewFrames.at {w w' : World} {x : Memo} {en : Ending} (h : NewFrames x.frames (fun g => .agg #[.int .i64 x.node, .int .i64 x.wide.mode, .int .i64 x.wide.n, .int .i64 x.high.mode, .int .i64 x.high.n, .bool x.rtl, .int .i64 x.bw, .int .i64 x.bh, .int .i64 x.bb, .slice (some ⟨g, 0, none⟩) x.frames.length x.frames.length]) w en w') :
    ∃ v, en = .returned v ∧ MemoAt x w' v ∧ Mod (fun _ => False) w w' := by
  obtain ⟨g, he, hg, hb, hm⟩ := h
  exact ⟨_, he, ⟨_, _, rfl, _, flat_of_blk hb (fun _ => rfl)⟩, hm⟩

end Go.Proofs.Ythffgbhphjkdeaa
namespace Go.Proofs.Ythffgbhphjkdeaa
open Go.RowKit

/-- A memo's cells, its frames' slice among them. -/
def memoRow (x : Memo) (a : Option Addr) (c : Nat) : List Value := [.int .i64 x.node, .int .i64 x.wide.mode, .int .i64 x.wide.n, .int .i64 x.high.mode, .int .i64 x.high.n, .bool x.rtl, .int .i64 x.bw, .int .i64 x.bh, .int .i64 x.bb, .slice a x.frames.length c]
/-- A memo's cells read as the memo; o: its frames may be written. -/
def MemoIn (o : Bool) (R : Nat → Prop) (w : World) (cs : List Value) (x : Memo) : Prop :=
  ∃ a c, cs = memoRow x a c ∧ SliceAt (Flat Frame.cells) 5 R w a x.frames ∧ (o = true → Wr 132 5 R w a x.frames.length)
theorem MemoIn.mod {o : Bool} {R S : Nat → Prop} {w w' : World} {cs : List Value} {x : Memo} (h : MemoIn o R w cs x) (hm : Mod S w w') (hs : ∀ k, R k → ¬ S k) : MemoIn o R w' cs x := by
  obtain ⟨a, c, h1, h2, h3⟩ := h
  exact ⟨a, c, h1, h2.flatMod hm hs, fun ho => (h3 ho).mod hm hs⟩
theorem MemoIn.keep {o : Bool} {R : Nat → Prop} {w w' : World} {cs : List Value} {x : Memo} (h : MemoIn o R w cs x) (hm : Mod (fun _ => False) w w') : MemoIn o R w' cs x := h.mod hm fun _ _ f => f
theorem MemoIn.wide {o : Bool} {R S : Nat → Prop} {w : World} {cs : List Value} {x : Memo} (h : MemoIn o R w cs x) (hs : ∀ k, k < w.heap.size → R k → S k) : MemoIn o S w cs x := by
  obtain ⟨a, c, h1, h2, h3⟩ := h
  exact ⟨a, c, h1, SliceAt.wide h2 hs, fun ho => (h3 ho).weaken hs⟩
abbrev MemoSlice (o : Bool) (R : Nat → Prop) (w : World) (a : Option Addr) (l : List Memo) : Prop := SliceAt (MemoIn o R) 10 R w a l
theorem MemoSlice.mod {o : Bool} {R S : Nat → Prop} {w w' : World} {a : Option Addr} {l : List Memo} (h : MemoSlice o R w a l) (hm : Mod S w w') (hs : ∀ k, R k → ¬ S k) : MemoSlice o R w' a l := SliceAt.mod h hm hs fun _ _ hx => hx.mod hm hs
theorem MemoSlice.keep {o : Bool} {R : Nat → Prop} {w w' : World} {a : Option Addr} {l : List Memo} (h : MemoSlice o R w a l) (hm : Mod (fun _ => False) w w') : MemoSlice o R w' a l := h.mod hm fun _ _ f => f

theorem info_Memo : (Try.prog.info? 178).map (fun i => (i.zero, i.size, i.bytes)) = some (some (.agg #[.int .i64 0, .int .i64 0, .int .i64 0, .int .i64 0, .int .i64 0, .bool false, .int .i64 0, .int .i64 0, .int .i64 0, .slice none 0 0]), 10, 96) := by kernel_rfl

set_option maxRecDepth 100000 in
set_option maxHeartbeats 4000000 in
theorem toMemoS_any (l : List Memo) (o : Bool) (a : Option Addr) (c : Nat) (R : Nat → Prop) (w : World) (hl : l.length ≤ 1048576) (hf : ∀ x ∈ l, x.frames.length ≤ 1048576) (h : MemoSlice o R w a l) :
    Calls Try.prog 101 #[.slice a l.length c] w (NewNest (MemoIn true) 178 10 w l) := by
  have H := hid h
  have HF := hid hf
  clear h hf
  obtain ⟨i0, hi, hz0, hz1, hz2⟩ := info_parts info_Memo
  have hmk : ∀ W : World, (Instr.makeSlice 38 (.int .i64 (l.length : Int)) (.int .i64 (l.length : Int))).run Try.prog W = .ok (.slice (some ⟨W.heap.size, 0, none⟩) l.length l.length) (W.alloc (.cells (madeCells (Value.cells (.agg #[.int .i64 0, .int .i64 0, .int .i64 0, .int .i64 0, .int .i64 0, .bool false, .int .i64 0, .int .i64 0, .int .i64 0, .slice none 0 0])) (l.length * 10)) 178)) := by
    intro W
    have := run_make (P := Try.prog) W 38 178 i0 _ Try.underlying38 hi hz0 .i64 .i64 l.length l.length (by omega) (by omega) (by rw [hz2]; omega) (by omega)
    simpa [hz1] using this
  clear hz0 hz1 hz2 hi
  go_enter Try.func101, Try.ntmps101
  go_wp2
  go_loopw [4] (fun i wr => ∃ (k : Nat) (rows : List (List Value)), k ≤ l.length ∧ i = .int .i64 k ∧ Hid (rows.length = k ∧ (∀ r ∈ rows, r.length = 10) ∧ (∀ (i : Nat) (r : List Value) (x : Memo), rows[i]? = some r → l[i]? = some x → MemoIn true (fun b => w.heap.size < b) wr r x)) ∧ Filled w.heap.size 178 (l.length * 10) wr rows.flatten ∧ Mod (fun _ => False) w wr) (fun i _ => l.length - (intOf i).toNat)
  case atStart => exact ⟨0, [], by omega, rfl, hid ⟨rfl, (fun _ h => by simp at h), (fun _ _ _ h => by simp at h)⟩, Filled.made w _ _ _ (size_madeCells _ _), (Mod.refl _ w).alloc _⟩
  case round =>
    obtain ⟨k, rows, hk, rfl, HR, hF, hM⟩ := hrel
    clear hmk
    by_cases hlt : k < l.length
    · obtain ⟨b, o', x, r, rfl, hb, hbw, hx, ⟨fa, fc, rfl, hfs, _⟩, hrl', hc⟩ := (H.out.keep hM).get hlt
      have hxl := HF.out x (List.mem_of_getElem? hx.out)
      have c0 : wr.cell? ⟨b, o' + k * 10, none⟩ = _ := hc 0 _ rfl
      have c1 : wr.cell? ⟨b, o' + k * 10 + 1, none⟩ = _ := hc 1 _ rfl
      have c2 : wr.cell? ⟨b, o' + k * 10 + 2, none⟩ = _ := hc 2 _ rfl
      have c3 : wr.cell? ⟨b, o' + k * 10 + 3, none⟩ = _ := hc 3 _ rfl
      have c4 : wr.cell? ⟨b, o' + k * 10 + 4, none⟩ = _ := hc 4 _ rfl
      have c5 : wr.cell? ⟨b, o' + k * 10 + 5, none⟩ = _ := hc 5 _ rfl
      have c6 : wr.cell? ⟨b, o' + k * 10 + 6, none⟩ = _ := hc 6 _ rfl
      have c7 : wr.cell? ⟨b, o' + k * 10 + 7, none⟩ = _ := hc 7 _ rfl
      have c8 : wr.cell? ⟨b, o' + k * 10 + 8, none⟩ = _ := hc 8 _ rfl
      have c9 : wr.cell? ⟨b, o' + k * 10 + 9, none⟩ = _ := hc 9 _ rfl
      clear hc hrl'
      have Hfs := hid hfs
      have hF0 := hF.size
      clear hfs
      go_wp2_with fail
      refine (toMemo_any x fa fc R _ hxl (Hfs.out.flatKeep (by (repeat (first | with_reducible exact Mod.refl _ _ | with_reducible refine Mod.drewN ?_ _ | with_reducible refine Mod.drew ?_ | with_reducible refine Mod.alloc ?_ _ | ((with_reducible refine Mod.setNew ?_ ?_ _ _ _); (rotate_left; omega)) | with_reducible refine Mod.setAt ?_ _ _ _ ))))).mono ?_
      rintro e w1 ⟨g, rfl, hg, hb1, hm1⟩
      have hm1' : Mod (fun _ => False) wr w1 := by (repeat (first | with_reducible exact Mod.refl _ _ | with_reducible refine Mod.drewN ?_ _ | with_reducible refine Mod.drew ?_ | with_reducible refine Mod.alloc ?_ _ | ((with_reducible refine Mod.setNew ?_ ?_ _ _ _); (rotate_left; omega)) | with_reducible refine Mod.setAt ?_ _ _ _ | with_reducible exact hm1 | with_reducible refine Mod.thenNone ?_ hm1 ))
      have hgw : w.heap.size < g := by
        have h1 : wr.heap.size ≤ g := by simpa using hg
        omega
      have hF1 := hF.mod hm1' (fun f => f)
      obtain ⟨v0, d0⟩ := hF1.cell (off := k * 10) (by omega)
      have z0 := hF1.free (k * 10)
      obtain ⟨v1, d1⟩ := hF1.cell (off := k * 10 + 1) (by omega)
      have z1 := hF1.free (k * 10 + 1)
      obtain ⟨v2, d2⟩ := hF1.cell (off := k * 10 + 2) (by omega)
      have z2 := hF1.free (k * 10 + 2)
      obtain ⟨v3, d3⟩ := hF1.cell (off := k * 10 + 3) (by omega)
      have z3 := hF1.free (k * 10 + 3)
      obtain ⟨v4, d4⟩ := hF1.cell (off := k * 10 + 4) (by omega)
      have z4 := hF1.free (k * 10 + 4)
      obtain ⟨v5, d5⟩ := hF1.cell (off := k * 10 + 5) (by omega)
      have z5 := hF1.free (k * 10 + 5)
      obtain ⟨v6, d6⟩ := hF1.cell (off := k * 10 + 6) (by omega)
      have z6 := hF1.free (k * 10 + 6)
      obtain ⟨v7, d7⟩ := hF1.cell (off := k * 10 + 7) (by omega)
      have z7 := hF1.free (k * 10 + 7)
      obtain ⟨v8, d8⟩ := hF1.cell (off := k * 10 + 8) (by omega)
      have z8 := hF1.free (k * 10 + 8)
      obtain ⟨v9, d9⟩ := hF1.cell (off := k * 10 + 9) (by omega)
      have z9 := hF1.free (k * 10 + 9)
      have HF1 := hid hF1
      have Hb1 := hid hb1
      have Hm1 := hid hm1'
      have HM1 := hid (hM.thenNone hm1')
      clear hF hF1 hb1 hm1 hm1' hg
      go_wp2
      go_roundw
      case rel =>
        obtain ⟨hrl, hrs, hrep⟩ := HR.out
        have hne : g ≠ w.heap.size := by omega
        refine ⟨k + 1, rows ++ [memoRow x (some ⟨g, 0, none⟩) x.frames.length], by omega, by go_num, hid ⟨by simp [hrl], lens_succ hrs rfl, ?_⟩, ?_, ?_⟩
        · refine rows_succ hx hrl (rows_map hrep fun r x hq => hq.mod (S := fun k => k = w.heap.size) ?_ (fun k hk e => by omega)) ⟨_, _, rfl, SliceAt.wide (flat_of_blk (e := 132) (sz := 5) ?_ (fun _ => rfl)) (fun k _ hk => by omega), fun _ => wr_of_blk (xs := (x.frames.map Frame.cells).flatten) ?_ (flat_length (cells := Frame.cells) (sz := 5) (fun _ => rfl) _) hgw⟩
          · iterate 10 refine Mod.setAt ?_ _ _ _
            exact Hm1.out.mono (fun _ _ f => f.elim)
          · iterate 10 refine set_far ?_ hne
            exact Hb1.out
          · iterate 10 refine set_far ?_ hne
            exact Hb1.out
        · have hl0 := flatten_length hrs
          rw [hrl] at hl0
          have e : (rows ++ [memoRow x (some ⟨g, 0, none⟩) x.frames.length]).flatten = rows.flatten ++ [.int .i64 x.node] ++ [.int .i64 x.wide.mode] ++ [.int .i64 x.wide.n] ++ [.int .i64 x.high.mode] ++ [.int .i64 x.high.n] ++ [.bool x.rtl] ++ [.int .i64 x.bw] ++ [.int .i64 x.bh] ++ [.int .i64 x.bb] ++ [.slice (some ⟨g, 0, none⟩) x.frames.length x.frames.length] := by simp [memoRow]
          rw [e]
          have hF1 := HF1.out
          generalize rows.flatten = s at hF1 hl0
          exact ((((((((((hF1.push (off := k * 10) (by simp [hl0]) (by omega) _).push (off := k * 10 + 1) (by simp [hl0]) (by omega) _).push (off := k * 10 + 2) (by simp [hl0]) (by omega) _).push (off := k * 10 + 3) (by simp [hl0]) (by omega) _).push (off := k * 10 + 4) (by simp [hl0]) (by omega) _).push (off := k * 10 + 5) (by simp [hl0]) (by omega) _).push (off := k * 10 + 6) (by simp [hl0]) (by omega) _).push (off := k * 10 + 7) (by simp [hl0]) (by omega) _).push (off := k * 10 + 8) (by simp [hl0]) (by omega) _).push (off := k * 10 + 9) (by simp [hl0]) (by omega) _)
        · have hM1 := HM1.out
          (repeat (first | with_reducible exact Mod.refl _ _ | with_reducible refine Mod.drewN ?_ _ | with_reducible refine Mod.drew ?_ | with_reducible refine Mod.alloc ?_ _ | ((with_reducible refine Mod.setNew ?_ ?_ _ _ _); (rotate_left; omega)) | with_reducible refine Mod.setAt ?_ _ _ _ | with_reducible exact hM1 | with_reducible refine Mod.thenNone ?_ hM1 ))
      case measure => simp [intOf]; omega
    · have hk' : k = l.length := by omega
      subst hk'
      obtain ⟨hrl, hrs, hrep⟩ := HR.out
      go_wp2
      go_ret
      refine ⟨w.heap.size, rows, rfl, Nat.le_refl _, ?_, hrl, hrs, rows_map hrep fun r x hq => hq.wide fun _ _ hk => Nat.le_of_lt hk, hM⟩
      exact hF.full (by rw [flatten_length hrs, hrl])

set_option maxRecDepth 100000 in
set_option maxHeartbeats 4000000 in
theorem eqMemoS_same (l : List Memo) (o o' : Bool) (a a' : Option Addr) (c c' : Nat) (R S : Nat → Prop) (w : World) (hl : l.length ≤ 1048576) (hf : ∀ x ∈ l, x.frames.length ≤ 1048576) (h : MemoSlice o R w a l) (h' : MemoSlice o' S w a' l) :
    Calls Try.prog 106 #[.slice a l.length c, .slice a' l.length c'] w fun e w' => e = .returned (.bool true) ∧ Mod (fun _ => False) w w' := by
  have H := hid h
  have H' := hid h'
  have HF := hid hf
  clear h h' hf
  have hn0 : ((l.length : Int) != (l.length : Int)) = false := by simp
  go_enter Try.func106, Try.ntmps106
  go_wp2
  go_loopw [5] (fun i wr => ∃ k : Nat, k ≤ l.length ∧ i = .int .i64 k ∧ Mod (fun _ => False) w wr) (fun i _ => l.length - (intOf i).toNat)
  case atStart => exact ⟨0, by omega, rfl, Mod.refl _ _⟩
  case round =>
    obtain ⟨k, hk, rfl, hM⟩ := hrel
    by_cases hlt : k < l.length
    · obtain ⟨b, o1, x, r, rfl, hb, hbw, hx, ⟨fa, fc, rfl, hfs, _⟩, hrl, hc⟩ := (H.out.keep hM).get hlt
      obtain ⟨b', o2, y, r', rfl, hb', hbw', hy, ⟨fa', fc', rfl, hfs', _⟩, hrl', hd⟩ := (H'.out.keep hM).get hlt
      obtain rfl : x = y := Option.some.inj (hx.out.symm.trans hy.out)
      have hxl := HF.out x (List.mem_of_getElem? hx.out)
      have c0 : wr.cell? ⟨b, o1 + k * 10, none⟩ = _ := hc 0 _ rfl
      have d0 : wr.cell? ⟨b', o2 + k * 10, none⟩ = _ := hd 0 _ rfl
      have c1 : wr.cell? ⟨b, o1 + k * 10 + 1, none⟩ = _ := hc 1 _ rfl
      have d1 : wr.cell? ⟨b', o2 + k * 10 + 1, none⟩ = _ := hd 1 _ rfl
      have c2 : wr.cell? ⟨b, o1 + k * 10 + 2, none⟩ = _ := hc 2 _ rfl
      have d2 : wr.cell? ⟨b', o2 + k * 10 + 2, none⟩ = _ := hd 2 _ rfl
      have c3 : wr.cell? ⟨b, o1 + k * 10 + 3, none⟩ = _ := hc 3 _ rfl
      have d3 : wr.cell? ⟨b', o2 + k * 10 + 3, none⟩ = _ := hd 3 _ rfl
      have c4 : wr.cell? ⟨b, o1 + k * 10 + 4, none⟩ = _ := hc 4 _ rfl
      have d4 : wr.cell? ⟨b', o2 + k * 10 + 4, none⟩ = _ := hd 4 _ rfl
      have c5 : wr.cell? ⟨b, o1 + k * 10 + 5, none⟩ = _ := hc 5 _ rfl
      have d5 : wr.cell? ⟨b', o2 + k * 10 + 5, none⟩ = _ := hd 5 _ rfl
      have c6 : wr.cell? ⟨b, o1 + k * 10 + 6, none⟩ = _ := hc 6 _ rfl
      have d6 : wr.cell? ⟨b', o2 + k * 10 + 6, none⟩ = _ := hd 6 _ rfl
      have c7 : wr.cell? ⟨b, o1 + k * 10 + 7, none⟩ = _ := hc 7 _ rfl
      have d7 : wr.cell? ⟨b', o2 + k * 10 + 7, none⟩ = _ := hd 7 _ rfl
      have c8 : wr.cell? ⟨b, o1 + k * 10 + 8, none⟩ = _ := hc 8 _ rfl
      have d8 : wr.cell? ⟨b', o2 + k * 10 + 8, none⟩ = _ := hd 8 _ rfl
      have c9 : wr.cell? ⟨b, o1 + k * 10 + 9, none⟩ = _ := hc 9 _ rfl
      have d9 : wr.cell? ⟨b', o2 + k * 10 + 9, none⟩ = _ := hd 9 _ rfl
      clear hc hd hrl hrl'
      have Hfs := hid hfs
      have Hfs' := hid hfs'
      clear hfs hfs'
      go_wp2
      go_still_tail 8, (by kernel_rfl)
      go_wp2_with fail
      refine (eqMemo_any x fa fa' fc fc' R S _ hxl (Hfs.out.flatKeep (by (repeat (first | with_reducible exact Mod.refl _ _ | with_reducible refine Mod.drewN ?_ _ | with_reducible refine Mod.drew ?_ | with_reducible refine Mod.alloc ?_ _ | ((with_reducible refine Mod.setNew ?_ ?_ _ _ _); (rotate_left; omega)) | with_reducible refine Mod.setAt ?_ _ _ _ )))) (Hfs'.out.flatKeep (by (repeat (first | with_reducible exact Mod.refl _ _ | with_reducible refine Mod.drewN ?_ _ | with_reducible refine Mod.drew ?_ | with_reducible refine Mod.alloc ?_ _ | ((with_reducible refine Mod.setNew ?_ ?_ _ _ _); (rotate_left; omega)) | with_reducible refine Mod.setAt ?_ _ _ _ ))))).mono ?_
      rintro e w1 ⟨rfl, hm1⟩
      go_wp2
      go_roundw
      case rel => exact ⟨k + 1, by omega, by go_num, hM.drew.thenNone hm1⟩
      case measure => simp [intOf]; omega
    · go_wp2
      go_ret
      exact ⟨rfl, hM⟩

/-- What a memo counts besides itself. -/
def Memo.cost (x : Memo) : Nat := x.frames.length
end Go.Proofs.Ythffgbhphjkdeaa
namespace Go.Proofs.Ythffgbhphjkdeaa
open Go.RowKit

set_option maxRecDepth 100000 in
set_option maxHeartbeats 4000000 in
theorem szMemoS_any (l : List Memo) (o : Bool) (a : Option Addr) (c : Nat) (R : Nat → Prop) (left : Int) (w : World) (h0 : 0 ≤ left) (h1 : left ≤ 1048576) (hl : l.length ≤ 9223372036854775807) (hf : ∀ x ∈ l, x.frames.length ≤ 9223372036854775807) (h : MemoSlice o R w a l) :
    Calls Try.prog 98 #[.slice a l.length c, .int .i64 left] w fun e w' => e = .returned (.int .i64 (szRes left (l.length + costs Memo.cost l))) ∧ Mod (fun _ => False) w w' := by
  have H := hid h
  have HF := hid hf
  clear h hf
  by_cases hs : left < l.length
  · rw [szRes_less (by omega)]
    have h2 : left - l.length < 0 := by omega
    have h3 : -9223372036854775807 ≤ left - l.length := by omega
    go_enter Try.func98, Try.ntmps98
    go_wp2
    go_ret
    exact ⟨rfl, Mod.refl _ _⟩
  · have h2 : 0 ≤ left - l.length := by omega
    go_enter Try.func98, Try.ntmps98
    go_wp2
    go_loopw [1, 5] (fun z i wr => ∃ (k : Nat) (q : Int), k ≤ l.length ∧ z = .int .i64 q ∧ Hid (q = left - l.length - costs Memo.cost (l.take k)) ∧ 0 ≤ q ∧ q ≤ 1048576 ∧ i = .int .i64 k ∧ Mod (fun _ => False) w wr) (fun _ i _ => l.length - (intOf i).toNat)
    case atStart => exact ⟨0, _, by omega, rfl, hid (by simp [costs]), h2, by omega, rfl, Mod.refl _ _⟩
    case round =>
      obtain ⟨k, q, hk, rfl, hq, q1, q2, rfl, hM⟩ := hrel
      by_cases hlt : k < l.length
      · obtain ⟨b, o', x, r, rfl, hb, hbw, hx, ⟨fa, fc, rfl, _, _⟩, hrl', hc⟩ := (H.out.keep hM).get hlt
        have hxl := HF.out x (List.mem_of_getElem? hx.out)
        have c0 : wr.cell? ⟨b, o' + k * 10, none⟩ = _ := hc 0 _ rfl
        have c1 : wr.cell? ⟨b, o' + k * 10 + 1, none⟩ = _ := hc 1 _ rfl
        have c2 : wr.cell? ⟨b, o' + k * 10 + 2, none⟩ = _ := hc 2 _ rfl
        have c3 : wr.cell? ⟨b, o' + k * 10 + 3, none⟩ = _ := hc 3 _ rfl
        have c4 : wr.cell? ⟨b, o' + k * 10 + 4, none⟩ = _ := hc 4 _ rfl
        have c5 : wr.cell? ⟨b, o' + k * 10 + 5, none⟩ = _ := hc 5 _ rfl
        have c6 : wr.cell? ⟨b, o' + k * 10 + 6, none⟩ = _ := hc 6 _ rfl
        have c7 : wr.cell? ⟨b, o' + k * 10 + 7, none⟩ = _ := hc 7 _ rfl
        have c8 : wr.cell? ⟨b, o' + k * 10 + 8, none⟩ = _ := hc 8 _ rfl
        have c9 : wr.cell? ⟨b, o' + k * 10 + 9, none⟩ = _ := hc 9 _ rfl
        clear hc hrl'
        have hs1 := hid (costs_succ Memo.cost hx)
        have hs2 := hid (costs_take Memo.cost l (k + 1))
        go_wp2_with fail
        refine (szMemo_any x _ fc fa _ q1 q2 hxl _).mono ?_
        rintro e w1 ⟨rfl, hm1⟩
        by_cases hsx : q < x.frames.length
        · rw [if_pos hsx]
          have hlast := hid (show left < l.length + costs Memo.cost l by have := hs1.out; have := hs2.out; have := hq.out; unfold Memo.cost at *; omega)
          go_wp2
          go_ret
          exact ⟨ret_int (szRes_less (by have := hlast.out; omega)).symm, hM.thenNone (by (repeat (first | with_reducible exact Mod.refl _ _ | with_reducible refine Mod.drewN ?_ _ | with_reducible refine Mod.drew ?_ | with_reducible refine Mod.alloc ?_ _ | ((with_reducible refine Mod.setNew ?_ ?_ _ _ _); (rotate_left; omega)) | with_reducible refine Mod.setAt ?_ _ _ _ | with_reducible exact hm1 | with_reducible refine Mod.thenNone ?_ hm1 )))⟩
        · rw [if_neg hsx]
          have q3 : 0 ≤ q - x.frames.length := by omega
          have hq2 := hid (show q - x.frames.length = left - l.length - costs Memo.cost (l.take (k + 1)) by have := hs1.out; have := hq.out; unfold Memo.cost at *; omega)
          go_wp2
          go_roundw
          case rel => exact ⟨k + 1, _, by omega, rfl, hq2, q3, by omega, by go_num, hM.thenNone (by (repeat (first | with_reducible exact Mod.refl _ _ | with_reducible refine Mod.drewN ?_ _ | with_reducible refine Mod.drew ?_ | with_reducible refine Mod.alloc ?_ _ | ((with_reducible refine Mod.setNew ?_ ?_ _ _ _); (rotate_left; omega)) | with_reducible refine Mod.setAt ?_ _ _ _ | with_reducible exact hm1 | with_reducible refine Mod.thenNone ?_ hm1 )))⟩
          case measure => simp [intOf]; omega
      · have hk' : k = l.length := by omega
        subst hk'
        have hlast := hid (show ¬ left < l.length + costs Memo.cost l by have := hq.out; rw [List.take_length] at this; omega)
        go_wp2
        go_ret
        refine ⟨ret_int ?_, hM⟩
        have h5 := hq.out
        have h6 := hlast.out
        rw [List.take_length] at h5
        rw [szRes_more (by omega)]
        omega


/-- The frames of a slice of memos may be written. -/
def MemoSh (R : Nat → Prop) (g n : Nat) (w : World) : Prop := ∀ i, i < n → ∃ a m c, w.cell? ⟨g, i * 10 + 9, none⟩ = some (.slice a m c) ∧ m ≤ 1048576 ∧ Wr 132 5 R w a m
/-- A slice of memos that may be written, its frames too. -/
def MemoWr (R : Nat → Prop) (w : World) (a : Option Addr) (n : Nat) : Prop :=
  n = 0 ∨ ∃ g N, a = some ⟨g, 0, none⟩ ∧ R g ∧ n * 10 ≤ N ∧ Filled g 178 N w [] ∧ MemoSh R g n w
theorem MemoSh.set {R : Nat → Prop} {g n : Nat} {w : World} (h : MemoSh R g n w) (j : Nat) (v : Value) (hj : j % 10 ≠ 9) : MemoSh R g n (w.setCell ⟨g, j, none⟩ v) := fun i hi => by
  obtain ⟨a, m, c, h1, h2, h3⟩ := h i hi
  refine ⟨a, m, c, ?_, h2, h3.set g j none v⟩
  have hne : (⟨g, j, none⟩ : Addr) ≠ ⟨g, i * 10 + 9, none⟩ := by
    intro e
    simp only [Addr.mk.injEq, true_and, and_true] at e
    omega
  rw [World.cell?_setCell_other w _ _ _ hne]
  exact h1
theorem MemoSh.keep {P R : Nat → Prop} {g n N : Nat} {w w' : World} (h : MemoSh R g n w) (hf : Filled g 178 N w []) (hk : KeepB P w w') (hp : ¬ P 178) : MemoSh R g n w' := fun i hi => by
  obtain ⟨a, m, c, h1, h2, h3⟩ := h i hi
  exact ⟨a, m, c, (World.cell?_of_block (a := ⟨g, i * 10 + 9, none⟩) ((hk g _ N hf).2 hp)).trans h1, h2, h3.keep hk⟩
theorem MemoWr.keep {P R : Nat → Prop} {a : Option Addr} {n : Nat} {w w' : World} (h : MemoWr R w a n) (hk : KeepB P w w') (hp : ¬ P 178) : MemoWr R w' a n := by
  rcases h with h | ⟨g, N, h1, h2, h3, h4, h5⟩
  · exact .inl h
  · exact .inr ⟨g, N, h1, h2, h3, (hk g _ N h4).1, h5.keep h4 hk hp⟩
theorem MemoSlice.wr {R : Nat → Prop} {g N : Nat} {w : World} {l : List Memo} (h : MemoSlice true R w (some ⟨g, 0, none⟩) l) (hf : Filled g 178 N w []) (hN : l.length * 10 ≤ N) (hm : ∀ x ∈ l, x.frames.length ≤ 1048576) (hR : R g) : MemoWr R w (some ⟨g, 0, none⟩) l.length := by
  refine .inr ⟨g, N, rfl, hR, hN, hf, fun i hi => ?_⟩
  obtain ⟨b, o, x, r, e, hb, hbw, hx, ⟨a, c, rfl, h2, h3⟩, hl, hc⟩ := h.get hi
  simp only [Option.some.injEq, Addr.mk.injEq, and_true] at e
  obtain ⟨rfl, rfl⟩ := e
  have h9 := hc 9 _ rfl
  rw [Nat.zero_add] at h9
  exact ⟨_, _, _, h9, hm x (List.mem_of_getElem? hx.out), h3 rfl⟩

theorem markFrameS_wr (n c : Nat) (a : Option Addr) (R : Nat → Prop) (w : World) (q0 : Int) (hq0 : 0 ≤ q0) (hq1 : q0 ≤ 1000000000000000) (hn : n ≤ 1048576) (h : Wr 132 5 R w a n) :
    Calls Try.prog 65 #[.slice a n c, .int .i64 q0] w fun e w' => e = .returned (.int .i64 (q0 + n * 5)) ∧ Mod R w w' ∧ KeepB (fun t => t = 132) w w' :=
  mark_wr h fun g N hh => markFrameS_any n c a g N w q0 hq0 hq1 hn hh

set_option maxRecDepth 100000 in
set_option maxHeartbeats 4000000 in
theorem markMemoS_any (n c : Nat) (a : Option Addr) (R : Nat → Prop) (w : World) (q0 : Int) (hq0 : 1 ≤ q0) (hq1 : q0 ≤ 100000000000000) (hn : n ≤ 1048576) (h : MemoWr R w a n) :
    Calls Try.prog 109 #[.slice a n c, .int .i64 q0] w fun e w' => ∃ q : Int, e = .returned (.int .i64 q) ∧ q0 ≤ q ∧ q ≤ q0 + n * 6000000 ∧ Mod R w w' ∧ KeepB (fun t => t = 178 ∨ t = 132) w w' := by
  have H := hid h
  clear h
  go_enter Try.func109, Try.ntmps109
  go_wp2
  go_loopw [1, 5] (fun z i wr => ∃ (k : Nat) (q : Int), k ≤ n ∧ z = .int .i64 q ∧ q0 ≤ q ∧ q ≤ q0 + k * 6000000 ∧ i = .int .i64 k ∧ Mod R w wr ∧ KeepB (fun t => t = 178 ∨ t = 132) w wr ∧ MemoWr R wr a n) (fun _ i _ => n - (intOf i).toNat)
  case atStart => exact ⟨0, q0, by omega, rfl, by omega, by omega, rfl, Mod.refl _ _, KeepB.refl _ _, H.out⟩
  case round =>
    obtain ⟨k, q, hk, rfl, q1, q2, rfl, hM, hK, hW⟩ := hrel
    by_cases hlt : k < n
    · rcases hW with h | ⟨g, N, rfl, hR, hN, hF, hS⟩
      · omega
      obtain ⟨fa, m, fc, c9, hm, hw⟩ := hS k hlt
      obtain ⟨v0, d0⟩ := hF.cell (off := k * 10) (by omega)
      have z0 := hF.free (k * 10)
      obtain ⟨v1, d1⟩ := hF.cell (off := k * 10 + 1) (by omega)
      have z1 := hF.free (k * 10 + 1)
      obtain ⟨v2, d2⟩ := hF.cell (off := k * 10 + 2) (by omega)
      have z2 := hF.free (k * 10 + 2)
      obtain ⟨v3, d3⟩ := hF.cell (off := k * 10 + 3) (by omega)
      have z3 := hF.free (k * 10 + 3)
      obtain ⟨v4, d4⟩ := hF.cell (off := k * 10 + 4) (by omega)
      have z4 := hF.free (k * 10 + 4)
      obtain ⟨v5, d5⟩ := hF.cell (off := k * 10 + 5) (by omega)
      have z5 := hF.free (k * 10 + 5)
      obtain ⟨v6, d6⟩ := hF.cell (off := k * 10 + 6) (by omega)
      have z6 := hF.free (k * 10 + 6)
      obtain ⟨v7, d7⟩ := hF.cell (off := k * 10 + 7) (by omega)
      have z7 := hF.free (k * 10 + 7)
      obtain ⟨v8, d8⟩ := hF.cell (off := k * 10 + 8) (by omega)
      have z8 := hF.free (k * 10 + 8)
      have z9 := hF.free (k * 10 + 9)
      have hgs := hF.size
      have HK := hid hK
      have HM := hid hM
      clear hK hM
      have HF := hid hF
      have HS := hid hS
      have HW := hid hw
      clear hF hS hw
      go_wp2_with fail
      refine (markFrameS_wr m fc fa R _ _ (by omega) (by omega) hm ?_).mono ?_
      · iterate 9 refine Wr.set ?_ _ _ _ _
        exact HW.out
      rintro e w1 ⟨rfl, hm1, hk1⟩
      have HK1 := hid hk1
      have HM1 := hid hm1
      clear hk1 hm1
      go_wp2
      go_roundw
      case rel =>
        have hm1 := HM1.out
        have hk1 := HK1.out
        refine ⟨k + 1, q + 1 + 1 + 1 + 1 + 1 + 1 + 1 + 1 + 1 + m * 5, by omega, rfl, by omega, by omega, by go_num, ?_, ?_, ?_⟩
        · refine Mod.trans ?_ hm1
          iterate 9 refine Mod.setCell ?_ (fun _ => .inl hR) _
          exact HM.out
        · refine HK.out.trans (KeepB.trans (b := _) ?_ (hk1.mono fun e h => .inr h))
          iterate 9 refine KeepB.set ?_ HF.out (.inl rfl) _ _ _
          exact KeepB.refl _ _
        · refine MemoWr.keep (P := fun t => t = 132) (.inr ⟨g, N, rfl, hR, hN, ?_, ?_⟩) hk1 (by decide)
          · iterate 9 refine Filled.set ?_ _ _ _ _
            exact HF.out
          · iterate 9 refine MemoSh.set ?_ _ _ (by omega)
            exact HS.out
      case measure => simp [intOf]; omega
    · have hk' : k = n := by omega
      subst hk'
      go_wp2
      go_ret
      exact ⟨q, rfl, q1, q2, hM, hK⟩

end Go.Proofs.Ythffgbhphjkdeaa
namespace Go.Proofs.Ythffgbhphjkdeaa
open Go.RowKit

theorem toAsked_any (x : Asked) (w : World) : Calls Try.prog 134 #[.agg #[.int .i64 x.node, .int .i64 x.wide.mode, .int .i64 x.wide.n, .int .i64 x.high.mode, .int .i64 x.high.n, .bool x.rtl]] w fun e w' => e = .returned (.agg #[.int .i64 x.node, .int .i64 x.wide.mode, .int .i64 x.wide.n, .int .i64 x.high.mode, .int .i64 x.high.n, .bool x.rtl]) ∧ Mod (fun _ => False) w w' := by
  go_enter Try.func134, Try.ntmps134
  go_wp2_with fail
  refine (toSpace_any ⟨_, _⟩ _).mono ?_
  rintro e w1 ⟨rfl, hm1⟩
  obtain ⟨hq1, hz1⟩ := mcell hm1
  have hs1 := hm1.size
  simp only [World.size_alloc] at hs1
  have hr0 : w.heap.size < w1.heap.size := by omega
  have hr1 : w.heap.size + 1 < w1.heap.size := by omega
  have hr2 : w.heap.size + 1 + 1 < w1.heap.size := by omega
  go_wp2_with fail
  refine (toSpace_any ⟨_, _⟩ _).mono ?_
  rintro e w2 ⟨rfl, hm2⟩
  obtain ⟨hq2, hz2⟩ := mcell hm2
  go_wp2
  refine bodyPost_ret (v := .agg #[.int .i64 x.node, .int .i64 x.wide.mode, .int .i64 x.wide.n, .int .i64 x.high.mode, .int .i64 x.high.n, .bool x.rtl]) ?_ rfl ⟨rfl, ?_⟩
  · simp [results, Try.results134, go_sem, *]
  · (repeat (first | with_reducible exact Mod.refl _ _ | with_reducible refine Mod.drewN ?_ _ | with_reducible refine Mod.drew ?_ | with_reducible refine Mod.alloc ?_ _ | ((with_reducible refine Mod.setNew ?_ ?_ _ _ _); (rotate_left; omega)) | with_reducible refine Mod.setAt ?_ _ _ _ | with_reducible exact hm2 | with_reducible refine Mod.thenNone ?_ hm2 | with_reducible exact hm1 | with_reducible refine Mod.thenNone ?_ hm1 ))

set_option maxHeartbeats 1000000 in
theorem eqAsked_any (x y : Asked) (w : World) : Calls Try.prog 59 #[.agg #[.int .i64 x.node, .int .i64 x.wide.mode, .int .i64 x.wide.n, .int .i64 x.high.mode, .int .i64 x.high.n, .bool x.rtl], .agg #[.int .i64 y.node, .int .i64 y.wide.mode, .int .i64 y.wide.n, .int .i64 y.high.mode, .int .i64 y.high.n, .bool y.rtl]] w fun e w' => e = .returned (.bool (decide (x = y))) ∧ Mod (fun _ => False) w w' := by
  obtain ⟨x0, ⟨x1, x2⟩, ⟨x3, x4⟩, x5⟩ := x
  obtain ⟨y0, ⟨y1, y2⟩, ⟨y3, y4⟩, y5⟩ := y
  go_enter Try.func59, Try.ntmps59
  go_wp2
  all_goals
    go_ret
    refine ⟨ret_bool ?_, by (repeat (first | with_reducible exact Mod.refl _ _ | with_reducible refine Mod.drewN ?_ _ | with_reducible refine Mod.drew ?_ | with_reducible refine Mod.alloc ?_ _ | ((with_reducible refine Mod.setNew ?_ ?_ _ _ _); (rotate_left; omega)) | with_reducible refine Mod.setAt ?_ _ _ _ ))⟩
    simp_all

theorem info_Asked : (Try.prog.info? 101).map (fun i => (i.zero, i.size, i.bytes)) = some (some (.agg #[.int .i64 0, .int .i64 0, .int .i64 0, .int .i64 0, .int .i64 0, .bool false]), 6, 48) := by kernel_rfl

end Go.Proofs.Ythffgbhphjkdeaa
namespace Go.Proofs.Ythffgbhphjkdeaa
open Go.RowKit

theorem szAskedS_any (n c : Nat) (a : Option Addr) (left : Int) (h0 : 0 ≤ left) (h1 : left ≤ 1048576) (hn : n ≤ 9223372036854775807) (w : World) : Calls Try.prog 99 #[.slice a n c, .int .i64 left] w fun e w' => e = .returned (.int .i64 (if left < n then -1 else left - n)) ∧ w = w' := by
  by_cases h : left < n
  · rw [if_pos h]
    have h2 : left - n < 0 := by omega
    have h3 : -9223372036854775807 ≤ left - n := by omega
    go_enter Try.func99, Try.ntmps99
    go_wp2
    go_ret
    exact ⟨rfl, rfl⟩
  · rw [if_neg h]
    have h2 : 0 ≤ left - n := by omega
    go_enter Try.func99, Try.ntmps99
    go_wp2
    go_ret
    exact ⟨rfl, rfl⟩

set_option maxRecDepth 100000 in
set_option maxHeartbeats 1000000 in
theorem toAskedS_any (l : List Asked) (a : Option Addr) (c : Nat) (R : Nat → Prop) (w : World) (hl : l.length ≤ 1048576) (h : SliceAt (Flat Asked.cells) 6 R w a l) :
    Calls Try.prog 102 #[.slice a l.length c] w (NewRows 101 w l.length (l.map Asked.cells).flatten) := by
  have H := hid h
  clear h
  obtain ⟨i0, hi, hz0, hz1, hz2⟩ := info_parts info_Asked
  have hmk : ∀ W : World, (Instr.makeSlice 33 (.int .i64 (l.length : Int)) (.int .i64 (l.length : Int))).run Try.prog W = .ok (.slice (some ⟨W.heap.size, 0, none⟩) l.length l.length) (W.alloc (.cells (madeCells (Value.cells (.agg #[.int .i64 0, .int .i64 0, .int .i64 0, .int .i64 0, .int .i64 0, .bool false])) (l.length * 6)) 101)) := by
    intro W
    have := run_make (P := Try.prog) W 33 101 i0 _ Try.underlying33 hi hz0 .i64 .i64 l.length l.length (by omega) (by omega) (by rw [hz2]; omega) (by omega)
    simpa [hz1] using this
  clear hz0 hz1 hz2 hi
  go_enter Try.func102, Try.ntmps102
  go_wp2
  go_loopw [4] (fun i wr => ∃ k : Nat, k ≤ l.length ∧ i = .int .i64 k ∧ Filled w.heap.size 101 (l.length * 6) wr ((l.take k).map Asked.cells).flatten ∧ Mod (fun _ => False) w wr) (fun i _ => l.length - (intOf i).toNat)
  case atStart => exact ⟨0, by omega, rfl, Filled.made w _ _ _ (size_madeCells _ _), (Mod.refl _ w).alloc _⟩
  case round =>
    obtain ⟨k, hk, rfl, hF, hM⟩ := hrel
    clear hmk
    by_cases hlt : k < l.length
    · obtain ⟨b, o, x, r, rfl, hb, hbw, hx, hr, hrl, hc⟩ := (H.out.mod hM (fun _ _ f => f) (fun _ _ h => h)).get hlt
      obtain rfl : r = x.cells := hr
      have c0 : wr.cell? ⟨b, o + k * 6, none⟩ = _ := hc 0 _ rfl
      have c1 : wr.cell? ⟨b, o + k * 6 + 1, none⟩ = _ := hc 1 _ rfl
      have c2 : wr.cell? ⟨b, o + k * 6 + 2, none⟩ = _ := hc 2 _ rfl
      have c3 : wr.cell? ⟨b, o + k * 6 + 3, none⟩ = _ := hc 3 _ rfl
      have c4 : wr.cell? ⟨b, o + k * 6 + 4, none⟩ = _ := hc 4 _ rfl
      have c5 : wr.cell? ⟨b, o + k * 6 + 5, none⟩ = _ := hc 5 _ rfl
      clear hc hrl
      go_wp2_with fail
      refine (toAsked_any x _).mono ?_
      rintro e w1 ⟨rfl, hm1⟩
      have hF1 := hF.mod hm1 (fun f => f)
      obtain ⟨v0, d0⟩ := hF1.cell (off := k * 6) (by omega)
      obtain ⟨v1, d1⟩ := hF1.cell (off := k * 6 + 1) (by omega)
      obtain ⟨v2, d2⟩ := hF1.cell (off := k * 6 + 2) (by omega)
      obtain ⟨v3, d3⟩ := hF1.cell (off := k * 6 + 3) (by omega)
      obtain ⟨v4, d4⟩ := hF1.cell (off := k * 6 + 4) (by omega)
      obtain ⟨v5, d5⟩ := hF1.cell (off := k * 6 + 5) (by omega)
      have z0 := hF1.free (k * 6)
      have z1 := hF1.free (k * 6 + 1)
      have z2 := hF1.free (k * 6 + 2)
      have z3 := hF1.free (k * 6 + 3)
      have z4 := hF1.free (k * 6 + 4)
      have z5 := hF1.free (k * 6 + 5)
      go_wp2
      go_roundw
      case rel =>
        refine ⟨k + 1, by omega, by go_num, ?_, ?_⟩
        · have hl0 := flat_length (cells := Asked.cells) (sz := 6) (fun _ => rfl) (l.take k)
          rw [take_length_of_lt hk] at hl0
          rw [flat_succ hx]
          have e : ∀ s : List Value, s ++ x.cells = s ++ [.int .i64 x.node] ++ [.int .i64 x.wide.mode] ++ [.int .i64 x.wide.n] ++ [.int .i64 x.high.mode] ++ [.int .i64 x.high.n] ++ [.bool x.rtl] := by intro s; simp [Asked.cells]
          rw [e]
          generalize ((l.take k).map Asked.cells).flatten = s at hF1 hl0
          exact ((((((hF1.push (off := k * 6) (by simp [hl0]) (by omega) _).push (off := k * 6 + 1) (by simp [hl0]) (by omega) _).push (off := k * 6 + 2) (by simp [hl0]) (by omega) _).push (off := k * 6 + 3) (by simp [hl0]) (by omega) _).push (off := k * 6 + 4) (by simp [hl0]) (by omega) _).push (off := k * 6 + 5) (by simp [hl0]) (by omega) _)
        · have hM1 := hM.thenNone hm1
          (repeat (first | with_reducible exact Mod.refl _ _ | with_reducible refine Mod.drewN ?_ _ | with_reducible refine Mod.drew ?_ | with_reducible refine Mod.alloc ?_ _ | ((with_reducible refine Mod.setNew ?_ ?_ _ _ _); (rotate_left; omega)) | with_reducible refine Mod.setAt ?_ _ _ _ | with_reducible exact hM1 | with_reducible refine Mod.thenNone ?_ hM1 ))
      case measure => simp [intOf]; omega
    · have hk' : k = l.length := by omega
      subst hk'
      go_wp2
      go_ret
      refine ⟨w.heap.size, rfl, Nat.le_refl _, ?_, hM⟩
      rw [List.take_length] at hF
      exact hF.full (flat_length (cells := Asked.cells) (sz := 6) (fun _ => rfl) l)

set_option maxRecDepth 100000 in
set_option maxHeartbeats 1000000 in
theorem eqAskedS_any (l m : List Asked) (a a' : Option Addr) (c c' : Nat) (R S : Nat → Prop) (w : World) (hl : l.length ≤ 9223372036854775807) (_hm : m.length ≤ 9223372036854775807) (h : SliceAt (Flat Asked.cells) 6 R w a l) (h' : SliceAt (Flat Asked.cells) 6 S w a' m) :
    Calls Try.prog 12 #[.slice a l.length c, .slice a' m.length c'] w fun e w' => e = .returned (.bool (decide (l = m))) ∧ Mod (fun _ => False) w w' := by
  have H := hid h
  have H' := hid h'
  clear h h'
  by_cases hlen : l.length = m.length
  · have hn0 : ((l.length : Int) != (m.length : Int)) = false := by simp [hlen]
    have hn1 : l.length ≤ m.length := by omega
    have hn2 : m.length ≤ l.length := by omega
    clear hlen
    go_enter Try.func12, Try.ntmps12
    go_wp2
    go_loopw [5] (fun i wr => ∃ k : Nat, k ≤ l.length ∧ i = .int .i64 k ∧ SameTo l m k ∧ Mod (fun _ => False) w wr) (fun i _ => l.length - (intOf i).toNat)
    case atStart => exact ⟨0, by omega, rfl, rfl, Mod.refl _ _⟩
    case round =>
      obtain ⟨k, hk, rfl, hsame, hmod⟩ := hrel
      by_cases hlt : k < l.length
      · obtain ⟨b, o, x, r, rfl, hb, hbw, hx, hr, hrl, hc⟩ := (H.out.mod hmod (fun _ _ f => f) (fun _ _ h => h)).get hlt
        obtain rfl : r = x.cells := hr
        obtain ⟨b', o', y, r', rfl, hb', hbw', hy, hr', hrl', hd⟩ := (H'.out.mod hmod (fun _ _ f => f) (fun _ _ h => h)).get (show k < m.length by omega)
        obtain rfl : r' = y.cells := hr'
        have hlt2 : k < m.length := by omega
        have c0 : wr.cell? ⟨b, o + k * 6, none⟩ = _ := hc 0 _ rfl
        have d0 : wr.cell? ⟨b', o' + k * 6, none⟩ = _ := hd 0 _ rfl
        have c1 : wr.cell? ⟨b, o + k * 6 + 1, none⟩ = _ := hc 1 _ rfl
        have d1 : wr.cell? ⟨b', o' + k * 6 + 1, none⟩ = _ := hd 1 _ rfl
        have c2 : wr.cell? ⟨b, o + k * 6 + 2, none⟩ = _ := hc 2 _ rfl
        have d2 : wr.cell? ⟨b', o' + k * 6 + 2, none⟩ = _ := hd 2 _ rfl
        have c3 : wr.cell? ⟨b, o + k * 6 + 3, none⟩ = _ := hc 3 _ rfl
        have d3 : wr.cell? ⟨b', o' + k * 6 + 3, none⟩ = _ := hd 3 _ rfl
        have c4 : wr.cell? ⟨b, o + k * 6 + 4, none⟩ = _ := hc 4 _ rfl
        have d4 : wr.cell? ⟨b', o' + k * 6 + 4, none⟩ = _ := hd 4 _ rfl
        have c5 : wr.cell? ⟨b, o + k * 6 + 5, none⟩ = _ := hc 5 _ rfl
        have d5 : wr.cell? ⟨b', o' + k * 6 + 5, none⟩ = _ := hd 5 _ rfl
        clear hc hd hrl hrl'
        by_cases hxy : x = y
        · have hd : decide (x = y) = true := decide_eq_true hxy
          have Hxy := hid hxy
          clear hxy
          go_wp2
          go_still_tail 8, (by kernel_rfl)
          go_wp2_with fail
          refine (eqAsked_any x y _).mono ?_
          rintro e w1 ⟨rfl, hm1⟩
          go_wp2
          go_roundw
          case rel => exact ⟨k + 1, by omega, by go_num, hsame.succ hx (Hxy.out ▸ hy), hmod.drew.thenNone hm1⟩
          case measure => simp [intOf]; omega
        · have hd : decide (x = y) = false := decide_eq_false hxy
          go_wp2
          go_still_tail 8, (by kernel_rfl)
          go_wp2_with fail
          refine (eqAsked_any x y _).mono ?_
          rintro e w1 ⟨rfl, hm1⟩
          go_wp2
          go_ret
          exact ⟨ret_bool (decide_eq_false (ne_at hx hy hxy)).symm, hmod.drew.thenNone hm1⟩
      · go_wp2
        go_ret
        exact ⟨ret_bool (decide_eq_true (hsame.all (by omega) (by omega))).symm, hmod⟩
  · have hn0 : ((l.length : Int) != (m.length : Int)) = true := by simp; omega
    have hne : l ≠ m := fun h => hlen (by rw [h])
    clear hlen
    go_enter Try.func12, Try.ntmps12
    go_wp2
    go_ret
    exact ⟨ret_bool (decide_eq_false hne).symm, Mod.refl _ _⟩

/-- A marked element's cells, its first mark q. -/
def Asked.marked (q : Int) : List Value := [.int .i64 (q), .int .i64 (q + 1), .int .i64 (q + 1 + 1), .int .i64 (q + 1 + 1 + 1), .int .i64 (q + 1 + 1 + 1 + 1), .bool ((q + 1 + 1 + 1 + 1 + 1) % 3 == 0)]
def Asked.marks (q : Int) : Nat → List Value
  | 0 => []
  | k + 1 => Asked.marks q k ++ Asked.marked (q + k * 6)
theorem Asked.marks_length (q : Int) (k : Nat) : (Asked.marks q k).length = k * 6 := by
  induction k with
  | zero => simp [Asked.marks]
  | succ k ih => simp [Asked.marks, Asked.marked, ih]; omega

set_option maxRecDepth 100000 in
set_option maxHeartbeats 1000000 in
theorem markAskedS_any (n c : Nat) (a : Option Addr) (g N : Nat) (w : World) (q0 : Int) (hq0 : 0 ≤ q0) (hq1 : q0 ≤ 1000000000000000) (hn : n ≤ 1048576) (h : n = 0 ∨ a = some ⟨g, 0, none⟩ ∧ n * 6 ≤ N ∧ Filled g 101 N w []) :
    Calls Try.prog 15 #[.slice a n c, .int .i64 q0] w fun e w' => e = .returned (.int .i64 (q0 + n * 6)) ∧ Mod (fun k => k = g) w w' ∧ (n = 0 ∨ Filled g 101 N w' (Asked.marks q0 n)) := by
  have H := hid h
  clear h
  go_enter Try.func15, Try.ntmps15
  go_wp2
  go_loopw [1, 5] (fun z i wr => ∃ (k : Nat) (q : Int), k ≤ n ∧ z = .int .i64 q ∧ Hid (q = q0 + k * 6) ∧ 0 ≤ q ∧ q ≤ 10000000000000000 ∧ i = .int .i64 k ∧ Mod (fun k => k = g) w wr ∧ (n = 0 ∨ Filled g 101 N wr (Asked.marks q0 k))) (fun _ i _ => n - (intOf i).toNat)
  case atStart =>
    refine ⟨0, q0, by omega, rfl, by show q0 = q0 + _; omega, by omega, by omega, rfl, Mod.refl _ _, ?_⟩
    rcases H.out with h | ⟨_, _, h⟩
    · exact .inl h
    · exact .inr h
  case round =>
    obtain ⟨k, q, hk, rfl, hq, q1, q2, rfl, hM, hF0⟩ := hrel
    by_cases hlt : k < n
    · rcases H.out with h | ⟨rfl, hN, _⟩
      · omega
      have hF := hF0.resolve_left (by omega)
      have hl0 := Asked.marks_length q0 k
      clear hF0
      obtain ⟨v0, d0⟩ := hF.cell (off := k * 6) (by omega)
      have z0 := hF.free (k * 6)
      obtain ⟨v1, d1⟩ := hF.cell (off := k * 6 + 1) (by omega)
      have z1 := hF.free (k * 6 + 1)
      obtain ⟨v2, d2⟩ := hF.cell (off := k * 6 + 2) (by omega)
      have z2 := hF.free (k * 6 + 2)
      obtain ⟨v3, d3⟩ := hF.cell (off := k * 6 + 3) (by omega)
      have z3 := hF.free (k * 6 + 3)
      obtain ⟨v4, d4⟩ := hF.cell (off := k * 6 + 4) (by omega)
      have z4 := hF.free (k * 6 + 4)
      obtain ⟨v5, d5⟩ := hF.cell (off := k * 6 + 5) (by omega)
      have z5 := hF.free (k * 6 + 5)
      have HF := hid hF
      have Hl0 := hid hl0
      clear hF hl0
      go_wp2
      go_roundw
      case rel =>
        have hF := HF.out
        have hl0 := Hl0.out
        have hq' := hq.out
        refine ⟨k + 1, q + 1 + 1 + 1 + 1 + 1 + 1, by omega, rfl, by show q + 1 + 1 + 1 + 1 + 1 + 1 = _; omega, by omega, by omega, by go_num, by (repeat (first | with_reducible exact Mod.refl _ _ | with_reducible refine Mod.drewN ?_ _ | with_reducible refine Mod.drew ?_ | with_reducible refine Mod.alloc ?_ _ | ((with_reducible refine Mod.setNew ?_ ?_ _ _ _); (rotate_left; omega)) | with_reducible refine Mod.setAt ?_ _ _ _ | with_reducible exact hM | with_reducible refine Mod.thenNone ?_ hM )), .inr ?_⟩
        have e : Asked.marks q0 (k + 1) = Asked.marks q0 k ++ [.int .i64 (q)] ++ [.int .i64 (q + 1)] ++ [.int .i64 (q + 1 + 1)] ++ [.int .i64 (q + 1 + 1 + 1)] ++ [.int .i64 (q + 1 + 1 + 1 + 1)] ++ [.bool ((q + 1 + 1 + 1 + 1 + 1) % 3 == 0)] := by
          simp [Asked.marks, Asked.marked, ← hq']
        rw [e]
        exact ((((((hF.push (off := k * 6) (by simp [hl0]) (by omega) _).push (off := k * 6 + 1) (by simp [hl0]) (by omega) _).push (off := k * 6 + 2) (by simp [hl0]) (by omega) _).push (off := k * 6 + 3) (by simp [hl0]) (by omega) _).push (off := k * 6 + 4) (by simp [hl0]) (by omega) _).push (off := k * 6 + 5) (by simp [hl0]) (by omega) _)
      case measure => simp [intOf]; omega
    · have hk' : k = n := by omega
      subst hk'
      go_wp2
      go_ret
      exact ⟨ret_int hq.out, hM, hF0⟩

theorem Asked.marks_at (q0 : Int) (n k j : Nat) (v : Value) (hk : k < n) (hj : (Asked.marked (q0 + k * 6))[j]? = some v) : (Asked.marks q0 n)[k * 6 + j]? = some v := by
  have hjl : j < 6 := by
    have := (List.getElem?_eq_some_iff.1 hj).1
    simpa [Asked.marked] using this
  induction n with
  | zero => omega
  | succ n ih =>
    have hl := Asked.marks_length q0 n
    unfold Asked.marks
    by_cases e : k = n
    · subst e
      rw [List.getElem?_append_right (by omega), hl, Nat.add_sub_cancel_left]
      exact hj
    · rw [List.getElem?_append_left (by rw [hl]; omega)]
      exact ih (by omega)
theorem Asked.marks_cell {g e N n k : Nat} {w : World} {q0 q : Int} (hF : Filled g e N w (Asked.marks q0 n)) (hk : k < n) (hq : Hid (q = q0 + k * 6)) (j : Nat) (v : Value) (hj : (Asked.marked q)[j]? = some v) : w.cell? ⟨g, k * 6 + j, none⟩ = some v :=
  hF.read (Asked.marks_at q0 n k j v hk (by rw [← hq.out]; exact hj))

set_option maxRecDepth 100000 in
set_option maxHeartbeats 1000000 in
theorem heldAskedS_any (n c : Nat) (a : Option Addr) (g N : Nat) (w : World) (q0 : Int) (hq0 : 0 ≤ q0) (hq1 : q0 ≤ 1000000000000000) (hn : n ≤ 1048576) (h : n = 0 ∨ a = some ⟨g, 0, none⟩ ∧ n * 6 ≤ N ∧ Filled g 101 N w (Asked.marks q0 n)) :
    Calls Try.prog 16 #[.slice a n c, .int .i64 q0] w fun e w' => e = .returned (.int .i64 (q0 + n * 6)) ∧ Mod (fun _ => False) w w' := by
  have H := hid h
  clear h
  go_enter Try.func16, Try.ntmps16
  go_wp2
  go_loop [1, 5] (fun z i => ∃ (k : Nat) (q : Int), k ≤ n ∧ z = .int .i64 q ∧ Hid (q = q0 + k * 6) ∧ 0 ≤ q ∧ q ≤ 10000000000000000 ∧ i = .int .i64 k) (fun _ i => n - (intOf i).toNat)
  case atStart => exact ⟨0, q0, by omega, rfl, by show q0 = q0 + _; omega, by omega, by omega, rfl⟩
  case round =>
    obtain ⟨k, q, hk, rfl, hq, q1, q2, rfl⟩ := hrel
    by_cases hlt : k < n
    · rcases H.out with h | ⟨rfl, hN, hF⟩
      · omega
      have hc := Asked.marks_cell hF hlt hq
      have c0 := hc 0 _ rfl
      have c1 := hc 1 _ rfl
      have c2 := hc 2 _ rfl
      have c3 := hc 3 _ rfl
      have c4 := hc 4 _ rfl
      have c5 := hc 5 _ rfl
      simp only [Nat.add_zero] at c0
      clear hc hF
      go_wp2
      go_round
      case rel => exact ⟨k + 1, q + 1 + 1 + 1 + 1 + 1 + 1, by omega, rfl, by have := hq.out; show q + 1 + 1 + 1 + 1 + 1 + 1 = _; omega, by have := hq.out; omega, by have := hq.out; omega, by go_num⟩
      case measure => simp [intOf]; omega
    · have hk' : k = n := by omega
      subst hk'
      go_wp2
      go_ret
      exact ⟨ret_int hq.out, Mod.refl _ _⟩

end Go.Proofs.Ythffgbhphjkdeaa
namespace Go.Proofs.Ythffgbhphjkdeaa
open Go.RowKit

abbrev AskedSlice (R : Nat → Prop) (w : World) (a : Option Addr) (l : List Asked) : Prop := SliceAt (Flat Asked.cells) 6 R w a l
theorem MemoSlice.wide {o : Bool} {R S : Nat → Prop} {w : World} {a : Option Addr} {l : List Memo} (h : MemoSlice o R w a l) (hs : ∀ k, k < w.heap.size → R k → S k) : MemoSlice o S w a l := SliceAt.wideBy h hs fun _ _ hx => hx.wide hs
theorem MemoIn.old {o : Bool} {R : Nat → Prop} {w : World} {cs : List Value} {x : Memo} (h : MemoIn o R w cs x) : MemoIn false R w cs x := by
  obtain ⟨a, c, h1, h2, _⟩ := h
  exact ⟨a, c, h1, h2, fun h => by cases h⟩

structure KeptT where
  memos : List Memo
  asked : List Asked
  deriving DecidableEq, Inhabited
/-- What is kept, read from its cells; o: it may be written. -/
def KeptIn (o : Bool) (R : Nat → Prop) (w : World) (cs : List Value) (x : KeptT) : Prop :=
  ∃ m c a c', cs = [.slice m x.memos.length c, .slice a x.asked.length c'] ∧ MemoSlice o R w m x.memos ∧ AskedSlice R w a x.asked ∧ (o = true → Wr 178 10 R w m x.memos.length ∧ Wr 101 6 R w a x.asked.length ∧ x.asked.length ≤ c')
theorem KeptIn.mod {o : Bool} {R S : Nat → Prop} {w w' : World} {cs : List Value} {x : KeptT} (h : KeptIn o R w cs x) (hm : Mod S w w') (hs : ∀ k, R k → ¬ S k) : KeptIn o R w' cs x := by
  obtain ⟨m, c, a, c', h1, h2, h3, h4⟩ := h
  exact ⟨m, c, a, c', h1, h2.mod hm hs, h3.flatMod hm hs, fun ho => ⟨(h4 ho).1.mod hm hs, (h4 ho).2.1.mod hm hs, (h4 ho).2.2⟩⟩
theorem KeptIn.keep {o : Bool} {R : Nat → Prop} {w w' : World} {cs : List Value} {x : KeptT} (h : KeptIn o R w cs x) (hm : Mod (fun _ => False) w w') : KeptIn o R w' cs x := h.mod hm fun _ _ f => f
theorem KeptIn.wide {o : Bool} {R S : Nat → Prop} {w : World} {cs : List Value} {x : KeptT} (h : KeptIn o R w cs x) (hs : ∀ k, k < w.heap.size → R k → S k) : KeptIn o S w cs x := by
  obtain ⟨m, c, a, c', h1, h2, h3, h4⟩ := h
  exact ⟨m, c, a, c', h1, h2.wide hs, SliceAt.wide h3 hs, fun ho => ⟨(h4 ho).1.weaken hs, (h4 ho).2.1.weaken hs, (h4 ho).2.2⟩⟩
/-- Lengths that a walk can bear. -/
def KeptT.fits (n : Nat) (x : KeptT) : Prop := x.memos.length ≤ n ∧ x.asked.length ≤ n ∧ ∀ m ∈ x.memos, m.frames.length ≤ n
def KeptT.cost (x : KeptT) : Nat := x.memos.length + costs Memo.cost x.memos + x.asked.length
theorem KeptT.fits_of {x : KeptT} {n : Nat} (h : x.cost ≤ n) : x.fits n := by
  unfold KeptT.cost at h
  refine ⟨by omega, by omega, fun m hm => ?_⟩
  have := costs_mem Memo.cost hm
  unfold Memo.cost at *
  omega

set_option maxHeartbeats 2000000 in
theorem toKept_any (x : KeptT) (o : Bool) (cs : List Value) (R : Nat → Prop) (w : World) (hf : x.fits 1048576) (h : KeptIn o R w cs x) :
    Calls Try.prog 57 #[.agg cs.toArray] w fun e w' => ∃ cs', e = .returned (.agg cs'.toArray) ∧ KeptIn true (fun b => w.heap.size ≤ b) w' cs' x ∧ Mod (fun _ => False) w w' := by
  obtain ⟨m, c, a, c', rfl, h1, h2, _⟩ := h
  obtain ⟨f1, f2, f3⟩ := hf
  have H1 := hid h1
  have H2 := hid h2
  have F3 := hid f3
  clear h1 h2 f3
  go_enter Try.func57, Try.ntmps57
  go_wp2_with fail
  refine (toMemoS_any x.memos o _ _ R _ f1 F3.out (H1.out.keep (by (repeat (first | with_reducible exact Mod.refl _ _ | with_reducible refine Mod.drewN ?_ _ | with_reducible refine Mod.drew ?_ | with_reducible refine Mod.alloc ?_ _ | ((with_reducible refine Mod.setNew ?_ ?_ _ _ _); (rotate_left; omega)) | with_reducible refine Mod.setAt ?_ _ _ _ ))))).mono ?_
  intro e w1 hh
  obtain ⟨g1, rfl, hg1, s1, u1, hm1⟩ := hh.use
  obtain ⟨hq1, hz1⟩ := mcell hm1
  have hs1 := hm1.size
  repeat (rw [World.size_alloc] at hs1)
  have hr1_0 : w.heap.size < w1.heap.size := by omega
  have hr1_1 : w.heap.size + 1 < w1.heap.size := by omega
  have hr1_2 : w.heap.size + 1 + 1 < w1.heap.size := by omega
  have hM1 : Mod (fun _ => False) w w1 := by (repeat (first | with_reducible exact Mod.refl _ _ | with_reducible refine Mod.drewN ?_ _ | with_reducible refine Mod.drew ?_ | with_reducible refine Mod.alloc ?_ _ | ((with_reducible refine Mod.setNew ?_ ?_ _ _ _); (rotate_left; omega)) | with_reducible refine Mod.setAt ?_ _ _ _ | with_reducible exact hm1 | with_reducible refine Mod.thenNone ?_ hm1 ))
  simp only [World.size_alloc] at hg1
  have S1 := hid (MemoSlice.wide s1 (S := fun b => w.heap.size + 1 + 1 + 1 ≤ b) (fun k _ hk => by simpa using hk))
  have U1 := hid (u1.weaken (S := fun b => w.heap.size + 1 + 1 + 1 ≤ b) (fun k _ hk => by simpa using hk))
  have hsz : w.heap.size + 1 + 1 + 1 ≤ w1.heap.size := by have := hm1.size; simpa using this
  clear hh s1 u1
  go_wp2_with fail
  refine (toAskedS_any x.asked _ _ R _ f2 (H2.out.flatKeep (by (repeat (first | with_reducible exact Mod.refl _ _ | with_reducible refine Mod.drewN ?_ _ | with_reducible refine Mod.drew ?_ | with_reducible refine Mod.alloc ?_ _ | ((with_reducible refine Mod.setNew ?_ ?_ _ _ _); (rotate_left; omega)) | with_reducible refine Mod.setAt ?_ _ _ _ | with_reducible exact hM1 | with_reducible refine Mod.thenNone ?_ hM1 ))))).mono ?_
  intro e w2 hh
  obtain ⟨g2, rfl, hg2, s2, u2, hm2⟩ := hh.wr (sz := 6) (fun _ => rfl)
  obtain ⟨hq2, hz2⟩ := mcell hm2
  have hs2 := hm2.size
  repeat (rw [World.size_setCell] at hs2)
  have hr2_0 : w.heap.size < w2.heap.size := by omega
  have hr2_1 : w.heap.size + 1 < w2.heap.size := by omega
  have hr2_2 : w.heap.size + 1 + 1 < w2.heap.size := by omega
  have hM2 : Mod (fun _ => False) w w2 := by (repeat (first | with_reducible exact Mod.refl _ _ | with_reducible refine Mod.drewN ?_ _ | with_reducible refine Mod.drew ?_ | with_reducible refine Mod.alloc ?_ _ | ((with_reducible refine Mod.setNew ?_ ?_ _ _ _); (rotate_left; omega)) | with_reducible refine Mod.setAt ?_ _ _ _ | with_reducible exact hm2 | with_reducible refine Mod.thenNone ?_ hm2 | with_reducible exact hM1 | with_reducible refine Mod.thenNone ?_ hM1 ))
  have hms1 : Mod (fun k => k = w.heap.size + 1 + 1) w1 (w1.setCell ⟨w.heap.size + 1 + 1, 0, none⟩ (.slice (some ⟨g1, 0, none⟩) x.memos.length x.memos.length)) := (Mod.refl _ _).setAt _ _ _
  have hlow : ∀ k, w.heap.size + 1 + 1 + 1 ≤ k → ¬ k = w.heap.size + 1 + 1 := by omega
  have S1' := hid (MemoSlice.keep (MemoSlice.mod S1.out hms1 hlow) hm2)
  have U1' := hid ((U1.out.mod hms1 hlow).mod hm2 (fun _ _ f => f))
  have S2 := hid (SliceAt.wide s2 (S := fun b => w.heap.size + 1 + 1 + 1 ≤ b) (fun k _ hk => Nat.le_trans hsz (by simpa using hk)))
  have U2 := hid (u2.weaken (S := fun b => w.heap.size + 1 + 1 + 1 ≤ b) (fun k _ hk => Nat.le_trans hsz (by simpa using hk)))
  simp only [World.size_alloc, World.size_setCell] at hg2
  clear hh s2 u2 S1 U1 hms1 hm1 hm2
  go_wp2
  have hfin : ∀ W : World, Mod (fun k => k = w.heap.size + 1 + 1 ∨ k = w.heap.size + 1) w2 W → KeptIn true (fun b => w.heap.size ≤ b) W [.slice (some ⟨g1, 0, none⟩) x.memos.length x.memos.length, .slice (some ⟨g2, 0, none⟩) x.asked.length x.asked.length] x := by
    intro W hW
    have k1 : ∀ k, w.heap.size + 1 + 1 + 1 ≤ k → ¬ (k = w.heap.size + 1 + 1 ∨ k = w.heap.size + 1) := by omega
    exact KeptIn.wide ⟨_, _, _, _, rfl, MemoSlice.mod S1'.out hW k1, S2.out.flatMod hW k1, fun _ => ⟨U1'.out.mod hW k1, U2.out.mod hW k1, Nat.le_refl _⟩⟩ (fun k _ hk => by show w.heap.size ≤ k; omega)
  refine bodyPost_ret (v := .agg [.slice (some ⟨g1, 0, none⟩) x.memos.length x.memos.length, .slice (some ⟨g2, 0, none⟩) x.asked.length x.asked.length].toArray) ?_ rfl ⟨_, rfl, hfin _ ?_, ?_⟩
  · simp [results, Try.results57, go_sem, *]
  · refine Mod.setCell (Mod.setCell (Mod.setCell (Mod.refl _ _) (fun _ => .inl (.inl rfl)) _) (fun _ => .inl (.inr rfl)) _) (fun _ => .inl (.inr rfl)) _
  · (repeat (first | with_reducible exact Mod.refl _ _ | with_reducible refine Mod.drewN ?_ _ | with_reducible refine Mod.drew ?_ | with_reducible refine Mod.alloc ?_ _ | ((with_reducible refine Mod.setNew ?_ ?_ _ _ _); (rotate_left; omega)) | with_reducible refine Mod.setAt ?_ _ _ _ | with_reducible exact hM2 | with_reducible refine Mod.thenNone ?_ hM2 ))

set_option maxHeartbeats 2000000 in
theorem eqKept_same (x : KeptT) (o o' : Bool) (cs cs' : List Value) (R S : Nat → Prop) (w : World) (hf : x.fits 1048576) (h : KeptIn o R w cs x) (h' : KeptIn o' S w cs' x) :
    Calls Try.prog 61 #[.agg cs.toArray, .agg cs'.toArray] w fun e w' => e = .returned (.bool true) ∧ Mod (fun _ => False) w w' := by
  obtain ⟨m, c, a, c', rfl, h1, h2, _⟩ := h
  obtain ⟨m', d, a', d', rfl, h1', h2', _⟩ := h'
  obtain ⟨f1, f2, f3⟩ := hf
  have H1 := hid h1
  have H2 := hid h2
  have H1' := hid h1'
  have H2' := hid h2'
  have F3 := hid f3
  clear h1 h2 h1' h2' f3
  go_enter Try.func61, Try.ntmps61
  go_wp2_with fail
  refine (eqMemoS_same x.memos o o' _ _ _ _ R S _ f1 F3.out (H1.out.keep (by (repeat (first | with_reducible exact Mod.refl _ _ | with_reducible refine Mod.drewN ?_ _ | with_reducible refine Mod.drew ?_ | with_reducible refine Mod.alloc ?_ _ | ((with_reducible refine Mod.setNew ?_ ?_ _ _ _); (rotate_left; omega)) | with_reducible refine Mod.setAt ?_ _ _ _ )))) (H1'.out.keep (by (repeat (first | with_reducible exact Mod.refl _ _ | with_reducible refine Mod.drewN ?_ _ | with_reducible refine Mod.drew ?_ | with_reducible refine Mod.alloc ?_ _ | ((with_reducible refine Mod.setNew ?_ ?_ _ _ _); (rotate_left; omega)) | with_reducible refine Mod.setAt ?_ _ _ _ ))))).mono ?_
  rintro e w1 ⟨rfl, hm1⟩
  obtain ⟨hq1, hz1⟩ := mcell hm1
  have hs1 := hm1.size
  repeat (rw [World.size_alloc] at hs1)
  have hr1_0 : w.heap.size < w1.heap.size := by omega
  have hr1_1 : w.heap.size + 1 < w1.heap.size := by omega
  have hM1 : Mod (fun _ => False) w w1 := by (repeat (first | with_reducible exact Mod.refl _ _ | with_reducible refine Mod.drewN ?_ _ | with_reducible refine Mod.drew ?_ | with_reducible refine Mod.alloc ?_ _ | ((with_reducible refine Mod.setNew ?_ ?_ _ _ _); (rotate_left; omega)) | with_reducible refine Mod.setAt ?_ _ _ _ | with_reducible exact hm1 | with_reducible refine Mod.thenNone ?_ hm1 ))
  go_wp2_with fail
  refine (eqAskedS_any x.asked x.asked _ _ _ _ R S _ (by omega) (by omega) (H2.out.flatKeep hM1) (H2'.out.flatKeep hM1)).mono ?_
  rintro e w2 ⟨rfl, hm2⟩
  rw [decide_eq_true rfl]
  go_wp2
  go_ret
  exact ⟨rfl, by (repeat (first | with_reducible exact Mod.refl _ _ | with_reducible refine Mod.drewN ?_ _ | with_reducible refine Mod.drew ?_ | with_reducible refine Mod.alloc ?_ _ | ((with_reducible refine Mod.setNew ?_ ?_ _ _ _); (rotate_left; omega)) | with_reducible refine Mod.setAt ?_ _ _ _ | with_reducible exact hm2 | with_reducible refine Mod.thenNone ?_ hm2 | with_reducible exact hM1 | with_reducible refine Mod.thenNone ?_ hM1 ))⟩

set_option maxHeartbeats 2000000 in
theorem szKept_any (x : KeptT) (o : Bool) (cs : List Value) (R : Nat → Prop) (left : Int) (w : World) (h0 : 0 ≤ left) (h1 : left ≤ 1048576) (hf : x.fits 9223372036854775807) (h : KeptIn o R w cs x) :
    Calls Try.prog 54 #[.agg cs.toArray, .int .i64 left] w fun e w' => e = .returned (.int .i64 (szRes left x.cost)) ∧ Mod (fun _ => False) w w' := by
  obtain ⟨m, c, a, c', rfl, hs, _, _⟩ := h
  obtain ⟨f1, f2, f3⟩ := hf
  have H := hid hs
  have F3 := hid f3
  clear hs f3
  go_enter Try.func54, Try.ntmps54
  go_wp2_with fail
  refine (szMemoS_any x.memos o _ _ R left _ h0 h1 f1 F3.out (H.out.keep (by (repeat (first | with_reducible exact Mod.refl _ _ | with_reducible refine Mod.drewN ?_ _ | with_reducible refine Mod.drew ?_ | with_reducible refine Mod.alloc ?_ _ | ((with_reducible refine Mod.setNew ?_ ?_ _ _ _); (rotate_left; omega)) | with_reducible refine Mod.setAt ?_ _ _ _ ))))).mono ?_
  rintro e w1 ⟨rfl, hm1⟩
  obtain ⟨hq1, hz1⟩ := mcell hm1
  have hs1 := hm1.size
  repeat (rw [World.size_alloc] at hs1)
  have hr1_0 : w.heap.size < w1.heap.size := by omega
  have hM1 : Mod (fun _ => False) w w1 := by (repeat (first | with_reducible exact Mod.refl _ _ | with_reducible refine Mod.drewN ?_ _ | with_reducible refine Mod.drew ?_ | with_reducible refine Mod.alloc ?_ _ | ((with_reducible refine Mod.setNew ?_ ?_ _ _ _); (rotate_left; omega)) | with_reducible refine Mod.setAt ?_ _ _ _ | with_reducible exact hm1 | with_reducible refine Mod.thenNone ?_ hm1 ))
  by_cases hs : left < (x.memos.length + costs Memo.cost x.memos : Nat)
  · rw [szRes_less hs]
    have hc := hid (szRes_less (left := left) (n := x.cost) (by unfold KeptT.cost; omega))
    go_wp2
    go_ret
    exact ⟨ret_int hc.out.symm, hM1⟩
  · rw [szRes_more (by omega)]
    have h2 : 0 ≤ left - (x.memos.length + costs Memo.cost x.memos : Nat) := by omega
    have h3 : left - (x.memos.length + costs Memo.cost x.memos : Nat) ≤ 1048576 := by omega
    have hc := hid (show ∀ q : Int, q = left - (x.memos.length + costs Memo.cost x.memos : Nat) → szRes left x.cost = szRes q x.asked.length from by
      intro q hq
      unfold szRes KeptT.cost
      split <;> split <;> omega)
    generalize hq : left - (x.memos.length + costs Memo.cost x.memos : Nat) = q at h2 h3
    have hc2 := hid (hc.out q hq.symm)
    clear hc hq hs
    go_wp2_with fail
    refine (szAskedS_any _ _ _ _ h2 h3 f2 _).mono ?_
    rintro e w2 ⟨rfl, rfl⟩
    by_cases hs2 : q < x.asked.length
    · rw [if_pos hs2]
      have hc3 := hid (hc2.out.trans (szRes_less hs2))
      go_wp2
      go_ret
      exact ⟨ret_int hc3.out.symm, hM1⟩
    · rw [if_neg hs2]
      have hc3 := hid (hc2.out.trans (szRes_more (by omega)))
      have h4 : 0 ≤ q - x.asked.length := by omega
      go_wp2
      go_ret
      exact ⟨ret_int hc3.out.symm, hM1⟩

set_option maxRecDepth 100000 in
theorem rd_Asked {w : World} {cs : List Value} (h : Rd Try.prog w 182 cs) : ∃ x : Asked, cs = x.cells := by
  obtain ⟨hl, hf⟩ := h.struct Try.underlying182
  have hl2 : cs.length = 6 := hl.trans (by kernel_rfl)
  have c1 : Try.prog.cellsOf 3 = 1 := by kernel_rfl
  have c2 : Try.prog.cellsOf 4 = 1 := by kernel_rfl
  have c3 : Try.prog.cellsOf 169 = 2 := by kernel_rfl
  match cs, hl2 with
  | [q0, q1, q2, q3, q4, q5], _ =>
    obtain ⟨n0, e0, _⟩ := (hf 0 _ rfl).int Try.underlying3
    obtain ⟨x1, e1⟩ := rd_Space (hf 1 _ rfl)
    obtain ⟨x2, e2⟩ := rd_Space (hf 2 _ rfl)
    obtain ⟨b3, e3⟩ := (hf 3 _ rfl).bool Try.underlying4
    simp [c1, c2, c3, Space.cells] at e0 e1 e2 e3
    exact ⟨⟨n0, x1, x2, b3⟩, by simp [Asked.cells, e0, e1, e2, e3]⟩
set_option maxRecDepth 100000 in
theorem rd_Kept {w : World} {cs : List Value} (h : Rd Try.prog w 28 cs) : ∃ x : KeptT, KeptIn false (fun k => k < w.heap.size) w cs x ∧ x.fits 9223372036854775807 ∧ ∀ m ∈ x.memos, m.ok := by
  obtain ⟨hl, hf⟩ := h.struct Try.underlying28
  have hl2 : cs.length = 2 := hl.trans (by kernel_rfl)
  have c1 : Try.prog.cellsOf 25 = 1 := by kernel_rfl
  have c2 : Try.prog.cellsOf 26 = 1 := by kernel_rfl
  match cs, hl2 with
  | [q0, q1], _ =>
    obtain ⟨a, l, c, e0, h1, h2, h3⟩ := (hf 0 _ rfl).list (rep := fun w' r x => MemoIn false (fun k => k < w.heap.size) w' r x ∧ (x.frames.length ≤ 9223372036854775807 ∧ x.ok)) (sz := 10) Try.underlying25 (by kernel_rfl) (by decide) (fun cs h => by
      obtain ⟨x, a, c, e, ho, hn, hs⟩ := rd_Memo h
      exact ⟨x, ⟨a, c, e, hs, fun h => by cases h⟩, hn, ho⟩)
    obtain ⟨h4, h5⟩ := h3.split2
    obtain ⟨a', l', c', e1, h1', h2', h3'⟩ := (hf 1 _ rfl).list (rep := Flat Asked.cells) (sz := 6) Try.underlying26 (by kernel_rfl) (by decide) (fun cs h => rd_Asked h)
    simp [c1, c2] at e0 e1
    unfold maxLen at h2 h2'
    exact ⟨⟨l, l'⟩, ⟨a, c, a', c', by simp [e0, e1], h4, h3', fun h => by cases h⟩, ⟨by show l.length ≤ _; omega, by show l'.length ≤ _; omega, fun m hm => (h5 m hm).1⟩, fun m hm => (h5 m hm).2⟩

end Go.Proofs.Ythffgbhphjkdeaa
namespace Go.Proofs.Ythffgbhphjkdeaa
open Go.RowKit

structure Engine where
  tree : List Node
  kept : KeptT
  frames : List Frame
  root : Int
  wide : Int
  high : Int
  rtl : Bool
  deriving DecidableEq, Inhabited
/-- An engine, read from its cells; o: it may be written. -/
def EngineIn (o : Bool) (R : Nat → Prop) (w : World) (cs : List Value) (x : Engine) : Prop :=
  ∃ t k0 k1 f c, cs = [t, k0, k1, .slice f x.frames.length c, .int .i64 x.root, .int .i64 x.wide, .int .i64 x.high, .bool x.rtl] ∧ TreeIn o R w [t] x.tree ∧ KeptIn o R w [k0, k1] x.kept ∧ SliceAt (Flat Frame.cells) 5 R w f x.frames ∧ (o = true → Wr 132 5 R w f x.frames.length)
theorem EngineIn.mod {o : Bool} {R S : Nat → Prop} {w w' : World} {cs : List Value} {x : Engine} (h : EngineIn o R w cs x) (hm : Mod S w w') (hs : ∀ k, R k → ¬ S k) : EngineIn o R w' cs x := by
  obtain ⟨t, k0, k1, f, c, h1, h2, h3, h4, h5⟩ := h
  exact ⟨t, k0, k1, f, c, h1, h2.mod hm hs, h3.mod hm hs, h4.flatMod hm hs, fun ho => (h5 ho).mod hm hs⟩
theorem EngineIn.keep {o : Bool} {R : Nat → Prop} {w w' : World} {cs : List Value} {x : Engine} (h : EngineIn o R w cs x) (hm : Mod (fun _ => False) w w') : EngineIn o R w' cs x := h.mod hm fun _ _ f => f
theorem EngineIn.wide {o : Bool} {R S : Nat → Prop} {w : World} {cs : List Value} {x : Engine} (h : EngineIn o R w cs x) (hs : ∀ k, k < w.heap.size → R k → S k) : EngineIn o S w cs x := by
  obtain ⟨t, k0, k1, f, c, h1, h2, h3, h4, h5⟩ := h
  exact ⟨t, k0, k1, f, c, h1, h2.wide hs, h3.wide hs, SliceAt.wide h4 hs, fun ho => (h5 ho).weaken hs⟩
/-- Lengths that a walk can bear. -/
def Engine.fits (n : Nat) (x : Engine) : Prop := treeFits n x.tree ∧ x.kept.fits n ∧ x.frames.length ≤ n
def Engine.cost (x : Engine) : Nat := treeCost x.tree + x.kept.cost + x.frames.length
theorem Engine.fits_of {x : Engine} {n : Nat} (h : x.cost ≤ n) : x.fits n := by
  unfold Engine.cost at h
  exact ⟨treeFits_of (by omega), KeptT.fits_of (by omega), by omega⟩
theorem TreeIn.one {o : Bool} {R : Nat → Prop} {w : World} {cs : List Value} {l : List Node} (h : TreeIn o R w cs l) : ∃ t, cs = [t] ∧ t.oneCell' = true := by
  obtain ⟨a, c, rfl, _⟩ := h
  exact ⟨_, rfl, rfl⟩
theorem KeptIn.two {o : Bool} {R : Nat → Prop} {w : World} {cs : List Value} {x : KeptT} (h : KeptIn o R w cs x) : ∃ p q, cs = [p, q] ∧ p.oneCell' = true ∧ q.oneCell' = true := by
  obtain ⟨m, c, a, c', rfl, _⟩ := h
  exact ⟨_, _, rfl, rfl, rfl⟩

set_option maxRecDepth 100000 in
set_option maxHeartbeats 4000000 in
theorem toEngine_any (x : Engine) (o : Bool) (cs : List Value) (R : Nat → Prop) (w : World) (hf : x.fits 1048576) (h : EngineIn o R w cs x) :
    Calls Try.prog 10 #[.agg cs.toArray] w fun e w' => ∃ cs', e = .returned (.agg cs'.toArray) ∧ EngineIn true (fun b => w.heap.size ≤ b) w' cs' x ∧ Mod (fun _ => False) w w' := by
  obtain ⟨t, k0, k1, f, c, rfl, h1, h2, h3, _⟩ := h
  obtain ⟨f1, f2, f3⟩ := hf
  obtain ⟨ta, tc, et, ht⟩ := h1
  obtain ⟨ka, kc, kb, kc', ek, hk⟩ := h2
  simp only [List.cons.injEq, and_true] at et ek
  obtain rfl := et
  obtain ⟨rfl, rfl⟩ := ek
  have H1 := hid (show TreeIn o R w [.slice ta x.tree.length tc] x.tree from ⟨ta, tc, rfl, ht⟩)
  have H2 := hid (show KeptIn o R w [.slice ka x.kept.memos.length kc, .slice kb x.kept.asked.length kc'] x.kept from ⟨ka, kc, kb, kc', rfl, hk⟩)
  have H3 := hid h3
  have F1 := hid f1
  have F2 := hid f2
  clear ht hk h3 f1 f2
  go_enter Try.func10, Try.ntmps10
  go_wp2_with fail
  refine (toTree_any x.tree o [.slice ta x.tree.length tc] R _ F1.out (H1.out.keep (by (repeat (first | with_reducible exact Mod.refl _ _ | with_reducible refine Mod.drewN ?_ _ | with_reducible refine Mod.drew ?_ | with_reducible refine Mod.alloc ?_ _ | ((with_reducible refine Mod.setNew ?_ ?_ _ _ _); (rotate_left; omega)) | with_reducible refine Mod.setAt ?_ _ _ _ ))))).mono ?_
  rintro e w1 ⟨cs1, rfl, ⟨g1, c1, rfl, s1⟩, hm1⟩
  obtain ⟨hq1, hz1⟩ := mcell hm1
  have hs1 := hm1.size
  repeat (rw [World.size_alloc] at hs1)
  have hr1_0 : w.heap.size < w1.heap.size := by omega
  have hr1_1 : w.heap.size + 1 < w1.heap.size := by omega
  have hr1_2 : w.heap.size + 1 + 1 < w1.heap.size := by omega
  have hM1 : Mod (fun _ => False) w w1 := by (repeat (first | with_reducible exact Mod.refl _ _ | with_reducible refine Mod.drewN ?_ _ | with_reducible refine Mod.drew ?_ | with_reducible refine Mod.alloc ?_ _ | ((with_reducible refine Mod.setNew ?_ ?_ _ _ _); (rotate_left; omega)) | with_reducible refine Mod.setAt ?_ _ _ _ | with_reducible exact hm1 | with_reducible refine Mod.thenNone ?_ hm1 ))
  have hB1 : w.heap.size + 1 + 1 + 1 ≤ w1.heap.size := by have := hm1.size; simpa using this
  have S1 := hid (TreeIn.wide (show TreeIn true _ w1 _ x.tree from ⟨g1, c1, rfl, s1⟩) (S := fun b => w.heap.size + 1 + 1 + 1 ≤ b) (fun k _ hk => by simpa using hk))
  clear s1 hm1
  go_wp2_with fail
  refine (toKept_any x.kept o [.slice ka x.kept.memos.length kc, .slice kb x.kept.asked.length kc'] R _ F2.out (H2.out.keep (by (repeat (first | with_reducible exact Mod.refl _ _ | with_reducible refine Mod.drewN ?_ _ | with_reducible refine Mod.drew ?_ | with_reducible refine Mod.alloc ?_ _ | ((with_reducible refine Mod.setNew ?_ ?_ _ _ _); (rotate_left; omega)) | with_reducible refine Mod.setAt ?_ _ _ _ | with_reducible exact hM1 | with_reducible refine Mod.thenNone ?_ hM1 ))))).mono ?_
  rintro e w2 ⟨cs2, rfl, ⟨g2, c2, g2', c2', rfl, s2⟩, hm2⟩
  obtain ⟨hq2, hz2⟩ := mcell hm2
  have hs2 := hm2.size
  repeat (rw [World.size_setCell] at hs2)
  have hr2_0 : w.heap.size < w2.heap.size := by omega
  have hr2_1 : w.heap.size + 1 < w2.heap.size := by omega
  have hr2_2 : w.heap.size + 1 + 1 < w2.heap.size := by omega
  have hM2 : Mod (fun _ => False) w w2 := by (repeat (first | with_reducible exact Mod.refl _ _ | with_reducible refine Mod.drewN ?_ _ | with_reducible refine Mod.drew ?_ | with_reducible refine Mod.alloc ?_ _ | ((with_reducible refine Mod.setNew ?_ ?_ _ _ _); (rotate_left; omega)) | with_reducible refine Mod.setAt ?_ _ _ _ | with_reducible exact hm2 | with_reducible refine Mod.thenNone ?_ hm2 | with_reducible exact hM1 | with_reducible refine Mod.thenNone ?_ hM1 ))
  have hB2 : w.heap.size + 1 + 1 + 1 ≤ w2.heap.size := by have := hm2.size; simp only [World.size_setCell] at this; omega
  have hms1 : Mod (fun k => k = w.heap.size + 1 + 1) w1 (w1.setCell ⟨w.heap.size + 1 + 1, 0, none⟩ (.slice g1 x.tree.length c1)) := (Mod.refl _ _).setAt _ _ _
  have hlow : ∀ k, w.heap.size + 1 + 1 + 1 ≤ k → ¬ k = w.heap.size + 1 + 1 := by omega
  have S1' := hid ((S1.out.mod hms1 hlow).keep hm2)
  have S2 := hid (KeptIn.wide (show KeptIn true _ w2 _ x.kept from ⟨g2, c2, g2', c2', rfl, s2⟩) (S := fun b => w.heap.size + 1 + 1 + 1 ≤ b) (fun k _ hk => Nat.le_trans hB1 (by simpa using hk)))
  clear s2 hm2 hms1 S1
  go_wp2_with fail
  refine (toFrameS_any x.frames _ _ R _ f3 (H3.out.flatKeep (by (repeat (first | with_reducible exact Mod.refl _ _ | with_reducible refine Mod.drewN ?_ _ | with_reducible refine Mod.drew ?_ | with_reducible refine Mod.alloc ?_ _ | ((with_reducible refine Mod.setNew ?_ ?_ _ _ _); (rotate_left; omega)) | with_reducible refine Mod.setAt ?_ _ _ _ | with_reducible exact hM2 | with_reducible refine Mod.thenNone ?_ hM2 ))))).mono ?_
  intro e w3 hh
  obtain ⟨g3, rfl, hg3, s3, u3, hm3⟩ := hh.wr (sz := 5) (fun _ => rfl)
  obtain ⟨hq3, hz3⟩ := mcell hm3
  have hs3 := hm3.size
  repeat (rw [World.size_setCell] at hs3)
  have hr3_0 : w.heap.size < w3.heap.size := by omega
  have hr3_1 : w.heap.size + 1 < w3.heap.size := by omega
  have hr3_2 : w.heap.size + 1 + 1 < w3.heap.size := by omega
  have hM3 : Mod (fun _ => False) w w3 := by (repeat (first | with_reducible exact Mod.refl _ _ | with_reducible refine Mod.drewN ?_ _ | with_reducible refine Mod.drew ?_ | with_reducible refine Mod.alloc ?_ _ | ((with_reducible refine Mod.setNew ?_ ?_ _ _ _); (rotate_left; omega)) | with_reducible refine Mod.setAt ?_ _ _ _ | with_reducible exact hm3 | with_reducible refine Mod.thenNone ?_ hm3 | with_reducible exact hM2 | with_reducible refine Mod.thenNone ?_ hM2 ))
  have hms2 : Mod (fun k => k = w.heap.size + 1 + 1) w2 ((w2.setCell ⟨w.heap.size + 1 + 1, 1, none⟩ (.slice g2 x.kept.memos.length c2)).setCell ⟨w.heap.size + 1 + 1, 2, none⟩ (.slice g2' x.kept.asked.length c2')) := ((Mod.refl _ _).setAt _ _ _).setAt _ _ _
  have S1'' := hid ((S1'.out.mod hms2 hlow).keep hm3)
  have S2' := hid ((S2.out.mod hms2 hlow).keep hm3)
  have S3 := hid (SliceAt.wide s3 (S := fun b => w.heap.size + 1 + 1 + 1 ≤ b) (fun k _ hk => Nat.le_trans hB2 (by simpa using hk)))
  have U3 := hid (u3.weaken (S := fun b => w.heap.size + 1 + 1 + 1 ≤ b) (fun k _ hk => Nat.le_trans hB2 (by simpa using hk)))
  clear hh s3 u3 hms2 hm3 S1' S2 hg3
  go_wp2
  have hfin : ∀ W : World, Mod (fun k => k = w.heap.size + 1 + 1 ∨ k = w.heap.size + 1) w3 W → EngineIn true (fun b => w.heap.size ≤ b) W [.slice g1 x.tree.length c1, .slice g2 x.kept.memos.length c2, .slice g2' x.kept.asked.length c2', .slice (some ⟨g3, 0, none⟩) x.frames.length x.frames.length, .int .i64 x.root, .int .i64 x.wide, .int .i64 x.high, .bool x.rtl] x := by
    intro W hW
    have k1 : ∀ k, w.heap.size + 1 + 1 + 1 ≤ k → ¬ (k = w.heap.size + 1 + 1 ∨ k = w.heap.size + 1) := by omega
    exact EngineIn.wide ⟨_, _, _, _, _, rfl, S1''.out.mod hW k1, S2'.out.mod hW k1, S3.out.flatMod hW k1, fun _ => U3.out.mod hW k1⟩ (fun k _ hk => by show w.heap.size ≤ k; omega)
  refine bodyPost_ret (v := .agg [.slice g1 x.tree.length c1, .slice g2 x.kept.memos.length c2, .slice g2' x.kept.asked.length c2', .slice (some ⟨g3, 0, none⟩) x.frames.length x.frames.length, .int .i64 x.root, .int .i64 x.wide, .int .i64 x.high, .bool x.rtl].toArray) ?_ rfl ⟨_, rfl, hfin _ ?_, ?_⟩
  · simp [results, Try.results10, go_sem, *]
  · iterate 8 refine Mod.setCell ?_ (fun _ => .inl (.inr rfl)) _
    iterate 5 refine Mod.setCell ?_ (fun _ => .inl (.inl rfl)) _
    exact Mod.refl _ _
  · (repeat (first | with_reducible exact Mod.refl _ _ | with_reducible refine Mod.drewN ?_ _ | with_reducible refine Mod.drew ?_ | with_reducible refine Mod.alloc ?_ _ | ((with_reducible refine Mod.setNew ?_ ?_ _ _ _); (rotate_left; omega)) | with_reducible refine Mod.setAt ?_ _ _ _ | with_reducible exact hM3 | with_reducible refine Mod.thenNone ?_ hM3 ))

set_option maxHeartbeats 4000000 in
theorem eqEngine_same (x : Engine) (o o' : Bool) (cs cs' : List Value) (R S : Nat → Prop) (w : World) (hf : x.fits 1048576) (h : EngineIn o R w cs x) (h' : EngineIn o' S w cs' x) :
    Calls Try.prog 13 #[.agg cs.toArray, .agg cs'.toArray] w fun e w' => e = .returned (.bool true) ∧ Mod (fun _ => False) w w' := by
  obtain ⟨t, k0, k1, f, c, rfl, h1, h2, h3, _⟩ := h
  obtain ⟨t', k0', k1', f', c', rfl, h1', h2', h3', _⟩ := h'
  obtain ⟨f1, f2, f3⟩ := hf
  obtain ⟨ta, tc, et, ht⟩ := h1
  obtain ⟨ka, kc, kb, kc', ek, hk⟩ := h2
  obtain ⟨ta', tc', et', ht'⟩ := h1'
  obtain ⟨ka', kd, kb', kd', ek', hk'⟩ := h2'
  simp only [List.cons.injEq, and_true] at et ek et' ek'
  obtain rfl := et
  obtain ⟨rfl, rfl⟩ := ek
  obtain rfl := et'
  obtain ⟨rfl, rfl⟩ := ek'
  have H1 := hid (show TreeIn o R w [.slice ta x.tree.length tc] x.tree from ⟨ta, tc, rfl, ht⟩)
  have H2 := hid (show KeptIn o R w [.slice ka x.kept.memos.length kc, .slice kb x.kept.asked.length kc'] x.kept from ⟨ka, kc, kb, kc', rfl, hk⟩)
  have H1' := hid (show TreeIn o' S w [.slice ta' x.tree.length tc'] x.tree from ⟨ta', tc', rfl, ht'⟩)
  have H2' := hid (show KeptIn o' S w [.slice ka' x.kept.memos.length kd, .slice kb' x.kept.asked.length kd'] x.kept from ⟨ka', kd, kb', kd', rfl, hk'⟩)
  have H3 := hid h3
  have H3' := hid h3'
  have F1 := hid f1
  have F2 := hid f2
  clear ht hk ht' hk' h3 h3' f1 f2
  go_enter Try.func13, Try.ntmps13
  go_wp2_with fail
  refine (eqTree_same x.tree o o' [.slice ta x.tree.length tc] [.slice ta' x.tree.length tc'] R S _ F1.out (H1.out.keep (by (repeat (first | with_reducible exact Mod.refl _ _ | with_reducible refine Mod.drewN ?_ _ | with_reducible refine Mod.drew ?_ | with_reducible refine Mod.alloc ?_ _ | ((with_reducible refine Mod.setNew ?_ ?_ _ _ _); (rotate_left; omega)) | with_reducible refine Mod.setAt ?_ _ _ _ )))) (H1'.out.keep (by (repeat (first | with_reducible exact Mod.refl _ _ | with_reducible refine Mod.drewN ?_ _ | with_reducible refine Mod.drew ?_ | with_reducible refine Mod.alloc ?_ _ | ((with_reducible refine Mod.setNew ?_ ?_ _ _ _); (rotate_left; omega)) | with_reducible refine Mod.setAt ?_ _ _ _ ))))).mono ?_
  rintro e w1 ⟨rfl, hm1⟩
  obtain ⟨hq1, hz1⟩ := mcell hm1
  have hs1 := hm1.size
  repeat (rw [World.size_alloc] at hs1)
  have hr1_0 : w.heap.size < w1.heap.size := by omega
  have hr1_1 : w.heap.size + 1 < w1.heap.size := by omega
  have hM1 : Mod (fun _ => False) w w1 := by (repeat (first | with_reducible exact Mod.refl _ _ | with_reducible refine Mod.drewN ?_ _ | with_reducible refine Mod.drew ?_ | with_reducible refine Mod.alloc ?_ _ | ((with_reducible refine Mod.setNew ?_ ?_ _ _ _); (rotate_left; omega)) | with_reducible refine Mod.setAt ?_ _ _ _ | with_reducible exact hm1 | with_reducible refine Mod.thenNone ?_ hm1 ))
  clear hm1
  go_wp2_with fail
  refine (eqKept_same x.kept o o' [.slice ka x.kept.memos.length kc, .slice kb x.kept.asked.length kc'] [.slice ka' x.kept.memos.length kd, .slice kb' x.kept.asked.length kd'] R S _ F2.out (H2.out.keep hM1) (H2'.out.keep hM1)).mono ?_
  rintro e w2 ⟨rfl, hm2⟩
  obtain ⟨hq2, hz2⟩ := mcell hm2
  have hs2 := hm2.size
  repeat (unfold World.drewN at hs2)
  have hr2_0 : w.heap.size < w2.heap.size := by omega
  have hr2_1 : w.heap.size + 1 < w2.heap.size := by omega
  have hM2 := hM1.thenNone hm2
  clear hm2
  go_wp2_with fail
  refine (eqFrameS_any x.frames x.frames _ _ _ _ R S _ (by omega) (by omega) (H3.out.flatKeep hM2) (H3'.out.flatKeep hM2)).mono ?_
  rintro e w3 ⟨rfl, hm3⟩
  obtain ⟨hq3, hz3⟩ := mcell hm3
  have hs3 := hm3.size
  repeat (unfold World.drewN at hs3)
  have hr3_0 : w.heap.size < w3.heap.size := by omega
  have hr3_1 : w.heap.size + 1 < w3.heap.size := by omega
  rw [decide_eq_true rfl]
  have hM3 := hM2.thenNone hm3
  clear hm3
  go_wp2
  go_ret
  exact ⟨rfl, hM3⟩

theorem szRes_next {left : Int} {a b : Nat} (h : (a : Int) ≤ left) : szRes left (a + b) = szRes (left - a) b := by
  unfold szRes
  split <;> split <;> omega
set_option maxHeartbeats 4000000 in
theorem szEngine_any (x : Engine) (o : Bool) (cs : List Value) (R : Nat → Prop) (left : Int) (w : World) (h0 : 0 ≤ left) (h1 : left ≤ 1048576) (hf : x.fits 9223372036854775807) (h : EngineIn o R w cs x) :
    Calls Try.prog 8 #[.agg cs.toArray, .int .i64 left] w fun e w' => e = .returned (.int .i64 (szRes left x.cost)) ∧ Mod (fun _ => False) w w' := by
  obtain ⟨t, k0, k1, f, c, rfl, p1, p2, _, _⟩ := h
  obtain ⟨f1, f2, f3⟩ := hf
  obtain ⟨ta, tc, et, ht⟩ := p1
  obtain ⟨ka, kc, kb, kc', ek, hk⟩ := p2
  simp only [List.cons.injEq, and_true] at et ek
  obtain rfl := et
  obtain ⟨rfl, rfl⟩ := ek
  have H1 := hid (show TreeIn o R w [.slice ta x.tree.length tc] x.tree from ⟨ta, tc, rfl, ht⟩)
  have H2 := hid (show KeptIn o R w [.slice ka x.kept.memos.length kc, .slice kb x.kept.asked.length kc'] x.kept from ⟨ka, kc, kb, kc', rfl, hk⟩)
  have F1 := hid f1
  have F2 := hid f2
  clear ht hk f1 f2
  go_enter Try.func8, Try.ntmps8
  go_wp2_with fail
  refine (szTree_any x.tree o [.slice ta x.tree.length tc] R left _ h0 h1 F1.out (H1.out.keep (by (repeat (first | with_reducible exact Mod.refl _ _ | with_reducible refine Mod.drewN ?_ _ | with_reducible refine Mod.drew ?_ | with_reducible refine Mod.alloc ?_ _ | ((with_reducible refine Mod.setNew ?_ ?_ _ _ _); (rotate_left; omega)) | with_reducible refine Mod.setAt ?_ _ _ _ ))))).mono ?_
  rintro e w1 ⟨rfl, hm1⟩
  obtain ⟨hq1, hz1⟩ := mcell hm1
  have hs1 := hm1.size
  repeat (rw [World.size_alloc] at hs1)
  have hr1_0 : w.heap.size < w1.heap.size := by omega
  have hM1 : Mod (fun _ => False) w w1 := by (repeat (first | with_reducible exact Mod.refl _ _ | with_reducible refine Mod.drewN ?_ _ | with_reducible refine Mod.drew ?_ | with_reducible refine Mod.alloc ?_ _ | ((with_reducible refine Mod.setNew ?_ ?_ _ _ _); (rotate_left; omega)) | with_reducible refine Mod.setAt ?_ _ _ _ | with_reducible exact hm1 | with_reducible refine Mod.thenNone ?_ hm1 ))
  clear hm1
  by_cases hs : left < treeCost x.tree
  · rw [szRes_less hs]
    have hc := hid (szRes_less (left := left) (n := x.cost) (by unfold Engine.cost; omega))
    go_wp2
    go_ret
    exact ⟨ret_int hc.out.symm, hM1⟩
  · rw [szRes_more (by omega)]
    have hc := hid (show szRes left x.cost = szRes (left - treeCost x.tree) (x.kept.cost + x.frames.length) from by
      rw [← szRes_next (by omega)]
      unfold Engine.cost
      rw [Nat.add_assoc])
    have q0 : 0 ≤ left - treeCost x.tree := by omega
    have q1 : left - treeCost x.tree ≤ 1048576 := by omega
    generalize left - (treeCost x.tree : Int) = q at hc q0 q1
    clear hs
    go_wp2_with fail
    refine (szKept_any x.kept o [.slice ka x.kept.memos.length kc, .slice kb x.kept.asked.length kc'] R q _ q0 q1 F2.out (H2.out.keep hM1)).mono ?_
    rintro e w2 ⟨rfl, hm2⟩
    obtain ⟨hq2, hz2⟩ := mcell hm2
    have hs2 := hm2.size
    repeat (unfold World.drewN at hs2)
    have hr2_0 : w.heap.size < w2.heap.size := by omega
    have hM2 := hM1.thenNone hm2
    clear hm2
    by_cases hs : q < x.kept.cost
    · rw [szRes_less hs]
      have hc2 := hid (hc.out.trans (szRes_less (by omega)))
      clear hc
      go_wp2
      go_ret
      exact ⟨ret_int hc2.out.symm, hM2⟩
    · rw [szRes_more (by omega)]
      have hc2 := hid (hc.out.trans (szRes_next (by omega)))
      have r0 : 0 ≤ q - x.kept.cost := by omega
      have r1 : q - x.kept.cost ≤ 1048576 := by omega
      generalize q - (x.kept.cost : Int) = r at hc2 r0 r1
      clear hs hc
      go_wp2_with fail
      refine (szFrameS_any _ _ _ _ r0 r1 f3 _).mono ?_
      rintro e w3 ⟨rfl, rfl⟩
      by_cases hs : r < x.frames.length
      · rw [if_pos hs]
        have hc3 := hid (hc2.out.trans (szRes_less hs))
        clear hc2
        go_wp2
        go_ret
        exact ⟨ret_int hc3.out.symm, hM2⟩
      · rw [if_neg hs]
        have hc3 := hid (hc2.out.trans (szRes_more (by omega)))
        have s0 : 0 ≤ r - x.frames.length := by omega
        clear hc2
        go_wp2
        go_ret
        exact ⟨ret_int hc3.out.symm, hM2⟩

set_option maxRecDepth 100000 in
theorem rd_Engine {w : World} {cs : List Value} (h : Rd Try.prog w 31 cs) : ∃ x : Engine, EngineIn false (fun k => k < w.heap.size) w cs x ∧ x.fits 9223372036854775807 := by
  obtain ⟨hl, hf⟩ := h.struct Try.underlying31
  have hl2 : cs.length = 8 := hl.trans (by kernel_rfl)
  have c1 : Try.prog.cellsOf 24 = 1 := by kernel_rfl
  have c2 : Try.prog.cellsOf 28 = 2 := by kernel_rfl
  have c3 : Try.prog.cellsOf 29 = 1 := by kernel_rfl
  have c4 : Try.prog.cellsOf 3 = 1 := by kernel_rfl
  have c5 : Try.prog.cellsOf 4 = 1 := by kernel_rfl
  match cs, hl2 with
  | [q0, q1, q2, q3, q4, q5, q6, q7], _ =>
    obtain ⟨tr, e0, t1⟩ := rd_Tree (hf 0 _ rfl)
    obtain ⟨ke, e1, t2, _⟩ := rd_Kept (hf 1 _ rfl)
    obtain ⟨a, l, c, e2, h1, h2, h3⟩ := (hf 2 _ rfl).list (rep := Flat Frame.cells) (sz := 5) Try.underlying29 (by kernel_rfl) (by decide) (fun cs h => by
      obtain ⟨x, e, _⟩ := rd_Frame h
      exact ⟨x, e⟩)
    obtain ⟨n3, e3, _⟩ := (hf 3 _ rfl).int Try.underlying3
    obtain ⟨n4, e4, _⟩ := (hf 4 _ rfl).int Try.underlying3
    obtain ⟨n5, e5, _⟩ := (hf 5 _ rfl).int Try.underlying3
    obtain ⟨b6, e6⟩ := (hf 6 _ rfl).bool Try.underlying4
    simp [c1, c2, c3, c4, c5] at e0 e1 e2 e3 e4 e5 e6
    unfold maxLen at h2
    exact ⟨⟨tr, ke, l, n3, n4, n5, b6⟩, ⟨q0, q1, q2, a, c, by simp [e2, e3, e4, e5, e6], e0, e1, h3, fun h => by cases h⟩, t1, t2, by show l.length ≤ _; omega⟩

end Go.Proofs.Ythffgbhphjkdeaa
namespace Go.Proofs.Ythffgbhphjkdeaa
open Go.RowKit

/-- An engine's cells, written out. -/
theorem EngineIn.lit {o : Bool} {R : Nat → Prop} {w : World} {cs : List Value} {x : Engine} (h : EngineIn o R w cs x) : ∃ ta tc ka kc kb kd fa fc, cs = [.slice ta x.tree.length tc, .slice ka x.kept.memos.length kc, .slice kb x.kept.asked.length kd, .slice fa x.frames.length fc, .int .i64 x.root, .int .i64 x.wide, .int .i64 x.high, .bool x.rtl] ∧ EngineIn o R w [.slice ta x.tree.length tc, .slice ka x.kept.memos.length kc, .slice kb x.kept.asked.length kd, .slice fa x.frames.length fc, .int .i64 x.root, .int .i64 x.wide, .int .i64 x.high, .bool x.rtl] x := by
  have h0 := h
  obtain ⟨t, k0, k1, f, c, rfl, ⟨ta, tc, et, _⟩, ⟨ka, kc, kb, kc', ek, _⟩, _, _⟩ := h
  simp only [List.cons.injEq, and_true] at et ek
  obtain rfl := et
  obtain ⟨rfl, rfl⟩ := ek
  exact ⟨ta, tc, ka, kc, kb, kc', f, c, rfl, h0⟩
/-- An engine's value reads as the engine. -/
def EngAt (x : Engine) (w : World) (v : Value) : Prop := ∃ cs : List Value, v = .agg cs.toArray ∧ ∃ o R, EngineIn o R w cs x
theorem EngAt.keep {x : Engine} {w w' : World} {v : Value} (h : EngAt x w v) (hm : Mod (fun _ => False) w w') : EngAt x w' v := by
  obtain ⟨cs, h1, o, R, h2⟩ := h
  exact ⟨cs, h1, o, R, EngineIn.keep h2 hm⟩
end Go.Proofs.Ythffgbhphjkdeaa
namespace Go.Proofs.Ythffgbhphjkdeaa
open Go.RowKit

/-- A fact on memory that is only read, and the blocks that it speaks of. -/
structure Res where
  foot : Nat → Prop
  says : World → Prop
  stable : ∀ (S : Nat → Prop) (w w' : World), says w → Mod S w w' → (∀ k, foot k → ¬ S k) → says w'
/-- A slice of the call's own. -/
structure Own where
  v : Value
  e : TypeId
  sz : Nat
  n : Nat
  xs : List Value
/-- A block of the call's own. -/
structure Blk where
  g : Nat
  cells : List Value
  T : TypeId

/-- What the call may turn of old memory: the blocks p; of these q are held as blocks of the call's own; J is kept by whatever turns none but these. -/
structure Rg (W : World) where
  p : Nat → Prop
  q : Nat → Prop
  J : World → Prop
  low : ∀ k, p k → k < W.heap.size
  sub : ∀ k, q k → p k
  keep : ∀ (S : Nat → Prop) (w w' : World), J w → Mod S w w' → (∀ k, k < W.heap.size → S k → q k) → J w'
/-- Nothing. -/
def Rg.none (W : World) : Rg W := ⟨fun _ => False, fun _ => False, fun _ => True, fun _ h => h.elim, fun _ h => h, fun _ _ _ _ _ _ => trivial⟩

structure Loc (W : World) (R : Rg W) (L : List Blk) (O : List Own) (E : List Res) (w : World) : Prop where
  mod : Mod R.p W w
  inv : R.J w
  blk : ∀ b ∈ L, (R.q b.g ∨ W.heap.size ≤ b.g) ∧ w.heap[b.g]? = some (.cells b.cells.toArray b.T (0, 0))
  apart : L.Pairwise (fun a b => a.g ≠ b.g)
  own : ∀ o ∈ O, w.ownsRow W.heap.size o.e o.sz o.v o.n o.xs ∧ ∀ b ∈ L, o.v.ownBlock ≠ some b.g
  ownApart : O.Pairwise (fun a b => ∀ k, a.v.ownBlock = some k → b.v.ownBlock ≠ some k)
  res : ∀ F ∈ E, F.says w ∧ (∀ k, F.foot k → k < w.heap.size) ∧ (∀ b ∈ L, ¬ F.foot b.g) ∧ ∀ o ∈ O, ∀ k, o.v.ownBlock = some k → ¬ F.foot k
  resNew : ∀ F ∈ E, ∀ k, F.foot k → W.heap.size ≤ k
  resApart : E.Pairwise (fun F G => ∀ k, F.foot k → ¬ G.foot k)

section
variable {W : World} {R : Rg W} {L : List Blk} {O : List Own} {E : List Res} {w w' : World}

theorem ownBlock_lt {w : World} {base e sz n : Nat} {v : Value} {xs : List Value} (h : w.ownsRow base e sz v n xs) {k : Nat} (hk : v.ownBlock = some k) : base ≤ k ∧ k < w.heap.size := by
  exact h.lt k hk
theorem ownsRow_keep {w w' : World} {base e sz n : Nat} {v : Value} {xs : List Value} (h : w.ownsRow base e sz v n xs) {S : Nat → Prop} (hm : Mod S w w') (hs : ∀ k, v.ownBlock = some k → ¬ S k) : w'.ownsRow base e sz v n xs := by
  refine ⟨h.1, ?_⟩
  rcases h.2 with h2 | ⟨g, cap, cur, hv, hb, hh, hrest⟩
  · exact .inl h2
  · exact .inr ⟨g, cap, cur, hv, hb, hm.blk hh (hs g (by rw [hv]; rfl)), hrest⟩
theorem Loc.blk_lt (h : Loc W R L O E w) {b : Blk} (hb : b ∈ L) : b.g < w.heap.size := (Array.getElem?_eq_some_iff.1 (h.blk b hb).2).1

/-- What turns nothing that is held keeps the whole. -/
theorem Loc.frame {S : Nat → Prop} (h : Loc W R L O E w) (hm : Mod S w w') (h0 : ∀ k, k < W.heap.size → S k → R.q k) (h1 : ∀ b ∈ L, ¬ S b.g) (h2 : ∀ o ∈ O, ∀ k, o.v.ownBlock = some k → ¬ S k) (h3 : ∀ F ∈ E, ∀ k, F.foot k → ¬ S k) : Loc W R L O E w' where
  mod := h.mod.then hm fun k hk hs => R.sub k (h0 k hk hs)
  inv := R.keep S w w' h.inv hm h0
  blk := fun b hb => ⟨(h.blk b hb).1, hm.blk (h.blk b hb).2 (h1 b hb)⟩
  apart := h.apart
  own := fun o ho => ⟨ownsRow_keep (h.own o ho).1 hm (h2 o ho), (h.own o ho).2⟩
  ownApart := h.ownApart
  res := fun F hF => ⟨F.stable S w w' (h.res F hF).1 hm (h3 F hF), fun k hk => Nat.lt_of_lt_of_le ((h.res F hF).2.1 k hk) hm.size, (h.res F hF).2.2⟩
  resNew := h.resNew
  resApart := h.resApart
theorem Loc.keep (h : Loc W R L O E w) (hm : Mod (fun _ => False) w w') : Loc W R L O E w' := h.frame hm (fun _ _ f => f.elim) (fun _ _ f => f) (fun _ _ _ _ f => f) (fun _ _ _ _ f => f)
/-- A new block. -/
theorem Loc.made (h : Loc W R L O E w) (hm : Mod (fun _ => False) w w') {g : Nat} (hg : w.heap.size ≤ g) {cells : List Value} {T : TypeId} (hc : w'.heap[g]? = some (.cells cells.toArray T (0, 0))) : Loc W R (⟨g, cells, T⟩ :: L) O E w' := by
  have h' := h.keep hm
  exact {
    mod := h'.mod
    inv := h'.inv
    blk := fun b hb => by
      rcases List.mem_cons.1 hb with rfl | hb
      · exact ⟨.inr (Nat.le_trans h.mod.size hg), hc⟩
      · exact h'.blk b hb
    apart := List.pairwise_cons.2 ⟨fun b hb e => by have := h.blk_lt hb; simp only at e; omega, h.apart⟩
    own := fun o ho => ⟨(h'.own o ho).1, fun b hb e => by
      rcases List.mem_cons.1 hb with rfl | hb
      · have := (ownBlock_lt (h.own o ho).1 e).2; simp only at this; omega
      · exact (h.own o ho).2 b hb e⟩
    ownApart := h.ownApart
    res := fun F hF => ⟨(h'.res F hF).1, (h'.res F hF).2.1, fun b hb f => by
      rcases List.mem_cons.1 hb with rfl | hb
      · have := (h.res F hF).2.1 _ f; simp only at this; omega
      · exact (h.res F hF).2.2.1 b hb f, (h.res F hF).2.2.2⟩
    resNew := h.resNew
    resApart := h.resApart }
theorem Loc.alloc (h : Loc W R L O E w) (cells : List Value) (T : TypeId) : Loc W R (⟨w.heap.size, cells, T⟩ :: L) O E (w.alloc (.cells cells.toArray T)) :=
  h.made ((Mod.refl _ w).alloc _) (Nat.le_refl _) (heap_alloc_new w _)

theorem pairwise_ne_of {α : Type} {r : α → α → Prop} (hr : ∀ a b, r a b → r b a) {l : List α} (h : l.Pairwise r) {i j : Nat} {a b : α} (ha : l[i]? = some a) (hb : l[j]? = some b) (hij : i ≠ j) : r a b := by
  have hi := List.getElem?_eq_some_iff.1 ha
  have hj := List.getElem?_eq_some_iff.1 hb
  obtain ⟨hi1, rfl⟩ := hi
  obtain ⟨hj1, rfl⟩ := hj
  rw [List.pairwise_iff_getElem] at h
  rcases Nat.lt_or_gt_of_ne hij with hlt | hlt
  · exact h i j hi1 hj1 hlt
  · exact hr _ _ (h j i hj1 hi1 hlt)
theorem mem_set_cases {α : Type} {l : List α} {i : Nat} {x y : α} (h : y ∈ l.set i x) : y = x ∨ ∃ j, j ≠ i ∧ l[j]? = some y := by
  obtain ⟨j, hj⟩ := List.mem_iff_getElem?.1 h
  rw [List.getElem?_set] at hj
  split at hj
  · split at hj
    · left; simpa using hj.symm
    · cases hj
  · exact .inr ⟨j, fun e => by subst e; contradiction, hj⟩

/-- A block of the call's own, turned. -/
theorem Loc.turned {g : Nat} {cells cells' : List Value} {T : TypeId} {i : Nat} (h : Loc W R L O E w) (hi : L[i]? = some ⟨g, cells, T⟩) (hm : Mod (fun k => k = g) w w') (hc : w'.heap[g]? = some (.cells cells'.toArray T (0, 0))) : Loc W R (L.set i ⟨g, cells', T⟩) O E w' := by
  have hmem : (⟨g, cells, T⟩ : Blk) ∈ L := List.mem_iff_getElem?.2 ⟨i, hi⟩
  have hR := (h.blk _ hmem).1
  exact {
    mod := h.mod.then hm (fun k hk e => by subst e; rcases hR with hR | hR; exact R.sub _ hR; (simp only at hR; omega))
    inv := R.keep _ w w' h.inv hm (fun k hk e => by subst e; rcases hR with hR | hR; exact hR; (simp only at hR; omega))
    blk := fun b hb => by
      rcases mem_set_cases hb with rfl | ⟨j, hj, hb⟩
      · exact ⟨hR, hc⟩
      · have hne : b.g ≠ g := fun e => (pairwise_ne_of (fun _ _ h e => h e.symm) h.apart hb hi hj) e
        exact ⟨(h.blk b (List.mem_iff_getElem?.2 ⟨j, hb⟩)).1, hm.blk (h.blk b (List.mem_iff_getElem?.2 ⟨j, hb⟩)).2 hne⟩
    apart := by
      have h1 := h.apart
      have e : (L.set i ⟨g, cells', T⟩).map (·.g) = L.map (·.g) := by
        rw [List.map_set]
        refine List.ext_getElem? fun j => ?_
        rw [List.getElem?_set]
        split
        · subst_vars
          split
          · simp [hi]
          · rename_i hlt; rw [List.getElem?_eq_none (by simpa using hlt)]
        · rfl
      have h2 : (L.map (·.g)).Pairwise (· ≠ ·) := List.pairwise_map.2 h1
      rw [← e] at h2
      exact List.pairwise_map.1 h2
    own := fun o ho => ⟨ownsRow_keep (h.own o ho).1 hm (fun k hk e => by subst e; exact (h.own o ho).2 _ hmem hk), fun b hb e => by
      rcases mem_set_cases hb with rfl | ⟨j, hj, hb⟩
      · exact (h.own o ho).2 _ hmem e
      · exact (h.own o ho).2 b (List.mem_iff_getElem?.2 ⟨j, hb⟩) e⟩
    ownApart := h.ownApart
    res := fun F hF => ⟨F.stable _ w w' (h.res F hF).1 hm (fun k hk e => by subst e; exact (h.res F hF).2.2.1 _ hmem hk), fun k hk => Nat.lt_of_lt_of_le ((h.res F hF).2.1 k hk) hm.size, fun b hb f => by
      rcases mem_set_cases hb with rfl | ⟨j, hj, hb⟩
      · exact (h.res F hF).2.2.1 _ hmem f
      · exact (h.res F hF).2.2.1 b (List.mem_iff_getElem?.2 ⟨j, hb⟩) f, (h.res F hF).2.2.2⟩
    resNew := h.resNew
    resApart := h.resApart }
theorem Loc.set {g j : Nat} {cells : List Value} {T : TypeId} {i : Nat} (h : Loc W R L O E w) (hi : L[i]? = some ⟨g, cells, T⟩) (v : Value) : Loc W R (L.set i ⟨g, cells.set j v, T⟩) O E (w.setCell ⟨g, j, none⟩ v) := by
  have hmem : (⟨g, cells, T⟩ : Blk) ∈ L := List.mem_iff_getElem?.2 ⟨i, hi⟩
  refine h.turned hi ((Mod.refl _ w).setAt _ _ _) ?_
  have hb := (h.blk _ hmem).2
  simp only at hb
  simp [World.setCell, Array.getElem?_modify, hb]
/-- A new fact on new memory. -/
theorem Loc.told (h : Loc W R L O E w) (hm : Mod (fun _ => False) w w') {F1 : Res} (h1 : F1.says w') (h2 : ∀ k, F1.foot k → w.heap.size ≤ k ∧ k < w'.heap.size) : Loc W R L O (F1 :: E) w' := by
  have h' := h.keep hm
  exact {
    mod := h'.mod, inv := h'.inv, blk := h'.blk, apart := h.apart, own := h'.own, ownApart := h.ownApart
    res := fun F hF => by
      rcases List.mem_cons.1 hF with rfl | hF
      · refine ⟨h1, fun k hk => (h2 k hk).2, fun b hb f => ?_, fun o ho k hk f => ?_⟩
        · have := h.blk_lt hb; have := (h2 _ f).1; omega
        · have := (ownBlock_lt (h.own o ho).1 hk).2; have := (h2 _ f).1; omega
      · exact h'.res F hF
    resNew := fun F hF k hk => by
      rcases List.mem_cons.1 hF with rfl | hF
      · exact Nat.le_trans h.mod.size (h2 k hk).1
      · exact h.resNew F hF k hk
    resApart := List.pairwise_cons.2 ⟨fun G hG k hk hk' => by have := (h.res G hG).2.1 k hk'; have := (h2 k hk).1; omega, h.resApart⟩ }
/-- Memory that a fact speaks of, turned: another fact on it. -/
theorem Loc.retold {F F' : Res} {i : Nat} (h : Loc W R L O E w) (hi : E[i]? = some F) (hm : Mod F.foot w w') (h1 : F'.says w') (h2 : ∀ k, F'.foot k → F.foot k) : Loc W R L O (E.set i F') w' := by
  have hmem : F ∈ E := List.mem_iff_getElem?.2 ⟨i, hi⟩
  obtain ⟨_, f2, f3, f4⟩ := h.res F hmem
  have f5 := h.resNew F hmem
  have far : ∀ (j : Nat) (G : Res), j ≠ i → E[j]? = some G → ∀ k, G.foot k → ¬ F.foot k := fun j G hj hG k hk hf =>
    pairwise_ne_of (r := fun A B : Res => ∀ k, A.foot k → ¬ B.foot k) (fun a b hab k hb ha => hab k ha hb) h.resApart hG hi hj k hk hf
  exact {
    mod := h.mod.then hm fun k hk e => by have := f5 k e; omega
    inv := R.keep _ w w' h.inv hm fun k hk e => by have := f5 k e; omega
    blk := fun b hb => ⟨(h.blk b hb).1, hm.blk (h.blk b hb).2 (f3 b hb)⟩
    apart := h.apart
    own := fun o ho => ⟨ownsRow_keep (h.own o ho).1 hm (f4 o ho), (h.own o ho).2⟩
    ownApart := h.ownApart
    res := fun G hG => by
      rcases mem_set_cases hG with rfl | ⟨j, hj, hG⟩
      · exact ⟨h1, fun k hk => Nat.lt_of_lt_of_le (f2 k (h2 k hk)) hm.size, fun b hb f => f3 b hb (h2 _ f), fun o ho k hk f => f4 o ho k hk (h2 _ f)⟩
      · have hGm : G ∈ E := List.mem_iff_getElem?.2 ⟨j, hG⟩
        exact ⟨G.stable _ w w' (h.res G hGm).1 hm (far j G hj hG), fun k hk => Nat.lt_of_lt_of_le ((h.res G hGm).2.1 k hk) hm.size, (h.res G hGm).2.2⟩
    resNew := fun G hG k hk => by
      rcases mem_set_cases hG with rfl | ⟨j, hj, hG⟩
      · exact f5 k (h2 k hk)
      · exact h.resNew G (List.mem_iff_getElem?.2 ⟨j, hG⟩) k hk
    resApart := by
      rw [List.pairwise_iff_getElem]
      intro a b ha hb hab k hk hk'
      have ea : (E.set i F')[a]? = some (E.set i F')[a] := List.getElem?_eq_getElem ha
      have eb : (E.set i F')[b]? = some (E.set i F')[b] := List.getElem?_eq_getElem hb
      rw [List.getElem?_set] at ea eb
      rw [List.length_set] at ha hb
      by_cases h3 : i = a
      · by_cases h4 : i = b
        · omega
        · rw [if_pos h3, if_pos (show i < E.length by omega)] at ea
          rw [if_neg h4] at eb
          rw [← Option.some.inj ea] at hk
          exact far b _ (fun e => h4 e.symm) eb k hk' (h2 k hk)
      · rw [if_neg h3] at ea
        by_cases h4 : i = b
        · rw [if_pos h4, if_pos (show i < E.length by omega)] at eb
          rw [← Option.some.inj eb] at hk'
          exact far a _ (fun e => h3 e.symm) ea k hk (h2 k hk')
        · rw [if_neg h4] at eb
          exact pairwise_ne_of (r := fun A B : Res => ∀ k, A.foot k → ¬ B.foot k) (fun a b hab k hb ha => hab k ha hb) h.resApart ea eb (by omega) k hk hk' }
end

/-! ### Frames -/
def look : List (Nat × Value) → Nat → Option Value
  | [], _ => none
  | (d, v) :: f, t => bif Nat.beq t d then some v else look f t
def evO (f : List (Nat × Value)) : Operand → Option Value
  | .tmp t => look f t
  | .const v => some v
  | .global g => some (.pointer (some ⟨g, 0, none⟩))
  | .func x => some (.func (.func x) #[] #[])
structure Fr (n : Nat) (f : List (Nat × Value)) (a : Act) : Prop where
  defers : a.defers = []
  size : n ≤ a.tmps.size
  at_ : ∀ t v, look f t = some v → a.tmps[t]? = some v
theorem Fr.eval {n : Nat} {f : List (Nat × Value)} {a : Act} (h : Fr n f a) {x : Operand} {v : Value} (hx : evO f x = some v) : a.eval x = v := by
  cases x with
  | tmp t => simp [Act.eval, Array.getD_eq_getD_getElem?, h.at_ t v hx]
  | const u => exact Option.some.inj hx
  | global g => exact Option.some.inj hx
  | func g => exact Option.some.inj hx
theorem Fr.put {n : Nat} {f : List (Nat × Value)} {a : Act} (h : Fr n f a) {d : Nat} (hd : Nat.blt d n = true) (v : Value) : Fr n ((d, v) :: f) (a.put (some d) v) where
  defers := h.defers
  size := by simpa [Act.put] using h.size
  at_ := fun t u hu => by
    have hd' : d < a.tmps.size := Nat.lt_of_lt_of_le (by simpa using hd) h.size
    simp only [look, cond_eq_ite] at hu
    simp only [Act.put, Array.getElem?_setIfInBounds]
    by_cases e : t = d
    · subst e
      simpa [hd'] using hu
    · have e' : Nat.beq t d = false := Bool.eq_false_iff.2 fun h => e (Nat.eq_of_beq_eq_true h)
      rw [e'] at hu
      simp only [Bool.false_eq_true, if_false] at hu
      rw [if_neg (fun h => e h.symm)]
      exact h.at_ t u hu
theorem Fr.puto {n : Nat} {f : List (Nat × Value)} {a : Act} (h : Fr n f a) (v : Value) : Fr n f (a.put none v) := h
/-- What is told of a frame may be told in part. -/
def subF (f f' : List (Nat × Value)) : Prop := ∀ t v, look f' t = some v → look f t = some v
theorem Fr.sub {n : Nat} {f f' : List (Nat × Value)} {a : Act} (h : Fr n f a) (hs : subF f f') : Fr n f' a := ⟨h.defers, h.size, fun t v ht => h.at_ t v (hs t v ht)⟩
theorem subF_nil (f : List (Nat × Value)) : subF f [] := fun _ _ h => by cases h
theorem subF_cons {f f' : List (Nat × Value)} {d : Nat} {v : Value} (h : look f d = some v) (hs : subF f f') : subF f ((d, v) :: f') := fun t u hu => by
  simp only [look, cond_eq_ite] at hu
  by_cases e : t = d
  · subst e; rw [h]; simpa using hu
  · have e' : Nat.beq t d = false := Bool.eq_false_iff.2 fun h => e (Nat.eq_of_beq_eq_true h)
    rw [e'] at hu
    exact hs t u (by simpa using hu)

theorem subF_consv {f f' : List (Nat × Value)} {d : Nat} {u v : Value} (h : look f d = some u) (hu : u = v) (hs : subF f f') : subF f ((d, v) :: f') := subF_cons (h.trans (by rw [hu])) hs

/-! ### Walks -/
section
variable (P : Program) (n : Nat) (W : World) (R : Rg W)
structure SX (L : List Blk) (O : List Own) (E : List Res) (f : List (Nat × Value)) (c : Code) (Q : Exit → Act → World → Prop) : Prop where
  run : ∀ a w, Fr n f a → Loc W R L O E w → c.wp P Q a w
structure SXl (ops : Array Oper) (L : List Blk) (O : List Own) (E : List Res) (f : List (Nat × Value)) (l : List Oper) (Q : Exit → Act → World → Prop) : Prop where
  run : ∀ a w, Fr n f a → Loc W R L O E w → wpList P ops Q l a w
structure SQ (L : List Blk) (O : List Own) (E : List Res) (f : List (Nat × Value)) (e : Exit) (Q : Exit → Act → World → Prop) : Prop where
  run : ∀ a w, Fr n f a → Loc W R L O E w → Q e a w
end

section
variable {P : Program} {n : Nat} {W : World} {R : Rg W} {L : List Blk} {O : List Own} {E : List Res} {f : List (Nat × Value)} {Q : Exit → Act → World → Prop} {ops : Array Oper} {rest : List Oper}

theorem SX.seq {x y : Code} (h : SX P n W R L O E f x (Exit.then (y.wp P Q) Q)) : SX P n W R L O E f (.seq x y) Q := ⟨fun a w hf hl => wp_seq (h.run a w hf hl)⟩
theorem SX.block {id : Nat} {c : Code} (h : SX P n W R L O E f c (Exit.inBlock id Q)) : SX P n W R L O E f (.block id c) Q := ⟨fun a w hf hl => wp_block (h.run a w hf hl)⟩
theorem SX.skip (h : SQ n W R L O E f .normal Q) : SX P n W R L O E f .skip Q := ⟨fun a w hf hl => wp_skip (h.run a w hf hl)⟩
theorem SX.ret (h : SQ n W R L O E f .ret Q) : SX P n W R L O E f .ret Q := ⟨fun a w hf hl => wp_ret (h.run a w hf hl)⟩
theorem SX.exit {id : Nat} (h : SQ n W R L O E f (.exit id) Q) : SX P n W R L O E f (.exit id) Q := ⟨fun a w hf hl => wp_exit (h.run a w hf hl)⟩
theorem SX.cond {c : Operand} {x y : Code} {t : Bool} (hc : evO f c = some (.bool t)) (ht : t = true → SX P n W R L O E f x Q) (hf : t = false → SX P n W R L O E f y Q) : SX P n W R L O E f (.cond c x y) Q :=
  ⟨fun a w hfr hl => wp_cond_split (hfr.eval hc) (fun h => (ht h).run a w hfr hl) (fun h => (hf h).run a w hfr hl)⟩
theorem SX.condT {c : Operand} {x y : Code} (hc : evO f c = some (.bool true)) (h : SX P n W R L O E f x Q) : SX P n W R L O E f (.cond c x y) Q := SX.cond hc (fun _ => h) (fun e => by cases e)
theorem SX.condF {c : Operand} {x y : Code} (hc : evO f c = some (.bool false)) (h : SX P n W R L O E f y Q) : SX P n W R L O E f (.cond c x y) Q := SX.cond hc (fun e => by cases e) (fun _ => h)
theorem SX.region {id : Nat} {l : List Oper} (h : SXl P n W R l.toArray L O E f l Q) : SX P n W R L O E f (.region id l.toArray false) Q := ⟨fun a w hf hl => wp_region_lit (h.run a w hf hl)⟩
theorem SX.sub {c : Code} {f' : List (Nat × Value)} (h : SX P n W R L O E f' c Q) (hs : subF f f') : SX P n W R L O E f c Q := ⟨fun a w hf hl => h.run a w (hf.sub hs) hl⟩
theorem SQ.thenNormal {y : Code} (h : SX P n W R L O E f y Q) : SQ n W R L O E f .normal (Exit.then (y.wp P Q) Q) := ⟨h.run⟩
theorem SQ.thenRet {K : Act → World → Prop} (h : SQ n W R L O E f .ret Q) : SQ n W R L O E f .ret (Exit.then K Q) := ⟨h.run⟩
theorem SQ.thenExit {K : Act → World → Prop} {id : Nat} (h : SQ n W R L O E f (.exit id) Q) : SQ n W R L O E f (.exit id) (Exit.then K Q) := ⟨h.run⟩
theorem SQ.blockNormal {id : Nat} (h : SQ n W R L O E f .normal Q) : SQ n W R L O E f .normal (Exit.inBlock id Q) := ⟨h.run⟩
theorem SQ.blockRet {id : Nat} (h : SQ n W R L O E f .ret Q) : SQ n W R L O E f .ret (Exit.inBlock id Q) := ⟨h.run⟩
theorem SQ.blockExit {id : Nat} (h : SQ n W R L O E f .normal Q) : SQ n W R L O E f (.exit id) (Exit.inBlock id Q) := ⟨fun a w hf hl => by
  show (if id = id then _ else _); rw [if_pos rfl]; exact h.run a w hf hl⟩
theorem SQ.blockOther {id id' : Nat} (hne : Nat.beq id' id = false) (h : SQ n W R L O E f (.exit id') Q) : SQ n W R L O E f (.exit id') (Exit.inBlock id Q) := ⟨fun a w hf hl => by
  show (if id' = id then _ else _); rw [if_neg (fun e => by subst e; rw [Nat.beq_refl] at hne; cases hne)]; exact h.run a w hf hl⟩
theorem SQ.body1 {fn : Func} {R' : Ending → World → Prop} {t : Tmp} {v : Value} (hr : fn.results = #[.tmp t]) (ht : look f t = some v) (h : ∀ w, Loc W R L O E w → R' (.returned v) w) : SQ n W R L O E f .ret (bodyPost P fn R') :=
  ⟨fun a w hf hl => ⟨hf.defers, v, by rw [results_tmp hr, Array.getD_eq_getD_getElem?, hf.at_ t v ht]; rfl, h w hl⟩⟩
theorem SXl.nil (h : SQ n W R L O E f .normal Q) : SXl P n W R ops L O E f [] Q := ⟨h.run⟩

/-- What one operation does: it gives v and turns nothing old. -/
structure OpW (P : Program) (n : Nat) (W : World) (R : Rg W) (L : List Blk) (O : List Own) (E : List Res) (f : List (Nat × Value)) (o : Oper) (v : Value) : Prop where
  run : ∀ a w, Fr n f a → Loc W R L O E w → o.wp P a w (fun a' w' => a' = a.put o.dst v ∧ Mod (fun _ => False) w w') never
theorem OpW.of {o : Oper} {v : Value} (hr : ∀ a w, Fr n f a → Loc W R L O E w → (execOp a.eval o).run P w = .ok (.value v) w) : OpW P n W R L O E f o v := ⟨fun a w hf hl => by
  unfold Oper.wp
  rw [hr a w hf hl, Oper.upon_value]
  exact ⟨rfl, Mod.refl _ _⟩⟩
theorem OpW.enter {o : Oper} {v : Value} {fn : FuncId} {args : Array Value} (hr : ∀ a w, Fr n f a → Loc W R L O E w → (execOp a.eval o).run P w = .ok (.enter fn args) w)
    (hc : ∀ w, Loc W R L O E w → Calls P fn args w fun e w' => e = .returned v ∧ Mod (fun _ => False) w w') : OpW P n W R L O E f o v := ⟨fun a w hf hl => by
  unfold Oper.wp
  rw [hr a w hf hl, Oper.upon_enter]
  refine (hc w hl).mono ?_
  rintro e w' ⟨rfl, hm⟩
  exact ⟨rfl, hm⟩⟩
theorem wp_never {o : Oper} {a : Act} {w : World} {K K' : Act → World → Prop} (h : o.wp P a w K never) (hK : ∀ a w, K a w → K' a w) : o.wp P a w K' Q := by
  unfold Oper.wp at *
  generalize (execOp a.eval o).run P w = r at *
  cases r with
  | ok x w' =>
    cases x <;> simp only [Oper.upon] at h ⊢
    case value v => exact hK _ _ h
    case skip => exact hK _ _ h
    case defer d => exact hK _ _ h
    case enter f args =>
      refine Calls.mono h fun e w'' he => ?_
      cases e with
      | returned u => exact hK _ _ he
      | panicked c => exact he.elim
      | outgrown => obtain ⟨_, _, hf⟩ := he; exact hf.elim
    case row row args => exact Rows.mono h fun u w'' he => hK _ _ he
  | halt x w' => cases x <;> simp only [Oper.upon, never] at h
/-- Is an operation's guard met? -/
def wantO (ops : Array Oper) (f : List (Nat × Value)) (o : Oper) : Option Bool :=
  match o.guard with
  | none => some true
  | some (j, want) => match (ops[j]?).bind (·.dst) with
    | some d => match look f d with
      | some (.bool b) => some (b == want)
      | some (.tuple _) => some false
      | _ => none
    | none => none
theorem wanted_of {o : Oper} {a : Act} {b : Bool} (hf : Fr n f a) (h : wantO ops f o = some b) : Region.wanted o (yielded ops a.tmps) = b := by
  unfold wantO at h
  unfold Region.wanted
  cases hg : o.guard with
  | none => simpa [hg] using h
  | some p =>
    obtain ⟨j, want⟩ := p
    simp only [hg] at h ⊢
    cases hj : ops[j]? with
    | none => simp [hj] at h
    | some q =>
      cases hq : q.dst with
      | none => simp [hj, hq] at h
      | some d =>
        simp only [hj, Option.bind_some, hq] at h
        cases hd : look f d with
        | none => simp [hd] at h
        | some v =>
          have e := hf.at_ d _ hd
          cases v <;> simp [hd] at h
          · rename_i b'
            simp only [yielded, hj, hq, Option.bind_some, e]
            rw [← h]
            cases b' <;> cases want <;> rfl
          · simp only [yielded, hj, hq, Option.bind_some, e]
            rw [h]
            rfl
theorem SXl.v {o : Oper} {v : Value} {d : Nat} (hr : OpW P n W R L O E f o v) (hdst : o.dst = some d) (hw : wantO ops f o = some true) (hd : Nat.blt d n = true) (h : SXl P n W R ops L O E ((d, v) :: f) rest Q) : SXl P n W R ops L O E f (o :: rest) Q := ⟨fun a w hf hl => by
  unfold wpList
  rw [if_pos (wanted_of hf hw)]
  refine .inl (wp_never (hr.run a w hf hl) ?_)
  rintro a' w' ⟨rfl, hm⟩
  rw [hdst]
  exact h.run _ _ (hf.put hd v) (hl.keep hm)⟩
/-- Nobody takes what it gives. -/
theorem SXl.v0 {o : Oper} {v : Value} (hr : OpW P n W R L O E f o v) (hdst : o.dst = none) (hw : wantO ops f o = some true) (h : SXl P n W R ops L O E f rest Q) : SXl P n W R ops L O E f (o :: rest) Q := ⟨fun a w hf hl => by
  unfold wpList
  rw [if_pos (wanted_of hf hw)]
  refine .inl (wp_never (hr.run a w hf hl) ?_)
  rintro a' w' ⟨rfl, hm⟩
  rw [hdst]
  exact h.run _ _ hf (hl.keep hm)⟩
theorem SXl.no {o : Oper} {d : Nat} (hw : wantO ops f o = some false) (hdst : o.dst = some d) (hd : Nat.blt d n = true) (h : SXl P n W R ops L O E ((d, undef) :: f) rest Q) : SXl P n W R ops L O E f (o :: rest) Q := ⟨fun a w hf hl => by
  unfold wpList
  rw [if_neg (by rw [wanted_of hf hw]; decide)]
  rw [hdst]
  exact h.run _ _ (hf.put hd undef) hl⟩
theorem SXl.stepn {o : Oper} {V : Nat → Value} {L' : Nat → List Blk} {O' : Nat → List Own} {d : Nat} (hw : wantO ops f o = some true) (hdst : o.dst = some d) (hd : Nat.blt d n = true) (hr : ∀ a w, Fr n f a → Loc W R L O E w → ∃ g w', (execOp a.eval o).run P w = .ok (.value (V g)) w' ∧ Loc W R (L' g) (O' g) E w')
    (h : ∀ g, SXl P n W R ops (L' g) (O' g) E ((d, V g) :: f) rest Q) : SXl P n W R ops L O E f (o :: rest) Q := ⟨fun a w hf hl => by
  unfold wpList
  rw [if_pos (wanted_of hf hw)]
  refine .inl ?_
  unfold Oper.wp
  obtain ⟨g, w', h1, h2⟩ := hr a w hf hl
  rw [h1, Oper.upon_value, hdst]
  exact (h g).run _ _ (hf.put hd _) h2⟩
theorem SXl.steps {o : Oper} {L' : List Blk} {O' : List Own} (hw : wantO ops f o = some true) (hd : o.dst = none) (hr : ∀ a w, Fr n f a → Loc W R L O E w → ∃ w', (execOp a.eval o).run P w = .ok .skip w' ∧ Loc W R L' O' E w')
    (h : SXl P n W R ops L' O' E f rest Q) : SXl P n W R ops L O E f (o :: rest) Q := ⟨fun a w hf hl => by
  unfold wpList
  rw [if_pos (wanted_of hf hw)]
  refine .inl ?_
  unfold Oper.wp
  obtain ⟨w', h1, h2⟩ := hr a w hf hl
  rw [h1, Oper.upon_skip, hd]
  exact h.run _ _ hf h2⟩
/-- A call that hands back new memory. -/
def NewR (ξ : Type) (v : ξ → Value) (F1 : ξ → Res) (w : World) (e : Ending) (w' : World) : Prop :=
  ∃ x, e = .returned (v x) ∧ ((F1 x).says w' ∧ ∀ k, (F1 x).foot k → w.heap.size ≤ k ∧ k < w'.heap.size) ∧ Mod (fun _ => False) w w'
theorem SXl.callx {o : Oper} {ξ : Type} {v : ξ → Value} {F1 : ξ → Res} {fn : FuncId} {args : Array Value} {d : Nat} (hw : wantO ops f o = some true) (hdst : o.dst = some d) (hd : Nat.blt d n = true)
    (hr : ∀ a w, Fr n f a → Loc W R L O E w → (execOp a.eval o).run P w = .ok (.enter fn args) w)
    (hc : ∀ w, Loc W R L O E w → Calls P fn args w (NewR ξ v F1 w))
    (h : ∀ x, SXl P n W R ops L O (F1 x :: E) ((d, v x) :: f) rest Q) : SXl P n W R ops L O E f (o :: rest) Q := ⟨fun a w hf hl => by
  unfold wpList
  rw [if_pos (wanted_of hf hw)]
  refine .inl ?_
  unfold Oper.wp
  rw [hr a w hf hl, Oper.upon_enter]
  refine (hc w hl).mono ?_
  rintro e w' ⟨x, rfl, h1, hm⟩
  simp only [hdst]
  exact (h x).run _ _ (hf.put hd _) (hl.told hm h1.1 h1.2)⟩

/-! ### Regions that draw their order -/
/-- A drawn region, from operation k on, in the text's order; each operation gives a value that is told and turns nothing old. -/
structure SXr (P : Program) (n : Nat) (W : World) (R : Rg W) (ops : Array Oper) (L : List Blk) (O : List Own) (E : List Res) (k : Nat) (f : List (Nat × Value)) (l : List Oper) (Q : Exit → Act → World → Prop) : Prop where
  run : ∀ F : Act, Fr n f F → RS P ops (Mod fun _ => False) (Loc W R L O E) Q k l (fun _ => F) []
theorem SXr.nil {k : Nat} (h : SQ n W R L O E f .normal Q) : SXr P n W R ops L O E k f [] Q := ⟨fun _ hF => RS.done fun _ w hS _ => h.run _ w hF hS⟩
theorem SXr.v {k : Nat} {o : Oper} {v : Value} {d : Nat} (hr : OpW P n W R L O E f o v) (hdst : o.dst = some d) (hw : wantO ops f o = some true) (hd : Nat.blt d n = true) (h : SXr P n W R ops L O E (k + 1) ((d, v) :: f) rest Q) : SXr P n W R ops L O E k f (o :: rest) Q := ⟨fun F hF =>
  RS.val [] (fun _ => v) rfl (fun _ _ _ => rfl) (fun _ => wanted_of hF hw) (fun _ w hS _ => wp_never (hr.run F w hF hS) fun _ _ ⟨h1, h2⟩ => ⟨h1, hS.keep h2, h2⟩) (by rw [hdst]; exact h.run _ (hF.put hd v))⟩
theorem SXr.no {k : Nat} {o : Oper} {d : Nat} (hw : wantO ops f o = some false) (hdst : o.dst = some d) (hd : Nat.blt d n = true) (h : SXr P n W R ops L O E (k + 1) ((d, undef) :: f) rest Q) : SXr P n W R ops L O E k f (o :: rest) Q := ⟨fun F hF =>
  RS.skip (fun _ => wanted_of hF hw) (by rw [hdst]; exact h.run _ (hF.put hd undef))⟩
theorem SX.drawn {id : Nat} {l : List Oper} (hm : P.follows .mixedOrders = true) (hc : regOk l.toArray = true) (h : SXr P n W R l.toArray L O E 0 f l Q) : SX P n W R L O E f (.region id l.toArray true) Q := ⟨fun a w hf hl =>
  wp_region_rs (Loc W R L O E) (Mod fun _ => False) hm hc (hl.keep ((Mod.refl _ w).drew)) (h.run a hf)⟩
theorem SXr.tail {k : Nat} (h : SXl P n W R ops L O E f rest Q) : SXr P n W R ops L O E k f [] (fun _ a w => wpList P ops Q rest a w) := ⟨fun _ hF => RS.done fun _ w hS _ => h.run _ w hF hS⟩

/-! ### Loops -/
theorem SX.loop {ι : Type} {c : Code} (I : ι → Nat → List Blk → List Own → List Res → List (Nat × Value) → Prop) (m0 : Nat) (i0 : ι) (L0 : List Blk) (O0 : List Own) (E0 : List Res) (f0 : List (Nat × Value)) (h0 : I i0 m0 L0 O0 E0 f0) (hf0 : subF f f0) (hl0 : ∀ w, Loc W R L O E w → Loc W R L0 O0 E0 w)
    (round : ∀ i m L O E f, I i m L O E f → SX P n W R L O E f c (Exit.then (fun a w => ∃ m', m' < m ∧ ∃ i L O E f, I i m' L O E f ∧ Fr n f a ∧ Loc W R L O E w) Q)) : SX P n W R L O E f (.loop c) Q := ⟨fun a w hf hl =>
  wp_loop_ghost (fun m a w => ∃ i L O E f, I i m L O E f ∧ Fr n f a ∧ Loc W R L O E w) m0 ⟨i0, L0, O0, E0, f0, h0, hf.sub hf0, hl0 w hl⟩
    (fun m a w ⟨i, L, O, E, f, hI, hf, hl⟩ => (round i m L O E f hI).run a w hf hl)⟩
theorem SQ.round {ι : Type} {m : Nat} {I : ι → Nat → List Blk → List Own → List Res → List (Nat × Value) → Prop} (m' : Nat) (hm : m' < m) (i : ι) (L' : List Blk) (O' : List Own) (E' : List Res) (f' : List (Nat × Value)) (h : I i m' L' O' E' f') (hs : subF f f') (hl : ∀ w, Loc W R L O E w → Loc W R L' O' E' w) :
    SQ n W R L O E f .normal (Exit.then (fun a w => ∃ m', m' < m ∧ ∃ i L O E f, I i m' L O E f ∧ Fr n f a ∧ Loc W R L O E w) Q) := ⟨fun _ w hf hl' => ⟨m', hm, i, L', O', E', f', h, hf.sub hs, hl w hl'⟩⟩
/-- A loop whose state is told by an index. -/
theorem SX.loopi {ι : Type} {c : Code} (inv : ι → Prop) (μ : ι → Nat) (Lf : ι → List Blk) (Of : ι → List Own) (Ef : ι → List Res) (ff : ι → List (Nat × Value)) (i0 : ι) (h0 : inv i0) (hf0 : subF f (ff i0)) (hl0 : ∀ w, Loc W R L O E w → Loc W R (Lf i0) (Of i0) (Ef i0) w)
    (round : ∀ i, inv i → SX P n W R (Lf i) (Of i) (Ef i) (ff i) c (Exit.then (fun a w => ∃ j, inv j ∧ μ j < μ i ∧ Fr n (ff j) a ∧ Loc W R (Lf j) (Of j) (Ef j) w) Q)) : SX P n W R L O E f (.loop c) Q := ⟨fun a w hf hl =>
  wp_loop_ghost (fun m a w => ∃ i, inv i ∧ μ i = m ∧ Fr n (ff i) a ∧ Loc W R (Lf i) (Of i) (Ef i) w) (μ i0) ⟨i0, h0, rfl, hf.sub hf0, hl0 w hl⟩
    (fun m a w ⟨i, hI, hm, hf, hl⟩ => wp_mono ((round i hI).run a w hf hl) (fun e a w q => by
      cases e with
      | normal => obtain ⟨j, h1, h2, h3⟩ := q; exact ⟨μ j, hm ▸ h2, j, h1, rfl, h3⟩
      | exit id => exact q
      | goto l => exact q
      | ret => exact q
      | panic ch => exact q
      | outgrown => exact q))⟩
/-- The same, with three indices. -/
theorem SX.loop3 {α β γ : Type} {c : Code} (inv : α → β → γ → Prop) (μ : α → β → γ → Nat) (Lf : α → β → γ → List Blk) (Of : α → β → γ → List Own) (Ef : α → β → γ → List Res) (ff : α → β → γ → List (Nat × Value)) (i0 : α) (j0 : β) (k0 : γ) (h0 : inv i0 j0 k0) (hf0 : subF f (ff i0 j0 k0)) (hl0 : ∀ w, Loc W R L O E w → Loc W R (Lf i0 j0 k0) (Of i0 j0 k0) (Ef i0 j0 k0) w)
    (round : ∀ i j k, inv i j k → SX P n W R (Lf i j k) (Of i j k) (Ef i j k) (ff i j k) c (Exit.then (fun a w => ∃ i' j' k', inv i' j' k' ∧ μ i' j' k' < μ i j k ∧ Fr n (ff i' j' k') a ∧ Loc W R (Lf i' j' k') (Of i' j' k') (Ef i' j' k') w) Q)) : SX P n W R L O E f (.loop c) Q :=
  SX.loopi (ι := α × β × γ) (fun i => inv i.1 i.2.1 i.2.2) (fun i => μ i.1 i.2.1 i.2.2) (fun i => Lf i.1 i.2.1 i.2.2) (fun i => Of i.1 i.2.1 i.2.2) (fun i => Ef i.1 i.2.1 i.2.2) (fun i => ff i.1 i.2.1 i.2.2) (i0, j0, k0) h0 hf0 hl0
    (fun ⟨i, j, k⟩ hi => ⟨fun a w hf hl => wp_mono ((round i j k hi).run a w hf hl) (fun e a w q => by
      cases e with
      | normal => obtain ⟨i', j', k', h⟩ := q; exact ⟨(i', j', k'), h⟩
      | exit id => exact q
      | goto l => exact q
      | ret => exact q
      | panic ch => exact q
      | outgrown => exact q)⟩)
theorem SQ.round3 {α β γ : Type} {inv : α → β → γ → Prop} {μ : α → β → γ → Nat} {Lf : α → β → γ → List Blk} {Of : α → β → γ → List Own} {Ef : α → β → γ → List Res} {ff : α → β → γ → List (Nat × Value)} {m : Nat} (i' : α) (j' : β) (k' : γ) (h : inv i' j' k') (hm : μ i' j' k' < m) (hs : subF f (ff i' j' k')) (hl : ∀ w, Loc W R L O E w → Loc W R (Lf i' j' k') (Of i' j' k') (Ef i' j' k') w) :
    SQ n W R L O E f .normal (Exit.then (fun a w => ∃ i' j' k', inv i' j' k' ∧ μ i' j' k' < m ∧ Fr n (ff i' j' k') a ∧ Loc W R (Lf i' j' k') (Of i' j' k') (Ef i' j' k') w) Q) := ⟨fun _ w hf hl' => ⟨i', j', k', h, hm, hf.sub hs, hl w hl'⟩⟩
/-- A call that turns the memory that a fact speaks of. -/
theorem SXl.callm {o : Oper} {ξ : Type} {v : ξ → Value} {F : Res} {F' : ξ → Res} {K : ξ → Prop} {fn : FuncId} {args : Array Value} {d : Nat} (i : Nat) (hw : wantO ops f o = some true) (hdst : o.dst = some d) (hd : Nat.blt d n = true)
    (hr : ∀ a w, Fr n f a → Loc W R L O E w → (execOp a.eval o).run P w = .ok (.enter fn args) w) (hi : E[i]? = some F) (hsub : ∀ x k, (F' x).foot k → F.foot k)
    (hc : ∀ w, Loc W R L O E w → Calls P fn args w fun e w' => ∃ x, e = .returned (v x) ∧ K x ∧ (F' x).says w' ∧ Mod F.foot w w')
    (h : ∀ x, K x → SXl P n W R ops L O (E.set i (F' x)) ((d, v x) :: f) rest Q) : SXl P n W R ops L O E f (o :: rest) Q := ⟨fun a w hf hl => by
  unfold wpList
  rw [if_pos (wanted_of hf hw)]
  refine .inl ?_
  unfold Oper.wp
  rw [hr a w hf hl, Oper.upon_enter]
  refine (hc w hl).mono ?_
  rintro e w' ⟨x, rfl, hk, h1, hm⟩
  simp only [hdst]
  exact (h x hk).run _ _ (hf.put hd _) (hl.retold hi hm h1 (hsub x))⟩
theorem calls_sx {fid : FuncId} {fn : Func} {c : Code} {args : List Value} {w : World} {R' : Ending → World → Prop} {f : List (Nat × Value)} (hf : P.funcs[fid]? = some fn) (hb : fn.body = some c) (hn : fn.ntmps = n)
    (hfr : ∀ a : Act, a.defers = [] → n ≤ a.tmps.size → (∀ (t : Nat) (v : Value), args[t]? = some v → a.tmps[t]? = some v) → Fr n f a)
    (h : SX P n w (Rg.none w) [] [] [] f c (bodyPost P fn R')) : Calls P fid args.toArray w R' := by
  refine calls_of_wp hf hb (h.run _ w (hfr _ rfl ?_ ?_) ⟨Mod.refl _ _, trivial, by simp, by simp, by simp, by simp, by simp, by simp, by simp⟩)
  · simp; omega
  · intro t v ht
    have hlt := (List.getElem?_eq_some_iff.1 ht).1
    obtain ⟨_, e⟩ := List.getElem?_eq_some_iff.1 ht
    simp [Array.getElem?_append, hlt, e]
/-- The same, where the call may turn old memory. -/
theorem calls_sxJ {fid : FuncId} {fn : Func} {c : Code} {args : List Value} {w : World} (Rr : Rg w) (hj : Rr.J w) {R' : Ending → World → Prop} {f : List (Nat × Value)} (hf : P.funcs[fid]? = some fn) (hb : fn.body = some c) (hn : fn.ntmps = n)
    (hfr : ∀ a : Act, a.defers = [] → n ≤ a.tmps.size → (∀ (t : Nat) (v : Value), args[t]? = some v → a.tmps[t]? = some v) → Fr n f a)
    (h : SX P n w Rr [] [] [] f c (bodyPost P fn R')) : Calls P fid args.toArray w R' := by
  refine calls_of_wp hf hb (h.run _ w (hfr _ rfl ?_ ?_) ⟨Mod.refl _ _, hj, by simp, by simp, by simp, by simp, by simp, by simp, by simp⟩)
  · simp; omega
  · intro t v ht
    have hlt := (List.getElem?_eq_some_iff.1 ht).1
    obtain ⟨_, e⟩ := List.getElem?_eq_some_iff.1 ht
    simp [Array.getElem?_append, hlt, e]
theorem Fr.nil {a : Act} (h : a.defers = []) (hn : n ≤ a.tmps.size) : Fr n [] a := ⟨h, hn, fun _ _ h => by cases h⟩
theorem Fr.arg {a : Act} {t : Nat} {v : Value} (h : Fr n f a) (ht : a.tmps[t]? = some v) : Fr n ((t, v) :: f) a := ⟨h.defers, h.size, fun s u hu => by
  simp only [look, cond_eq_ite] at hu
  by_cases e : s = t
  · subst e; rw [ht]; simpa using hu
  · have e' : Nat.beq s t = false := Bool.eq_false_iff.2 fun h => e (Nat.eq_of_beq_eq_true h)
    rw [e'] at hu
    exact h.at_ s u (by simpa using hu)⟩
end
end Go.Proofs.Ythffgbhphjkdeaa
namespace Go.Proofs.Ythffgbhphjkdeaa
open Go.RowKit

/-- A struct's or an array's type, of n cells. -/
class TRow (P : Program) (T : TypeId) (n : outParam Nat) : Prop where
  h : (∃ d, P.underlying T = some d ∧ d.isRow = true) ∧ (P.info? T).map (·.size) = some n
/-- A type of one cell. -/
class TOne (P : Program) (T : TypeId) : Prop where
  h : (∃ d, P.underlying T = some d ∧ d.isRow = false) ∧ (P.info? T).map (·.size) = some 1
/-- Where a field lies. -/
class TFld (P : Program) (T j : Nat) (off : outParam Nat) : Prop where
  h : ∃ fs f k, P.underlying T = some (.struct fs) ∧ fs[j]? = some f ∧ f.offset = off ∧ (P.info? f.type).map (·.size) = some (k + 1)
/-- A slice's type. -/
class TSl (P : Program) (T : TypeId) (e sz : outParam Nat) : Prop where
  h : P.underlying T = some (.slice e) ∧ (P.info? e).map (·.size) = some sz
/-- A type's zero value. -/
class TZero (P : Program) (T : TypeId) (c : outParam (List Value)) : Prop where
  h : ∃ v, (P.info? T).map (·.zero) = some (some v) ∧ v.cells = c.toArray
class TBool (P : Program) (T : TypeId) : Prop where
  h : P.underlying T = some .bool
/-- A function with a body. -/
class TFun (P : Program) (f : FuncId) : Prop where
  h : ∃ fn, P.funcs[f]? = some fn ∧ (fn.name == "runtime.NumGoroutine") = false ∧ fn.body.isNone = false

section
variable {P : Program} {n : Nat} {W : World} {R : Rg W} {L : List Blk} {O : List Own} {E : List Res} {f : List (Nat × Value)} {Q : Exit → Act → World → Prop} {ops : Array Oper} {rest : List Oper}
variable {d : Option Nat} {dn : Nat} {x y : Operand} {ty T T' : TypeId} {pos : String} {af : Array Edge} {gd : Option (Nat × Bool)}

theorem OpW.move {v : Value} (hx : evO f x = some v) : OpW P n W R L O E f ⟨d, .move x, ty, pos, af, gd⟩ (v) :=
  OpW.of (fun a w hf _ => by show Result.ok (Next.value (a.eval x)) w = _; rw [hf.eval hx])
theorem OpW.assign {v : Value} (hx : evO f x = some v) : OpW P n W R L O E f ⟨d, .assign x, ty, pos, af, gd⟩ (v) :=
  OpW.of (fun a w hf _ => by show Result.ok (Next.value (a.eval x)) w = _; rw [hf.eval hx])
theorem OpW.pick {c : Operand} {b : Bool} {u v : Value} (hc : evO f c = some (.bool b)) (hx : evO f x = some u) (hy : evO f y = some v) : OpW P n W R L O E f ⟨d, .pick c x y, ty, pos, af, gd⟩ (bif b then u else v) :=
  OpW.of (fun a w hf _ => by simp only [execOp, hf.eval hc, hf.eval hx, hf.eval hy]; cases b <;> simp [asBool])

theorem OpW.bin {op : BinOp} {u v z : Value} (hx : evO f x = some u) (hy : evO f y = some v) (hg : eqGuard op T x y u v = pure ()) (hr : ∀ w, (binOp op T u v).run P w = .ok z w) : OpW P n W R L O E f ⟨d, .binOp op T x y T', ty, pos, af, gd⟩ (z) :=
  OpW.of (fun a w hf _ => by simp [execOp, hf.eval hx, hf.eval hy, hg, hr w])
variable {k : IntKind} {p q : Int}
theorem OpW.add (hx : evO f x = some (.int k p)) (hy : evO f y = some (.int k q)) : OpW P n W R L O E f ⟨d, .binOp .add T x y T', ty, pos, af, gd⟩ (.int k (k.wrap (p + q))) := OpW.bin hx hy rfl (fun w => by simp [go_sem])
theorem OpW.sub (hx : evO f x = some (.int k p)) (hy : evO f y = some (.int k q)) : OpW P n W R L O E f ⟨d, .binOp .sub T x y T', ty, pos, af, gd⟩ (.int k (k.wrap (p - q))) := OpW.bin hx hy rfl (fun w => by simp [go_sem])
theorem OpW.rem (hq : q ≠ 0) (hx : evO f x = some (.int k p)) (hy : evO f y = some (.int k q)) : OpW P n W R L O E f ⟨d, .binOp .rem T x y T', ty, pos, af, gd⟩ (.int k (p.tmod q)) := OpW.bin hx hy rfl (fun w => by simp [go_sem, hq])
theorem OpW.lss (hx : evO f x = some (.int k p)) (hy : evO f y = some (.int k q)) : OpW P n W R L O E f ⟨d, .binOp .lss T x y T', ty, pos, af, gd⟩ (.bool (decide (p < q))) := OpW.bin hx hy rfl (fun w => by simp [go_sem])
theorem OpW.gtr (hx : evO f x = some (.int k p)) (hy : evO f y = some (.int k q)) : OpW P n W R L O E f ⟨d, .binOp .gtr T x y T', ty, pos, af, gd⟩ (.bool (decide (q < p))) := OpW.bin hx hy rfl (fun w => by simp [go_sem])
theorem OpW.eql (hx : evO f x = some (.int k p)) (hy : evO f y = some (.int k q)) : OpW P n W R L O E f ⟨d, .binOp .eql T x y T', ty, pos, af, gd⟩ (.bool (decide (p = q))) := OpW.bin hx hy (eqGuard_at_int ..) (fun w => by simp [go_sem]; rfl)
theorem OpW.neq (hx : evO f x = some (.int k p)) (hy : evO f y = some (.int k q)) : OpW P n W R L O E f ⟨d, .binOp .neq T x y T', ty, pos, af, gd⟩ (.bool (!decide (p = q))) := OpW.bin hx hy (eqGuard_at_int ..) (fun w => by simp [go_sem]; rfl)
theorem OpW.not {p : Bool} (hx : evO f x = some (.bool p)) : OpW P n W R L O E f ⟨d, .unOp .not T x, ty, pos, af, gd⟩ (.bool (!p)) :=
  OpW.of (fun a w hf _ => by simp only [execOp, hf.eval hx]; simp [go_sem, Op.unary])
theorem OpW.lssT (hx : evO f x = some (.int k p)) (hy : evO f y = some (.int k q)) (hp : p < q) : OpW P n W R L O E f ⟨d, .binOp .lss T x y T', ty, pos, af, gd⟩ (.bool true) := by
  have := OpW.lss (P := P) (n := n) (W := W) (R := R) (L := L) (O := O) (E := E) (d := d) (T := T) (T' := T') (ty := ty) (pos := pos) (af := af) (gd := gd) hx hy
  simpa [hp] using this
theorem OpW.lssF (hx : evO f x = some (.int k p)) (hy : evO f y = some (.int k q)) (hp : ¬ (p < q)) : OpW P n W R L O E f ⟨d, .binOp .lss T x y T', ty, pos, af, gd⟩ (.bool false) := by
  have := OpW.lss (P := P) (n := n) (W := W) (R := R) (L := L) (O := O) (E := E) (d := d) (T := T) (T' := T') (ty := ty) (pos := pos) (af := af) (gd := gd) hx hy
  simpa [hp] using this
theorem OpW.gtrT (hx : evO f x = some (.int k p)) (hy : evO f y = some (.int k q)) (hp : q < p) : OpW P n W R L O E f ⟨d, .binOp .gtr T x y T', ty, pos, af, gd⟩ (.bool true) := by
  have := OpW.gtr (P := P) (n := n) (W := W) (R := R) (L := L) (O := O) (E := E) (d := d) (T := T) (T' := T') (ty := ty) (pos := pos) (af := af) (gd := gd) hx hy
  simpa [hp] using this
theorem OpW.gtrF (hx : evO f x = some (.int k p)) (hy : evO f y = some (.int k q)) (hp : ¬ (q < p)) : OpW P n W R L O E f ⟨d, .binOp .gtr T x y T', ty, pos, af, gd⟩ (.bool false) := by
  have := OpW.gtr (P := P) (n := n) (W := W) (R := R) (L := L) (O := O) (E := E) (d := d) (T := T) (T' := T') (ty := ty) (pos := pos) (af := af) (gd := gd) hx hy
  simpa [hp] using this
theorem OpW.neqF (hx : evO f x = some (.int k p)) (hy : evO f y = some (.int k q)) (hp : p = q) : OpW P n W R L O E f ⟨d, .binOp .neq T x y T', ty, pos, af, gd⟩ (.bool false) := by
  have := OpW.neq (P := P) (n := n) (W := W) (R := R) (L := L) (O := O) (E := E) (d := d) (T := T) (T' := T') (ty := ty) (pos := pos) (af := af) (gd := gd) hx hy
  simpa [hp] using this
theorem wrap_in {a : Int} (h0 : -9223372036854775808 ≤ a) (h1 : a ≤ 9223372036854775807) : IntKind.i64.wrap a = a := by
  simp [IntKind.wrap, IntKind.bits, IntKind.signed]; omega
theorem OpW.addi {p q : Int} (hx : evO f x = some (.int .i64 p)) (hy : evO f y = some (.int .i64 q)) (h0 : -9223372036854775808 ≤ p + q) (h1 : p + q ≤ 9223372036854775807) : OpW P n W R L O E f ⟨d, .binOp .add T x y T', ty, pos, af, gd⟩ (.int .i64 (p + q)) := by
  have := OpW.add (P := P) (n := n) (W := W) (R := R) (L := L) (O := O) (E := E) (d := d) (T := T) (T' := T') (ty := ty) (pos := pos) (af := af) (gd := gd) hx hy
  rwa [wrap_in h0 h1] at this
theorem OpW.succ {i : Nat} (hx : evO f x = some (.int .i64 (i : Int))) (hy : evO f y = some (.int .i64 1)) (h1 : i + 1 ≤ 9223372036854775807) : OpW P n W R L O E f ⟨d, .binOp .add T x y T', ty, pos, af, gd⟩ (.int .i64 ((i + 1 : Nat) : Int)) := by
  have := OpW.addi (P := P) (n := n) (W := W) (R := R) (L := L) (O := O) (E := E) (d := d) (T := T) (T' := T') (ty := ty) (pos := pos) (af := af) (gd := gd) hx hy (by omega) (by omega)
  exact this
/-! ### Memory -/
variable {g o j : Nat} {cells : List Value}
theorem run_field {b o j off : Nat} [t : TFld P T j off] (w : World) : (Instr.fieldAt T (.pointer (some ⟨b, o, none⟩)) j).run P w = .ok (.pointer (some ⟨b, o + off, none⟩)) w := by
  obtain ⟨fs, f, k, h1, h2, h3, h4⟩ := t.h
  obtain ⟨i, hi, hs⟩ := Option.map_eq_some_iff.1 h4
  simp [Instr.fieldAt, run_underlying h1, h2, Instr.sureAddr, fieldPlace, sizeOf, typeInfo, hi, hs, h3, go_sem]
theorem OpW.fieldAddr {off : Nat} [TFld P T j off] (hx : evO f x = some (.pointer (some ⟨g, o, none⟩))) : OpW P n W R L O E f ⟨d, .fieldAddr T x j, ty, pos, af, gd⟩ (.pointer (some ⟨g, o + off, none⟩)) :=
  OpW.of (fun a w hf _ => by simp [execOp, hf.eval hx, run_field])
theorem run_load1 [t : TOne P T] {w : World} {v : Value} (h : w.cell? ⟨g, o, none⟩ = some v) : (Instr.loadAt T (.pointer (some ⟨g, o, none⟩))).run P w = .ok v w := by
  obtain ⟨⟨d, h1, h2⟩, h3⟩ := t.h
  have : (isAgg T).run P w = .ok false w := by
    cases d <;> simp_all [isAgg, run_underlying h1, TypeDesc.isRow]
  simp [Instr.loadAt, Instr.sureAddr, loadVar, this, h]
theorem Loc.cell {i : Nat} {w : World} (h : Loc W R L O E w) (hi : L[i]? = some ⟨g, cells, T⟩) {v : Value} (hv : cells[o]? = some v) : w.cell? ⟨g, o, none⟩ = some v :=
  blk_cell (h.blk _ (List.mem_iff_getElem?.2 ⟨i, hi⟩)).2 hv
theorem Loc.old {w : World} (h : Loc W R L O E w) {p : Addr} {v : Value} (hv : W.cell? p = some v) (hr : ¬ R.p p.block) : w.cell? p = some v := by
  rw [h.mod.cell (World.block_lt_of_cell? W p hv) hr]; exact hv
/-- One cell, of a block of the call's own. -/
theorem OpW.load {v : Value} (i : Nat) [TOne P T] (hx : evO f x = some (.pointer (some ⟨g, o, none⟩))) (hi : L[i]? = some ⟨g, cells, T'⟩) (hv : cells[o]? = some v) : OpW P n W R L O E f ⟨d, .load T x, ty, pos, af, gd⟩ (v) :=
  OpW.of (fun a w hf hl => by simp [execOp, hf.eval hx, run_load1 (hl.cell hi hv)])
/-- One cell of old memory. -/
theorem OpW.loadOld {v : Value} {p : Nat} [TOne P T] (hx : evO f x = some (.pointer (some ⟨p, o, none⟩))) (hv : W.cell? ⟨p, o, none⟩ = some v) (hr : ¬ R.p p) : OpW P n W R L O E f ⟨d, .load T x, ty, pos, af, gd⟩ (v) :=
  OpW.of (fun a w hf hl => by simp [execOp, hf.eval hx, run_load1 (hl.old hv hr)])
/-- A whole struct, of a block of the call's own. -/
theorem OpW.loadRow {m : Nat} (i : Nat) [t : TRow P T m] (hx : evO f x = some (.pointer (some ⟨g, o, none⟩))) (hi : L[i]? = some ⟨g, cells, T'⟩) (hm : Nat.ble (o + m) cells.length = true) {r : List Value} (hr : (cells.drop o).take m = r) : OpW P n W R L O E f ⟨d, .load T x, ty, pos, af, gd⟩ (.agg r.toArray) :=
  OpW.of (fun a w hf hl => by
    obtain ⟨⟨d, h1, h2⟩, h3⟩ := t.h
    have hb := (hl.blk _ (List.mem_iff_getElem?.2 ⟨i, hi⟩)).2
    have hm' : o + m ≤ cells.length := by simpa using hm
    have e := run_load_row h1 h2 h3 (w := w) (b := g) (o := o) (by simp [hasRow, hb, hm'])
    have e2 : rowOf w g o m = r.toArray := by
      rw [← hr]; unfold rowOf; rw [hb]; simp [List.extract_toArray, List.extract_eq_take_drop]
    simp [execOp, hf.eval hx, e, e2])
theorem OpW.loadAll {m : Nat} (i : Nat) [t : TRow P T m] (hx : evO f x = some (.pointer (some ⟨g, 0, none⟩))) (hi : L[i]? = some ⟨g, cells, T'⟩) (hm : cells.length = m) : OpW P n W R L O E f ⟨d, .load T x, ty, pos, af, gd⟩ (.agg cells.toArray) :=
  OpW.loadRow i hx hi (by simp [hm]) (by rw [List.drop_zero, List.take_of_length_le (by omega)])
theorem run_store1 [t : TOne P T] {w : World} {u v : Value} (h : w.cell? ⟨g, o, none⟩ = some u) (hz : w.frozen? ⟨g, o, none⟩ = false) (hv : v.oneCell' = true) : (Instr.storeAt T (.pointer (some ⟨g, o, none⟩)) v).run P w = .ok () (w.setCell ⟨g, o, none⟩ v) := by
  obtain ⟨_, h3⟩ := t.h
  obtain ⟨i, hi, hs⟩ := Option.map_eq_some_iff.1 h3
  have hc : v.cells = #[v] := by cases v <;> simp_all [Value.oneCell', Value.cells]
  have ea : (⟨g, o, none⟩ : Addr).add 0 = ⟨g, o, none⟩ := Addr.add_zero' _
  simp [Instr.storeAt, Instr.sureAddr, storeVar, sizeOf, typeInfo, hi, hs, hc, storeCells, run_store P w _ v _ hv, ea, h, hz]
theorem SXl.store {v : Value} {L' : List Blk} (i : Nat) [TOne P T] (hw : wantO ops f ⟨none, .store T x y, ty, pos, af, gd⟩ = some true) (hx : evO f x = some (.pointer (some ⟨g, o, none⟩))) (hy : evO f y = some v) (hi : L[i]? = some ⟨g, cells, T'⟩) (ho : Nat.blt o cells.length = true) (hv : v.oneCell' = true) (hL : L.set i ⟨g, cells.set o v, T'⟩ = L') (h : SXl P n W R ops L' O E f rest Q) : SXl P n W R ops L O E f (⟨none, .store T x y, ty, pos, af, gd⟩ :: rest) Q :=
  SXl.steps hw rfl (fun a w hf hl => by
    have ho' : o < cells.length := by simpa using ho
    have hb := (hl.blk _ (List.mem_iff_getElem?.2 ⟨i, hi⟩)).2
    refine ⟨w.setCell ⟨g, o, none⟩ v, ?_, hL ▸ hl.set hi v⟩
    simp [execOp, hf.eval hx, hf.eval hy, run_store1 (hl.cell hi (List.getElem?_eq_getElem ho')) (blk_free hb o) hv]) h
/-- A list written over another from a place on. -/
def over : List Value → Nat → List Value → List Value
  | c, _, [] => c
  | c, o, v :: r => over (c.set o v) (o + 1) r
theorem spl_over : ∀ (r c : List Value) (o : Nat), spl c.toArray o r = (over c o r).toArray
  | [], _, _ => rfl
  | v :: r, c, o => by
    simp only [spl, over]
    rw [← spl_over r (c.set o v) (o + 1)]
    simp
theorem mod_setCells (g : Nat) : ∀ (r : List Value) (o : Nat) (w : World), Mod (fun k => k = g) w (w.setCells g o r)
  | [], _, w => Mod.refl _ w
  | v :: r, o, w => ((Mod.refl _ w).setAt o none v).trans (mod_setCells g r (o + 1) _)
theorem SXl.storeRow {m : Nat} {r : List Value} {L' : List Blk} (i : Nat) [t : TRow P T m] (hw : wantO ops f ⟨none, .store T x y, ty, pos, af, gd⟩ = some true) (hx : evO f x = some (.pointer (some ⟨g, o, none⟩))) (hy : evO f y = some (.agg r.toArray)) (hi : L[i]? = some ⟨g, cells, T'⟩) (ho : Nat.ble (o + m) cells.length = true) (hm : r.length = m) (hv : r.all (·.oneCell') = true) (hL : L.set i ⟨g, over cells o r, T'⟩ = L') (h : SXl P n W R ops L' O E f rest Q) : SXl P n W R ops L O E f (⟨none, .store T x y, ty, pos, af, gd⟩ :: rest) Q :=
  SXl.steps hw rfl (fun a w hf hl => by
    obtain ⟨_, h3⟩ := t.h
    have ho' : o + m ≤ cells.length := by simpa using ho
    have hb := (hl.blk _ (List.mem_iff_getElem?.2 ⟨i, hi⟩)).2
    have e := run_store_row (P := P) (ty := T) h3 (w := w) (b := g) (o := o) (S := r.toArray) (by simp [hasRow, hb, ho']) (by simp [openRow, hb]) (by simpa using hm) (by simpa using hv)
    refine ⟨w.setCells g o r, by simp [execOp, hf.eval hx, hf.eval hy, e], hL ▸ hl.turned hi (mod_setCells g r o w) ?_⟩
    rw [setCells_heap g r o w _ _ _ hb, spl_over]) h
theorem over_all : ∀ (r c : List Value) (p : List Value), r.length = c.length → over (p ++ c) p.length r = p ++ r
  | [], c, p, h => by cases c <;> simp_all [over]
  | v :: r, [], p, h => by simp at h
  | v :: r, u :: c, p, h => by
    have h' : r.length = c.length := by simpa using h
    have e : (p ++ u :: c).set p.length v = (p ++ [v]) ++ c := by simp
    have := over_all r c (p ++ [v]) h'
    rw [over, e]
    rw [List.length_append, List.length_singleton] at this
    rw [this]
    simp
theorem SXl.storeAll {m : Nat} {r : List Value} {L' : List Blk} (i : Nat) [t : TRow P T m] (hw : wantO ops f ⟨none, .store T x y, ty, pos, af, gd⟩ = some true) (hx : evO f x = some (.pointer (some ⟨g, 0, none⟩))) (hy : evO f y = some (.agg r.toArray)) (hi : L[i]? = some ⟨g, cells, T'⟩) (hc : cells.length = m) (hm : r.length = m) (hv : r.all (·.oneCell') = true) (hL : L.set i ⟨g, r, T'⟩ = L') (h : SXl P n W R ops L' O E f rest Q) : SXl P n W R ops L O E f (⟨none, .store T x y, ty, pos, af, gd⟩ :: rest) Q :=
  SXl.storeRow i hw hx hy hi (by simp [hc]) hm hv (by have := over_all r cells [] (by omega); simp only [List.nil_append, List.length_nil] at this; rw [this]; exact hL) h
theorem SXl.alloc {c : List Value} [t : TZero P T c] (hw : wantO ops f ⟨some dn, .alloc T, ty, pos, af, gd⟩ = some true) (hd : Nat.blt dn n = true) (h : ∀ g, SXl P n W R ops (⟨g, c, T⟩ :: L) O E ((dn, .pointer (some ⟨g, 0, none⟩)) :: f) rest Q) : SXl P n W R ops L O E f (⟨some dn, .alloc T, ty, pos, af, gd⟩ :: rest) Q :=
  SXl.stepn (V := fun g => .pointer (some ⟨g, 0, none⟩)) (O' := fun _ => O) hw rfl hd (fun a w hf hl => by
    obtain ⟨v, h1, h2⟩ := t.h
    obtain ⟨i, hi, hz⟩ := Option.map_eq_some_iff.1 h1
    refine ⟨w.heap.size, w.alloc (.cells c.toArray T), ?_, hl.alloc c T⟩
    simp [execOp, Instr.alloc, zeroValue, typeInfo, hi, hz, newVar, newRow, h2]) h
theorem SXl.box {v : Value} {c : List Value} (hw : wantO ops f ⟨some dn, .box T x, ty, pos, af, gd⟩ = some true) (hd : Nat.blt dn n = true) (hx : evO f x = some v) (hv : v.cells = c.toArray) (h : ∀ g, SXl P n W R ops (⟨g, c, T⟩ :: L) O E ((dn, .pointer (some ⟨g, 0, none⟩)) :: f) rest Q) : SXl P n W R ops L O E f (⟨some dn, .box T x, ty, pos, af, gd⟩ :: rest) Q :=
  SXl.stepn (V := fun g => .pointer (some ⟨g, 0, none⟩)) (O' := fun _ => O) hw rfl hd (fun a w hf hl => by
    refine ⟨w.heap.size, w.alloc (.cells c.toArray T), ?_, hl.alloc c T⟩
    simp [execOp, hf.eval hx, Instr.box, newVar, newRow, hv]) h
theorem run_call {fn : FuncId} [t : TFun P fn] {w : World} (args : Array Value) : (callFunc fn args).run P w = .ok (.enter fn args) w := by
  obtain ⟨x, h1, h2, h3⟩ := t.h
  have h2' : ¬ x.name = "runtime.NumGoroutine" := by simpa using h2
  have h3' : ¬ x.body = none := by intro e; rw [e] at h3; cases h3
  simp [callFunc, h1, h2', h3']
/-- What operands hold. -/
def evL (f : List (Nat × Value)) : List Operand → Option (List Value)
  | [] => some []
  | x :: l => match evO f x, evL f l with
    | some v, some vs => some (v :: vs)
    | _, _ => none
theorem evL_map {a : Act} (hf : Fr n f a) : ∀ (l : List Operand) (vs : List Value), evL f l = some vs → l.map a.eval = vs
  | [], vs, h => by simpa [evL] using h
  | x :: l, vs, h => by
    unfold evL at h
    cases hx : evO f x with
    | none => simp [hx] at h
    | some v =>
      cases hl : evL f l with
      | none => simp [hx, hl] at h
      | some us =>
        simp only [hx, hl, Option.some.injEq] at h
        subst h
        rw [List.map_cons, hf.eval hx, evL_map hf l us hl]
theorem run_callop {fn : FuncId} {ars : List Operand} {args : List Value} {aT : Array TypeId} [TFun P fn] {a : Act} (hf : Fr n f a) (ha : evL f ars = some args) (w : World) (dd : Option Tmp) (g : Option (Nat × Bool)) :
    (execOp a.eval ⟨dd, .call ⟨.value (.func fn), ars.toArray, aT⟩, ty, pos, af, g⟩).run P w = .ok (.enter fn args.toArray) w := by
  have e := evL_map hf ars args ha
  have e2 : Act.eval a (.func fn) = .func (.func fn) #[] #[] := rfl
  simp [execOp, resolve, e2, Deferred.ofValue, invoke, e, run_call]
/-- A call whose value is known. -/
theorem OpW.call {v : Value} {fn : FuncId} {ars : List Operand} {args : List Value} {aT : Array TypeId} [TFun P fn] (ha : evL f ars = some args)
    (hc : ∀ w, Loc W R L O E w → Calls P fn args.toArray w fun e w' => e = .returned v ∧ Mod (fun _ => False) w w') : OpW P n W R L O E f ⟨d, .call ⟨.value (.func fn), ars.toArray, aT⟩, ty, pos, af, gd⟩ v :=
  OpW.enter (fun _ w hf _ => run_callop hf ha w _ _) hc
/-- A call that leaves the world as it is. -/
theorem OpW.calls {v : Value} {fn : FuncId} {ars : List Operand} {args : List Value} {aT : Array TypeId} [TFun P fn] (ha : evL f ars = some args)
    (hc : ∀ w, Loc W R L O E w → Calls P fn args.toArray w fun e w' => e = .returned v ∧ w = w') : OpW P n W R L O E f ⟨d, .call ⟨.value (.func fn), ars.toArray, aT⟩, ty, pos, af, gd⟩ v :=
  OpW.call ha (fun w hl => (hc w hl).mono fun _ _ ⟨h1, h2⟩ => ⟨h1, h2 ▸ Mod.refl _ _⟩)
/-- A call that hands back new memory. -/
theorem SXl.calln {ξ : Type} {v : ξ → Value} {F1 : ξ → Res} {fn : FuncId} {ars : List Operand} {args : List Value} {aT : Array TypeId} [TFun P fn] (hw : wantO ops f ⟨some dn, .call ⟨.value (.func fn), ars.toArray, aT⟩, ty, pos, af, gd⟩ = some true) (hd : Nat.blt dn n = true) (ha : evL f ars = some args)
    (hc : ∀ w, Loc W R L O E w → Calls P fn args.toArray w (NewR ξ v F1 w))
    (h : ∀ x, SXl P n W R ops L O (F1 x :: E) ((dn, v x) :: f) rest Q) : SXl P n W R ops L O E f (⟨some dn, .call ⟨.value (.func fn), ars.toArray, aT⟩, ty, pos, af, gd⟩ :: rest) Q :=
  SXl.callx hw rfl hd (fun _ w hf _ => run_callop hf ha w _ _) hc h
/-! ### Slices -/
theorem run_index {e sz : Nat} [t : TSl P T e sz] {b o len cap i : Nat} (hi : i < len) (w : World) : (Instr.indexAt T (.slice (some ⟨b, o, none⟩) len cap) (.int .i64 (i : Int))).run P w = .ok (.pointer (some ⟨b, o + i * sz, none⟩)) w := by
  obtain ⟨h1, h2⟩ := t.h
  obtain ⟨ti, hti, hs⟩ := Option.map_eq_some_iff.1 h2
  have : (0 : Int) ≤ i ∧ (i : Int) < len := by omega
  simp [Instr.indexAt, run_underlying h1, asIntOf, sizeOf, typeInfo, hti, hs, go_sem]
  intro; omega
theorem OpW.indexAddr {e sz b len cap i : Nat} [TSl P T e sz] (hi : i < len) (hx : evO f x = some (.slice (some ⟨b, o, none⟩) len cap)) (hy : evO f y = some (.int .i64 (i : Int))) : OpW P n W R L O E f ⟨d, .indexAddr T x y, ty, pos, af, gd⟩ (.pointer (some ⟨b, o + i * sz, none⟩)) :=
  OpW.of (fun a w hf _ => by simp [execOp, hf.eval hx, hf.eval hy, run_index hi])
theorem OpW.len {e sz l c : Nat} {b : Option Addr} [t : TSl P T e sz] (hx : evO f x = some (.slice b l c)) : OpW P n W R L O E f ⟨d, .call ⟨.builtin .len, #[x], #[T]⟩, ty, pos, af, gd⟩ (.int .i64 (l : Int)) :=
  OpW.of (fun a w hf _ => by simp [execOp, resolve, invoke, builtin, hf.eval hx, Builtin.len_, run_underlying t.h.1, goInt])
theorem OpW.extract {vs : List Value} {j : Nat} {v : Value} (hx : evO f x = some (.tuple vs.toArray)) (hv : vs[j]? = some v) : OpW P n W R L O E f ⟨d, .extract x j, ty, pos, af, gd⟩ (v) :=
  OpW.of (fun a w hf _ => by simp [execOp, hf.eval hx, Instr.extract, hv])
/-! ### Old memory that the call turns -/
theorem OpW.loadJ {v : Value} {p : Nat} [TOne P T] (hx : evO f x = some (.pointer (some ⟨p, o, none⟩))) (hJ : ∀ w, R.J w → w.cell? ⟨p, o, none⟩ = some v) : OpW P n W R L O E f ⟨d, .load T x, ty, pos, af, gd⟩ v :=
  OpW.of (fun a w hf hl => by simp [execOp, hf.eval hx, run_load1 (hJ w hl.inv)])
theorem SXl.storeJ {v : Value} {p : Nat} [TOne P T] (hp : R.p p) (hq : ¬ R.q p) (hw : wantO ops f ⟨none, .store T x y, ty, pos, af, gd⟩ = some true) (hx : evO f x = some (.pointer (some ⟨p, o, none⟩))) (hy : evO f y = some v) (hv : v.oneCell' = true)
    (hJ : ∀ w, R.J w → (∃ u, w.cell? ⟨p, o, none⟩ = some u) ∧ w.frozen? ⟨p, o, none⟩ = false ∧ R.J (w.setCell ⟨p, o, none⟩ v)) (h : SXl P n W R ops L O [] f rest Q) : SXl P n W R ops L O [] f (⟨none, .store T x y, ty, pos, af, gd⟩ :: rest) Q :=
  SXl.steps hw rfl (fun a w hf hl => by
    obtain ⟨⟨u, hu⟩, hz, hj⟩ := hJ w hl.inv
    have hlow := R.low p hp
    refine ⟨w.setCell ⟨p, o, none⟩ v, by simp [execOp, hf.eval hx, hf.eval hy, run_store1 hu hz hv], ?_⟩
    have hm : Mod (fun k => k = p) w (w.setCell ⟨p, o, none⟩ v) := (Mod.refl _ w).setAt _ _ _
    exact {
      mod := hl.mod.then hm fun k _ e => e ▸ hp
      inv := hj
      blk := fun b hb => ⟨(hl.blk b hb).1, hm.blk (hl.blk b hb).2 fun e => by
        rcases (hl.blk b hb).1 with h1 | h1
        · exact hq (e ▸ h1)
        · omega⟩
      apart := hl.apart
      own := fun q hq' => ⟨ownsRow_keep (hl.own q hq').1 hm fun k hk e => by have := (ownBlock_lt (hl.own q hq').1 hk).1; omega, (hl.own q hq').2⟩
      ownApart := hl.ownApart
      res := fun F hF => by cases hF
      resNew := fun F hF => by cases hF
      resApart := .nil }) h
/-- A call that turns such memory. -/
theorem SXl.callJ {ξ : Type} {v : ξ → Value} {fn : FuncId} {ars : List Operand} {args : List Value} {aT : Array TypeId} [TFun P fn] (hq : ∀ k, ¬ R.q k) (hw : wantO ops f ⟨some dn, .call ⟨.value (.func fn), ars.toArray, aT⟩, ty, pos, af, gd⟩ = some true) (hd : Nat.blt dn n = true) (ha : evL f ars = some args) (K : ξ → Prop)
    (hc : ∀ w, Loc W R L O [] w → Calls P fn args.toArray w fun e w' => ∃ x, e = .returned (v x) ∧ K x ∧ Mod R.p w w' ∧ R.J w')
    (h : ∀ x, K x → SXl P n W R ops L O [] ((dn, v x) :: f) rest Q) : SXl P n W R ops L O [] f (⟨some dn, .call ⟨.value (.func fn), ars.toArray, aT⟩, ty, pos, af, gd⟩ :: rest) Q := ⟨fun a w hf hl => by
  unfold wpList
  rw [if_pos (wanted_of hf hw)]
  refine .inl ?_
  unfold Oper.wp
  rw [run_callop hf ha w _ _, Oper.upon_enter]
  refine (hc w hl).mono ?_
  rintro e w' ⟨x, rfl, hk, hm, hj⟩
  refine (h x hk).run _ _ (hf.put hd _) ?_
  exact {
    mod := hl.mod.then hm fun _ _ h => h
    inv := hj
    blk := fun b hb => ⟨(hl.blk b hb).1, hm.blk (hl.blk b hb).2 fun e => by
      have h1 := R.low _ e
      rcases (hl.blk b hb).1 with h2 | h2
      · exact hq _ h2
      · omega⟩
    apart := hl.apart
    own := fun q hq' => ⟨ownsRow_keep (hl.own q hq').1 hm fun k hk e => by have := (ownBlock_lt (hl.own q hq').1 hk).1; have := R.low _ e; omega, (hl.own q hq').2⟩
    ownApart := hl.ownApart
    res := fun F hF => by cases hF
    resNew := fun F hF => by cases hF
    resApart := .nil }⟩
theorem SXl.callJ1 {v : Value} {fn : FuncId} {ars : List Operand} {args : List Value} {aT : Array TypeId} [TFun P fn] (hq : ∀ k, ¬ R.q k) (hw : wantO ops f ⟨some dn, .call ⟨.value (.func fn), ars.toArray, aT⟩, ty, pos, af, gd⟩ = some true) (hd : Nat.blt dn n = true) (ha : evL f ars = some args)
    (hc : ∀ w, Loc W R L O [] w → Calls P fn args.toArray w fun e w' => e = .returned v ∧ Mod R.p w w' ∧ R.J w')
    (h : SXl P n W R ops L O [] ((dn, v) :: f) rest Q) : SXl P n W R ops L O [] f (⟨some dn, .call ⟨.value (.func fn), ars.toArray, aT⟩, ty, pos, af, gd⟩ :: rest) Q :=
  SXl.callJ (ξ := Unit) (v := fun _ => v) hq hw hd ha (fun _ => True) (fun w hl => (hc w hl).mono fun _ _ ⟨h1, h2, h3⟩ => ⟨(), h1, trivial, h2, h3⟩) fun _ _ => h
/-- A call that turns the memory that a fact speaks of. -/
theorem SXl.callM {ξ : Type} {v : ξ → Value} {F : Res} {F' : ξ → Res} {fn : FuncId} {ars : List Operand} {args : List Value} {aT : Array TypeId} [TFun P fn] (i : Nat) (hw : wantO ops f ⟨some dn, .call ⟨.value (.func fn), ars.toArray, aT⟩, ty, pos, af, gd⟩ = some true) (hd : Nat.blt dn n = true) (ha : evL f ars = some args) (hi : E[i]? = some F) (hsub : ∀ x k, (F' x).foot k → F.foot k) (K : ξ → Prop)
    (hc : ∀ w, Loc W R L O E w → Calls P fn args.toArray w fun e w' => ∃ x, e = .returned (v x) ∧ K x ∧ (F' x).says w' ∧ Mod F.foot w w')
    (h : ∀ x, K x → SXl P n W R ops L O (E.set i (F' x)) ((dn, v x) :: f) rest Q) : SXl P n W R ops L O E f (⟨some dn, .call ⟨.value (.func fn), ars.toArray, aT⟩, ty, pos, af, gd⟩ :: rest) Q :=
  SXl.callm i hw rfl hd (fun _ w hf _ => run_callop hf ha w _ _) hi hsub hc h
theorem SXl.callJ2 {ξ : Type} {v : ξ → Value} {fn : FuncId} {ars : List Operand} {args : List Value} {aT : Array TypeId} [TFun P fn] (R2 : Rg W) (hp : ∀ k, R.p k → R2.p k) (hq : ∀ k, ¬ R.q k) (hw : wantO ops f ⟨some dn, .call ⟨.value (.func fn), ars.toArray, aT⟩, ty, pos, af, gd⟩ = some true) (hd : Nat.blt dn n = true) (ha : evL f ars = some args) (K : ξ → Prop)
    (hc : ∀ w, Loc W R L O [] w → Calls P fn args.toArray w fun e w' => ∃ x, e = .returned (v x) ∧ K x ∧ Mod R2.p w w' ∧ R2.J w')
    (h : ∀ x, K x → SXl P n W R2 ops L O [] ((dn, v x) :: f) rest Q) : SXl P n W R ops L O [] f (⟨some dn, .call ⟨.value (.func fn), ars.toArray, aT⟩, ty, pos, af, gd⟩ :: rest) Q := ⟨fun a w hf hl => by
  unfold wpList
  rw [if_pos (wanted_of hf hw)]
  refine .inl ?_
  unfold Oper.wp
  rw [run_callop hf ha w _ _, Oper.upon_enter]
  refine (hc w hl).mono ?_
  rintro e w' ⟨x, rfl, hk, hm, hj⟩
  refine (h x hk).run _ _ (hf.put hd _) ?_
  exact {
    mod := (hl.mod.mono fun k _ h => hp k h).then hm fun _ _ h => h
    inv := hj
    blk := fun b hb => ⟨.inr ((hl.blk b hb).1.resolve_left (hq _)), hm.blk (hl.blk b hb).2 fun e => by
      have h1 := R2.low _ e
      have h2 := (hl.blk b hb).1.resolve_left (hq _)
      omega⟩
    apart := hl.apart
    own := fun q hq' => ⟨ownsRow_keep (hl.own q hq').1 hm fun k hk e => by have := (ownBlock_lt (hl.own q hq').1 hk).1; have := R2.low _ e; omega, (hl.own q hq').2⟩
    ownApart := hl.ownApart
    res := fun F hF => by cases hF
    resNew := fun F hF => by cases hF
    resApart := .nil }⟩
end
end Go.Proofs.Ythffgbhphjkdeaa
namespace Go.Proofs.Ythffgbhphjkdeaa
open Go.RowKit

section
variable {P : Program} {t e sz by_ : Nat} {i0 : TypeInfo} {z : Value} {α : Type} {cells : α → List Value}

/-- What a copy of xs hands back. -/
def CopyAt (cells : α → List Value) (sz : Nat) (W : World) (l : List α) (w : World) (v : Value) : Prop := ∃ a c, v = .slice a l.length c ∧ SliceAt (Flat cells) sz (fun k => W.heap.size ≤ k) w a l
/-- The kit's word on a type's size. -/
structure Sized (P : Program) (t e sz bytes : Nat) (i0 : TypeInfo) (z : Value) : Prop where
  und : P.underlying t = some (.slice e)
  inf : P.info? e = some i0
  zero : i0.zero = some z
  size : i0.size = sz
  bytes : i0.bytes = bytes
  pos : 0 < sz

theorem run_copy (H : Sized P t e sz by_ i0 z) (hc : ∀ x, (cells x).length = sz) (ty : TypeId) {w : World} {d : Option Addr} (hd : d = none ∨ ∃ g, d = some ⟨g, 0, none⟩) {b : Option Addr} {c : Nat} {l : List α} {R : Nat → Prop} (hl : SliceAt (Flat cells) sz R w b l) (hn : l.length ≤ maxLen) (hb : l.length * by_ ≤ 140737488355328) :
    ∃ v w', (Builtin.append_ #[t, t] ty #[.slice d 0 0, .slice b l.length c]).run P w = .ok v w' ∧ CopyAt cells sz w l w' v ∧ Kept w w' := by
  unfold maxLen at hn
  by_cases h0 : l = []
  · subst h0
    refine ⟨.slice d 0 0, w, ?_, ⟨d, 0, rfl, SliceAt.nil⟩, Mod.refl _ _⟩
    rcases hd with rfl | ⟨g, rfl⟩ <;> cases b <;>
      simp [Builtin.append_, run_underlying H.und, sizeOf, typeInfo, zeroValue, H.inf, H.zero, Builtin.lenOf, Builtin.firstCells, loadCells, loadCellsFrom, storeCells]
  · have hpos : 0 < l.length := List.length_pos_iff.2 h0
    obtain ⟨rows, h1, h2, h3⟩ := hl
    obtain ⟨b', o, rfl, _, _, hrow⟩ : ∃ b' o, b = some ⟨b', o, none⟩ ∧ R b' ∧ b' < w.heap.size ∧ ∀ (i : Nat) (r : List Value), rows[i]? = some r → r.length = sz ∧ ∀ (j : Nat) (v : Value), r[j]? = some v → w.cell? ⟨b', o + i * sz + j, none⟩ = some v := by
      rcases h1 with h1 | h1
      · subst h1; simp at h2; omega
      · exact h1
    have hrows : rows = l.map cells := by
      apply List.ext_getElem?
      intro j
      by_cases hj : j < l.length
      · have e1 := List.getElem?_eq_getElem (l := rows) (i := j) (by omega)
        have e2 := List.getElem?_eq_getElem (l := l) (i := j) hj
        have h4 : rows[j] = cells l[j] := h3 j _ _ e1 e2
        rw [e1, List.getElem?_map, e2, h4]; rfl
      · rw [List.getElem?_eq_none (by omega), List.getElem?_eq_none (by simp; omega)]
    subst hrows
    have hfl := flat_length hc l
    have hlen : ((l.map cells).flatten).length = l.length * i0.size := by rw [H.size]; exact hfl
    have hnews : ∀ j v, ((l.map cells).flatten)[j]? = some v → w.cell? ((⟨b', o, none⟩ : Addr).add j) = some v := by
      intro j v hj
      have hjl : j < l.length * sz := by rw [← hfl]; exact (List.getElem?_eq_some_iff.1 hj).1
      have hjd : j / sz < l.length := by rw [Nat.div_lt_iff_lt_mul H.pos]; exact hjl
      have ej : j / sz * sz + j % sz = j := by rw [Nat.mul_comm]; exact Nat.div_add_mod j sz
      have hk : (l.map cells)[j / sz]? = some (cells l[j / sz]) := by rw [List.getElem?_map, List.getElem?_eq_getElem hjd]; rfl
      have hm : j % sz < (cells l[j / sz]).length := by rw [hc]; exact Nat.mod_lt _ H.pos
      have h5 := flatten_at (sz := sz) (by intro r hr; obtain ⟨x, _, rfl⟩ := List.mem_map.1 hr; exact hc x) hk (List.getElem?_eq_getElem hm)
      rw [ej, hj] at h5
      simp only [Option.some.injEq] at h5
      have h6 := (hrow _ _ hk).2 _ _ (List.getElem?_eq_getElem hm)
      have ea : (⟨b', o, none⟩ : Addr).add j = ⟨b', o + j / sz * sz + j % sz, none⟩ := by
        have q : (⟨b', o, none⟩ : Addr).add j = ⟨b', o + j, none⟩ := by unfold Addr.add; split <;> simp_all
        rw [q, Nat.add_assoc, ej]
      rw [ea, h5]
      exact h6
    have key : ∀ (v : Value) (cap : Nat), v = .slice (some ⟨w.heap.size, 0, none⟩) l.length cap → ∀ cs : Array Value, cs.toList.take (l.length * sz) = (l.map cells).flatten → CopyAt cells sz w l (w.drew.alloc (.cells cs e)) v := by
      intro v cap hv cs hcs
      refine ⟨_, _, hv, ⟨l.map cells, .inr ⟨w.heap.size, 0, rfl, Nat.le_refl _, by simp, fun j r hr => ⟨?_, fun q u hu => ?_⟩⟩, by simp, fun j r x hr hx => ?_⟩⟩
      · obtain ⟨x, _, rfl⟩ := List.mem_map.1 (List.mem_of_getElem? hr)
        exact hc x
      · have h5 := flatten_at (sz := sz) (by intro r hr; obtain ⟨x, _, rfl⟩ := List.mem_map.1 hr; exact hc x) hr hu
        rw [← hcs, List.getElem?_take] at h5
        split at h5
        · rw [Nat.zero_add]
          have hn := heap_alloc_new w.drew (.cells cs e)
          have hs : w.drew.heap.size = w.heap.size := rfl
          rw [hs] at hn
          simp only [World.cell?, hn]
          simpa using h5
        · cases h5
      · rw [List.getElem?_map, hx] at hr
        simpa [Flat] using hr.symm
    have hK : ∀ cs : Array Value, Kept w (w.drew.alloc (.cells cs e)) := fun cs => (Mod.refl _ w).drew.alloc _
    rcases hd with rfl | ⟨g, rfl⟩
    · refine ⟨_, _, run_append_nil w t ty e i0 z H.und H.inf H.zero ⟨b', o, none⟩ l.length c _ hlen hnews hpos (by omega) (by rw [H.bytes]; omega), key _ _ rfl _ ?_, hK _⟩
      rw [← hfl]; simp
    · have hg := run_append_grow (P := P) w t ty e i0 z H.und H.inf H.zero ⟨g, 0, none⟩ 0 0 [] (by simp) (by simp) ⟨b', o, none⟩ l.length c _ hlen hnews (by omega) (by omega) (by rw [Nat.zero_add, nextslicecap_zero hpos, H.bytes]; omega)
      simp only [Nat.zero_add] at hg
      refine ⟨_, _, hg, key _ _ rfl _ ?_, hK _⟩
      rw [← hfl]; simp

def slA : Value → Option Addr
  | .slice a _ _ => a
  | _ => none
def slC : Value → Nat
  | .slice _ _ c => c
  | _ => 0
@[go_sem] theorem slA_slice (a : Option Addr) (n c : Nat) : slA (.slice a n c) = a := rfl
@[go_sem] theorem slC_slice (a : Option Addr) (n c : Nat) : slC (.slice a n c) = c := rfl

/-- A copy in a drawn region. -/
theorem RM.copy {W : World} {ops : Array Oper} {Q : Exit → Act → World → Prop} {k : Nat} {o : Oper} {rest : List Oper} {F : (Nat → Value) → Act} {U : List (Nat × ((Nat → Value) → World → Value → Prop))}
    (us : List Nat) (s y : Operand) (H : Sized P t e sz by_ i0 z) (hc : ∀ x, (cells x).length = sz) (ho : o.op = .call { callee := .builtin .append, args := #[s, y], argTypes := #[t, t] })
    {b : Option Addr} {c : Nat} {l : List α} {R : Nat → Prop} (hl : SliceAt (Flat cells) sz R W b l) (hn : l.length ≤ maxLen) (hb : l.length * by_ ≤ 140737488355328)
    (hus : (us.all fun i => (reach ops ops.size k).contains i) = true) (hw : ∀ x, Region.wanted o (yielded ops (F x).tmps) = true)
    (hs : ∀ x w, Kept W w → (∀ u ∈ U, u.1 ∈ us → u.2 x w (x u.1)) → ∃ d, (F x).eval s = .slice d 0 0 ∧ (d = none ∨ ∃ g, d = some ⟨g, 0, none⟩)) (hy : ∀ x, (F x).eval y = .slice b l.length c)
    (h : RS P ops Kept (Kept W) Q (k + 1) rest (fun x => (F x).put o.dst (.slice (slA (x k)) l.length (slC (x k)))) ((k, fun _ => CopyAt cells sz W l) :: U)) : RS P ops Kept (Kept W) Q k (o :: rest) F U :=
  RS.new us (CopyAt cells sz W l) (fun v => .slice (slA v) l.length (slC v)) (fun _ _ ⟨_, _, hv, _⟩ => by rw [hv]; rfl) hus (fun _ _ _ ⟨a', c', h1, h2⟩ hm => ⟨a', c', h1, h2.flatKeep hm⟩) hw
    (fun x w hS hK => by
      obtain ⟨d, hs1, hd⟩ := hs x w hS hK
      obtain ⟨v, w', hr, ⟨a', c', rfl, h2⟩, h3⟩ := run_copy (P := P) H hc o.type hd (hl.flatKeep hS) hn hb (c := c)
      unfold Oper.wp execOp
      simp only [ho, resolve, invoke, builtin, Sem.run_bind, Sem.run_pure, Result.andThen_ok, List.map_toArray, List.map_cons, List.map_nil, hs1, hy x, hr]
      refine ⟨_, rfl, ⟨a', c', rfl, ?_⟩, hS.thenNone h3, h3⟩
      obtain ⟨rows, p1, p2⟩ := h2
      exact ⟨rows, p1.weaken fun j _ (hj : w.heap.size ≤ j) => Nat.le_trans hS.size hj, p2⟩) h

end

end Go.Proofs.Ythffgbhphjkdeaa
namespace Go.Proofs.Ythffgbhphjkdeaa
open Go.RowKit

section
variable {P : Program} {t e sz by_ : Nat} {i0 : TypeInfo} {z : Value} {α : Type} {cells : α → List Value}

theorem news_of_slice {R : Nat → Prop} {w : World} {b : Option Addr} {l : List α} (hl : SliceAt (Flat cells) sz R w b l) (hc : ∀ x, (cells x).length = sz) (hp : 0 < sz) (h0 : l ≠ []) :
    ∃ ad, b = some ad ∧ ∀ j u, ((l.map cells).flatten)[j]? = some u → w.cell? (ad.add j) = some u := by
  obtain ⟨rows, h1, h2, h3⟩ := hl
  have hpos : 0 < l.length := List.length_pos_iff.2 h0
  obtain ⟨b', o, rfl, _, _, hrow⟩ : ∃ b' o, b = some ⟨b', o, none⟩ ∧ R b' ∧ b' < w.heap.size ∧ ∀ (i : Nat) (r : List Value), rows[i]? = some r → r.length = sz ∧ ∀ (j : Nat) (v : Value), r[j]? = some v → w.cell? ⟨b', o + i * sz + j, none⟩ = some v := by
    rcases h1 with h1 | h1
    · subst h1; simp at h2; omega
    · exact h1
  have hrows : rows = l.map cells := by
    apply List.ext_getElem?
    intro j
    by_cases hj : j < l.length
    · have e1 := List.getElem?_eq_getElem (l := rows) (i := j) (by omega)
      have e2 := List.getElem?_eq_getElem (l := l) (i := j) hj
      have h4 : rows[j] = cells l[j] := h3 j _ _ e1 e2
      rw [e1, List.getElem?_map, e2, h4]; rfl
    · rw [List.getElem?_eq_none (by omega), List.getElem?_eq_none (by simp; omega)]
  subst hrows
  have hfl := flat_length hc l
  refine ⟨_, rfl, fun j v hj => ?_⟩
  have hjl : j < l.length * sz := by rw [← hfl]; exact (List.getElem?_eq_some_iff.1 hj).1
  have hjd : j / sz < l.length := by rw [Nat.div_lt_iff_lt_mul hp]; exact hjl
  have ej : j / sz * sz + j % sz = j := by rw [Nat.mul_comm]; exact Nat.div_add_mod j sz
  have hk : (l.map cells)[j / sz]? = some (cells l[j / sz]) := by rw [List.getElem?_map, List.getElem?_eq_getElem hjd]; rfl
  have hm : j % sz < (cells l[j / sz]).length := by rw [hc]; exact Nat.mod_lt _ hp
  have h5 := flatten_at (sz := sz) (by intro r hr; obtain ⟨x, _, rfl⟩ := List.mem_map.1 hr; exact hc x) hk (List.getElem?_eq_getElem hm)
  rw [ej, hj] at h5
  simp only [Option.some.injEq] at h5
  have h6 := (hrow _ _ hk).2 _ _ (List.getElem?_eq_getElem hm)
  have ea : (⟨b', o, none⟩ : Addr).add j = ⟨b', o + j / sz * sz + j % sz, none⟩ := by
    have q : (⟨b', o, none⟩ : Addr).add j = ⟨b', o + j, none⟩ := by unfold Addr.add; split <;> simp_all
    rw [q, Nat.add_assoc, ej]
  rw [ea, h5]
  exact h6

end

end Go.Proofs.Ythffgbhphjkdeaa
namespace Go.Proofs.Ythffgbhphjkdeaa
open Go.RowKit

theorem SliceAt.left {α : Type} {cells : α → List Value} {sz : Nat} {R : Nat → Prop} {w : World} {a : Option Addr} {l m : List α} (h : SliceAt (Flat cells) sz R w a (l ++ m)) : SliceAt (Flat cells) sz R w a l := by
  obtain ⟨rows, h1, h2, h3⟩ := h
  rw [List.length_append] at h2
  refine ⟨rows.take l.length, ?_, by rw [List.length_take]; omega, fun i r x hr hx => ?_⟩
  · rcases h1 with h1 | ⟨b, o, rfl, hR, hb, h⟩
    · subst h1; exact .inl (by simp)
    · refine .inr ⟨b, o, rfl, hR, hb, fun i r hr => h i r ?_⟩
      rw [List.getElem?_take] at hr
      split at hr
      · exact hr
      · cases hr
  · have hi := (List.getElem?_eq_some_iff.1 hx).1
    rw [List.getElem?_take_of_lt hi] at hr
    exact h3 i r x hr (by rw [List.getElem?_append_left hi]; exact hx)
theorem SliceAt.right {α : Type} {cells : α → List Value} {sz b o : Nat} {R : Nat → Prop} {w : World} {l m : List α} (h : SliceAt (Flat cells) sz R w (some ⟨b, o, none⟩) (l ++ m)) : SliceAt (Flat cells) sz R w (some ⟨b, o + l.length * sz, none⟩) m := by
  obtain ⟨rows, h1, h2, h3⟩ := h
  rw [List.length_append] at h2
  refine ⟨rows.drop l.length, ?_, by rw [List.length_drop]; omega, fun i r x hr hx => ?_⟩
  · rcases h1 with h1 | ⟨b', o', e, hR, hb, h⟩
    · subst h1; exact .inl (by simp)
    · simp only [Option.some.injEq, Addr.mk.injEq, and_true] at e
      obtain ⟨rfl, rfl⟩ := e
      refine .inr ⟨_, _, rfl, hR, hb, fun i r hr => ?_⟩
      rw [List.getElem?_drop] at hr
      obtain ⟨h4, h5⟩ := h _ r hr
      refine ⟨h4, fun j v hv => ?_⟩
      rw [← h5 j v hv, Nat.add_mul, ← Nat.add_assoc]
  · rw [List.getElem?_drop] at hr
    exact h3 _ r x hr (by rw [List.getElem?_append_right (by omega), Nat.add_sub_cancel_left]; exact hx)
theorem grownBy_refl (w : World) (r : Option Nat) : w.grownBy w r := ⟨rfl, rfl, rfl, Nat.le_refl _, fun _ _ _ => rfl⟩

section
variable {P : Program} {t e sz by_ : Nat} {i0 : TypeInfo} {z : Value} {α : Type} {cells : α → List Value}

theorem run_append_slice {B : Nat} (H : Sized P t e sz by_ i0 z) (hzs : z.cells.size = sz) (hc : ∀ x, (cells x).length = sz) (hone : ∀ x, ∀ u ∈ cells x, u.oneCell' = true) (ty : TypeId) {w : World} {d : Option Addr} {n c0 : Nat} {xs : List Value}
    (own : w.ownsRow B e sz (.slice d n c0) n xs) (hB : B ≤ w.heap.size) {b : Option Addr} {c : Nat} {l : List α} {R : Nat → Prop} (hl : SliceAt (Flat cells) sz R w b l) (hn : n + l.length ≤ maxLen) (hb : (n + l.length) * by_ ≤ 140737488355328) :
    ∃ a' c' w', (Builtin.append_ #[t, t] ty #[.slice d n c0, .slice b l.length c]).run P w = .ok (.slice a' (n + l.length) c') w' ∧ w.grownBy w' (Value.slice d n c0).ownBlock ∧ w'.ownsRow B e sz (.slice a' (n + l.length) c') (n + l.length) (xs ++ (l.map cells).flatten) := by
  by_cases h0 : l = []
  · subst h0
    refine ⟨d, c0, w, ?_, grownBy_refl _ _, by simpa using own⟩
    rcases own.2 with ⟨hv, hn0⟩ | ⟨g, cap, cur, hv, _, _, hnc, _⟩
    · injection hv with e1 e2 e3
      subst e1 e2 e3
      cases b <;>
        simp [Builtin.append_, run_underlying H.und, sizeOf, typeInfo, zeroValue, H.inf, H.zero, Builtin.lenOf, Builtin.firstCells, loadCells, loadCellsFrom, storeCells]
    · injection hv with e1 e2 e3
      subst e1 e3
      cases b <;>
        simp [Builtin.append_, run_underlying H.und, sizeOf, typeInfo, zeroValue, H.inf, H.zero, Builtin.lenOf, Builtin.firstCells, loadCells, loadCellsFrom, storeCells, hnc]
  · obtain ⟨ad, rfl, hnews⟩ := news_of_slice hl hc H.pos h0
    obtain ⟨v2, w2, hr2, hown, hg, _⟩ := run_append_own (P := P) w B t ty e i0 z sz by_ H.und H.inf H.zero H.size H.bytes hzs H.pos (.slice d n c0) n xs own ad l.length c _ (flat_length hc l) hnews
      (fun u hu => by
        obtain ⟨r, hr, hu⟩ := List.mem_flatten.1 hu
        obtain ⟨x, _, rfl⟩ := List.mem_map.1 hr
        exact hone x u hu) hn hb hB
    obtain ⟨a', c', rfl⟩ := own_form hown
    exact ⟨a', c', w2, hr2, hg, hown⟩

end

end Go.Proofs.Ythffgbhphjkdeaa
namespace Go.Proofs.Ythffgbhphjkdeaa
open Go.RowKit

/-- An element's type: its row of the table. -/
class TEl (P : Program) (e : TypeId) (sz by_ : outParam Nat) (z : outParam Value) : Prop where
  p : (P.info? e).map (fun i => (i.zero, i.size, i.bytes)) = some (some z, sz, by_)
  q : z.cells.size = sz ∧ 0 < sz
theorem TEl.h {P : Program} {e sz by_ : Nat} {z : Value} (t : TEl P e sz by_ z) : ∃ i, P.info? e = some i ∧ i.zero = some z ∧ i.size = sz ∧ i.bytes = by_ ∧ z.cells.size = sz ∧ 0 < sz := by
  obtain ⟨i, h1, h2⟩ := Option.map_eq_some_iff.1 t.p
  simp only [Prod.mk.injEq] at h2
  exact ⟨i, h1, h2.1, h2.2.1, h2.2.2, t.q⟩

section
variable {P : Program} {n : Nat} {W : World} {R : Rg W} {L : List Blk} {O : List Own} {E : List Res} {f : List (Nat × Value)} {Q : Exit → Act → World → Prop} {ops : Array Oper} {rest : List Oper}
variable {d : Option Nat} {dn : Nat} {x y : Operand} {ty T T' : TypeId} {pos : String} {af : Array Edge} {gd : Option (Nat × Bool)}

theorem Loc.ownNil {w : World} (h : Loc W R L O E w) (e sz : Nat) : Loc W R L (⟨.slice none 0 0, e, sz, 0, []⟩ :: O) E w where
  mod := h.mod
  inv := h.inv
  blk := h.blk
  apart := h.apart
  own := fun o ho => by
    rcases List.mem_cons.1 ho with rfl | ho
    · exact ⟨World.ownsRow_nil w _ _ _, fun b _ e => by cases e⟩
    · exact h.own o ho
  ownApart := List.pairwise_cons.2 ⟨fun o _ k hk => (nomatch hk), h.ownApart⟩
  res := fun F hF => ⟨(h.res F hF).1, (h.res F hF).2.1, (h.res F hF).2.2.1, fun o ho k hk => by
    rcases List.mem_cons.1 ho with rfl | ho
    · cases hk
    · exact (h.res F hF).2.2.2 o ho k hk⟩
  resNew := h.resNew
  resApart := h.resApart
theorem SX.ownNil {c : Code} (e sz : Nat) (h : SX P n W R L (⟨.slice none 0 0, e, sz, 0, []⟩ :: O) E f c Q) : SX P n W R L O E f c Q := ⟨fun a w hf hl => h.run a w hf (hl.ownNil e sz)⟩
theorem SXl.ownNil (e sz : Nat) (h : SXl P n W R ops L (⟨.slice none 0 0, e, sz, 0, []⟩ :: O) E f rest Q) : SXl P n W R ops L O E f rest Q := ⟨fun a w hf hl => h.run a w hf (hl.ownNil e sz)⟩
/-- The block that was made last, told as a slice of the call's own. -/
theorem Loc.toOwn {w : World} {g e sz m : Nat} {cells : List Value} (h : Loc W R (⟨g, cells, e⟩ :: L) O E w) (hR : ¬ R.q g) (hm : cells.length = m * sz) (hmax : m ≤ maxLen) : Loc W R L (⟨.slice (some ⟨g, 0, none⟩) m m, e, sz, m, cells⟩ :: O) E w where
  mod := h.mod
  inv := h.inv
  blk := fun b hb => h.blk b (List.mem_cons_of_mem _ hb)
  apart := (List.pairwise_cons.1 h.apart).2
  own := fun o ho => by
    rcases List.mem_cons.1 ho with rfl | ho
    · have hb := h.blk _ List.mem_cons_self
      refine ⟨⟨hm, .inr ⟨g, m, cells.toArray, rfl, hb.1.resolve_left hR, hb.2, Nat.le_refl _, hmax, by simpa using hm, by simp [← hm]⟩⟩, fun b hb e => ?_⟩
      simp only [Value.ownBlock, Option.some.injEq] at e
      exact (List.pairwise_cons.1 h.apart).1 b hb e
    · exact ⟨(h.own o ho).1, fun b hb => (h.own o ho).2 b (List.mem_cons_of_mem _ hb)⟩
  ownApart := List.pairwise_cons.2 ⟨fun o ho k hk e => by
    simp only [Value.ownBlock, Option.some.injEq] at hk
    subst hk
    exact (h.own o ho).2 _ List.mem_cons_self e, h.ownApart⟩
  res := fun F hF => ⟨(h.res F hF).1, (h.res F hF).2.1, fun b hb => (h.res F hF).2.2.1 b (List.mem_cons_of_mem _ hb), fun o ho k hk => by
    rcases List.mem_cons.1 ho with rfl | ho
    · simp only [Value.ownBlock, Option.some.injEq] at hk
      subst hk
      exact (h.res F hF).2.2.1 _ List.mem_cons_self
    · exact (h.res F hF).2.2.2 o ho k hk⟩
  resNew := h.resNew
  resApart := h.resApart
/-- A slice of the call's own, turned; it lies where it lay, or in a new block. -/
theorem Loc.ownTurned {w w' : World} {i : Nat} {o o' : Own} (h : Loc W R L O E w) (hi : O[i]? = some o) (hm : Mod (fun k => o.v.ownBlock = some k) w w') (hown : w'.ownsRow W.heap.size o'.e o'.sz o'.v o'.n o'.xs)
    (hat : o'.v.ownBlock = o.v.ownBlock ∨ ∃ g, o'.v.ownBlock = some g ∧ w.heap.size ≤ g) : Loc W R L (O.set i o') E w' := by
  have hmem : o ∈ O := List.mem_iff_getElem?.2 ⟨i, hi⟩
  have far : ∀ j p, j ≠ i → O[j]? = some p → ∀ k, p.v.ownBlock = some k → o.v.ownBlock ≠ some k := fun j p hj hp k hk e =>
    pairwise_ne_of (r := fun a b : Own => ∀ k, a.v.ownBlock = some k → b.v.ownBlock ≠ some k) (fun a b hab k hb ha => hab k ha hb) h.ownApart hp hi hj k hk e
  exact {
    mod := h.mod.then hm fun k hk e => by have := (ownBlock_lt (h.own o hmem).1 e).1; omega
    inv := R.keep _ w w' h.inv hm fun k hk e => by have := (ownBlock_lt (h.own o hmem).1 e).1; omega
    blk := fun b hb => ⟨(h.blk b hb).1, hm.blk (h.blk b hb).2 fun e => (h.own o hmem).2 b hb e⟩
    apart := h.apart
    own := fun p hp => by
      rcases mem_set_cases hp with rfl | ⟨j, hj, hp⟩
      · refine ⟨hown, fun b hb e => ?_⟩
        rcases hat with hat | ⟨g, hat, hg⟩
        · exact (h.own o hmem).2 b hb (hat ▸ e)
        · rw [hat] at e
          simp only [Option.some.injEq] at e
          have := h.blk_lt hb
          omega
      · have hpm : p ∈ O := List.mem_iff_getElem?.2 ⟨j, hp⟩
        exact ⟨ownsRow_keep (h.own p hpm).1 hm fun k hk e => far j p hj hp k hk e, (h.own p hpm).2⟩
    ownApart := by
      have key : ∀ (j : Nat) (p : Own), j ≠ i → O[j]? = some p → ∀ k, p.v.ownBlock = some k → o'.v.ownBlock ≠ some k := fun j p hj hp k hk e => by
        rcases hat with hat | ⟨g, hat, hg⟩
        · exact far j p hj hp k hk (hat ▸ e)
        · rw [hat] at e
          simp only [Option.some.injEq] at e
          subst e
          have := (ownBlock_lt (h.own p (List.mem_iff_getElem?.2 ⟨j, hp⟩)).1 hk).2
          omega
      rw [List.pairwise_iff_getElem]
      intro a b ha hb hab k hk
      have ea : (O.set i o')[a]? = some (O.set i o')[a] := List.getElem?_eq_getElem ha
      have eb : (O.set i o')[b]? = some (O.set i o')[b] := List.getElem?_eq_getElem hb
      rw [List.getElem?_set] at ea eb
      rw [List.length_set] at ha hb
      by_cases h1 : i = a
      · by_cases h2 : i = b
        · omega
        · rw [if_pos h1, if_pos (show i < O.length by omega)] at ea
          rw [if_neg h2] at eb
          intro e
          rw [← Option.some.inj ea] at hk
          exact key b _ (fun e => h2 e.symm) eb k e hk
      · rw [if_neg h1] at ea
        by_cases h2 : i = b
        · rw [if_pos h2, if_pos (show i < O.length by omega)] at eb
          rw [← Option.some.inj eb]
          exact key a _ (fun e => h1 e.symm) ea k hk
        · rw [if_neg h2] at eb
          intro e
          exact pairwise_ne_of (r := fun a b : Own => ∀ k, a.v.ownBlock = some k → b.v.ownBlock ≠ some k) (fun a b hab k hb ha => hab k ha hb) h.ownApart ea eb (by omega) k hk e
    res := fun F hF => ⟨F.stable _ w w' (h.res F hF).1 hm fun k hk e => (h.res F hF).2.2.2 o hmem k e hk, fun k hk => Nat.lt_of_lt_of_le ((h.res F hF).2.1 k hk) hm.size, (h.res F hF).2.2.1, fun p hp k hk f => by
      rcases mem_set_cases hp with rfl | ⟨j, hj, hp⟩
      · rcases hat with hat | ⟨g, hat, hg⟩
        · exact (h.res F hF).2.2.2 o hmem k (hat ▸ hk) f
        · rw [hat] at hk
          simp only [Option.some.injEq] at hk
          subst hk
          have := (h.res F hF).2.1 _ f
          omega
      · exact (h.res F hF).2.2.2 p (List.mem_iff_getElem?.2 ⟨j, hp⟩) k hk f⟩
    resNew := h.resNew
    resApart := h.resApart }
theorem mod_grownBy {w w' : World} {row : Option Nat} (h : w.grownBy w' row) : Mod (fun k => row = some k) w w' := ⟨h.os, h.tape, h.output, h.size, fun k hk hn => h.block k hk fun e => hn e.symm⟩

/-- append(own, cells of a block of the call's own). -/
theorem SXl.append {e sz by_ m c n0 g : Nat} {z v0 : Value} {xs cells : List Value} (i j : Nat) [t : TSl P T e sz] [te : TEl P e sz by_ z] (hw : wantO ops f ⟨some dn, .call ⟨.builtin .append, #[x, y], #[T, T]⟩, ty, pos, af, gd⟩ = some true) (hd : Nat.blt dn n = true)
    (hx : evO f x = some v0) (hO : O[i]? = some ⟨v0, e, sz, n0, xs⟩) (hy : evO f y = some (.slice (some ⟨g, 0, none⟩) m c)) (hL : L[j]? = some ⟨g, cells, T'⟩) (hm : cells.length = m * sz) (h1 : cells.all (·.oneCell') = true)
    (h63 : n0 + m ≤ 9223372036854775807) (hby : (n0 + m) * by_ ≤ 140737488355328)
    (h : ∀ a c, SXl P n W R ops L (O.set i ⟨.slice a (n0 + m) c, e, sz, n0 + m, xs ++ cells⟩) E ((dn, .slice a (n0 + m) c) :: f) rest Q) : SXl P n W R ops L O E f (⟨some dn, .call ⟨.builtin .append, #[x, y], #[T, T]⟩, ty, pos, af, gd⟩ :: rest) Q := ⟨fun a w hf hl => by
  obtain ⟨i0, q1, q2, q3, q4, q5, q6⟩ := te.h
  have hmem : (⟨v0, e, sz, n0, xs⟩ : Own) ∈ O := List.mem_iff_getElem?.2 ⟨i, hO⟩
  have hb := (hl.blk _ (List.mem_iff_getElem?.2 ⟨j, hL⟩)).2
  have hnews : ∀ j u, cells[j]? = some u → w.cell? ((⟨g, 0, none⟩ : Addr).add j) = some u := fun j u hu => by
    rw [Addr.add_lit, Nat.zero_add]; exact blk_cell hb hu
  obtain ⟨v', w', hr, h2, h3, _, h5⟩ := run_append_own_at (P := P) w W.heap.size T ty e i0 z sz by_ t.h.1 q1 q2 q3 q4 q5 q6 v0 n0 xs (hl.own _ hmem).1 ⟨g, 0, none⟩ m c cells hm hnews (List.all_eq_true.1 h1) (by unfold maxLen; exact h63) hby hl.mod.size
  obtain ⟨a', c', rfl⟩ := own_form h2
  unfold wpList
  rw [if_pos (wanted_of hf hw)]
  refine .inl ?_
  unfold Oper.wp
  have hrun : (execOp a.eval ⟨some dn, .call ⟨.builtin .append, #[x, y], #[T, T]⟩, ty, pos, af, gd⟩).run P w = .ok (.value (.slice a' (n0 + m) c')) w' := by
    simp only [execOp, resolve, invoke, builtin, Sem.run_bind, Sem.run_pure, Result.andThen_ok, List.map_toArray, List.map_cons, List.map_nil, hf.eval hx, hf.eval hy, hr]
  rw [hrun, Oper.upon_value]
  exact (h a' c').run _ _ (hf.put hd _) (hl.ownTurned (o' := ⟨.slice a' (n0 + m) c', e, sz, n0 + m, xs ++ cells⟩) hO (mod_grownBy h3) h2 (h5.imp id fun h => ⟨_, h, Nat.le_refl _⟩))⟩
/-- append(own, a slice that is told). -/
theorem SXl.appendS {α : Type} {cs : α → List Value} {e sz by_ c n0 m : Nat} {z v0 : Value} {xs : List Value} {b : Option Addr} (i : Nat) (l : List α) [t : TSl P T e sz] [te : TEl P e sz by_ z] (hw : wantO ops f ⟨some dn, .call ⟨.builtin .append, #[x, y], #[T, T]⟩, ty, pos, af, gd⟩ = some true) (hd : Nat.blt dn n = true)
    (hx : evO f x = some v0) (hO : O[i]? = some ⟨v0, e, sz, n0, xs⟩) (hy : evO f y = some (.slice b m c)) (hm : m = l.length) (hc : ∀ x, (cs x).length = sz) (hone : ∀ x, ∀ u ∈ cs x, u.oneCell' = true)
    (hs : ∀ w, Loc W R L O E w → ∃ S, SliceAt (Flat cs) sz S w b l) (h63 : n0 + l.length ≤ 9223372036854775807) (hby : (n0 + l.length) * by_ ≤ 140737488355328)
    (h : ∀ a c, SXl P n W R ops L (O.set i ⟨.slice a (n0 + l.length) c, e, sz, n0 + l.length, xs ++ (l.map cs).flatten⟩) E ((dn, .slice a (n0 + l.length) c) :: f) rest Q) : SXl P n W R ops L O E f (⟨some dn, .call ⟨.builtin .append, #[x, y], #[T, T]⟩, ty, pos, af, gd⟩ :: rest) Q := ⟨fun a w hf hl => by
  subst hm
  obtain ⟨i0, q1, q2, q3, q4, q5, q6⟩ := te.h
  have hmem : (⟨v0, e, sz, n0, xs⟩ : Own) ∈ O := List.mem_iff_getElem?.2 ⟨i, hO⟩
  obtain ⟨S, hsl⟩ := hs w hl
  have H0 : Sized P T e sz by_ i0 z := ⟨t.h.1, q1, q2, q3, q4, q6⟩
  have key : ∃ a' c' w', (Builtin.append_ #[T, T] ty #[v0, .slice b l.length c]).run P w = .ok (.slice a' (n0 + l.length) c') w' ∧ Loc W R L (O.set i ⟨.slice a' (n0 + l.length) c', e, sz, n0 + l.length, xs ++ (l.map cs).flatten⟩) E w' := by
    obtain ⟨d0, c0, hv0⟩ := own_form (hl.own _ hmem).1
    simp only at hv0
    subst hv0
    by_cases h0 : l = []
    · subst h0
      obtain ⟨a', c', w', hr, hg, ho⟩ := run_append_slice (P := P) H0 q5 hc hone ty (hl.own _ hmem).1 hl.mod.size hsl (by unfold maxLen; exact h63) hby (c := c)
      have e0 : (Builtin.append_ #[T, T] ty #[.slice d0 n0 c0, .slice b 0 c]).run P w = .ok (.slice d0 n0 c0) w := by
        rcases (hl.own _ hmem).1.2 with ⟨hv, hn0⟩ | ⟨g, cap, cur, hv, _, _, hnc, _⟩
        · injection hv with e1 e2 e3
          subst e1 e2 e3
          cases b <;>
            simp [Builtin.append_, run_underlying H0.und, sizeOf, typeInfo, zeroValue, H0.inf, H0.zero, Builtin.lenOf, Builtin.firstCells, loadCells, loadCellsFrom, storeCells]
        · injection hv with e1 e2 e3
          subst e1 e3
          cases b <;>
            simp [Builtin.append_, run_underlying H0.und, sizeOf, typeInfo, zeroValue, H0.inf, H0.zero, Builtin.lenOf, Builtin.firstCells, loadCells, loadCellsFrom, storeCells, hnc]
      refine ⟨d0, c0, w, e0, ?_⟩
      have e1 : O.set i ⟨.slice d0 (n0 + 0) c0, e, sz, n0 + 0, xs ++ []⟩ = O := by
        rw [Nat.add_zero, List.append_nil]
        refine List.ext_getElem? fun j => ?_
        rw [List.getElem?_set]
        split
        · subst_vars
          split
          · rw [hO]
          · rename_i hlt; rw [List.getElem?_eq_none (by simpa using hlt)]
        · rfl
      simp only [List.length_nil, List.map_nil, List.flatten_nil]
      rw [e1]
      exact hl
    · obtain ⟨ad, rfl, hnews⟩ := news_of_slice hsl hc H0.pos h0
      obtain ⟨v', w', hr, h2, h3, _, h5⟩ := run_append_own_at (P := P) w W.heap.size T ty e i0 z sz by_ t.h.1 q1 q2 q3 q4 q5 q6 _ n0 xs (hl.own _ hmem).1 ad l.length c _ (flat_length hc l) hnews
        (fun u hu => by
          obtain ⟨r, hr, hu⟩ := List.mem_flatten.1 hu
          obtain ⟨x, _, rfl⟩ := List.mem_map.1 hr
          exact hone x u hu) (by unfold maxLen; exact h63) hby hl.mod.size
      obtain ⟨a', c', rfl⟩ := own_form h2
      exact ⟨a', c', w', hr, hl.ownTurned (o' := ⟨.slice a' (n0 + l.length) c', e, sz, n0 + l.length, xs ++ (l.map cs).flatten⟩) hO (mod_grownBy h3) h2 (h5.imp id fun h => ⟨_, h, Nat.le_refl _⟩)⟩
  obtain ⟨a', c', w', hr, hl'⟩ := key
  unfold wpList
  rw [if_pos (wanted_of hf hw)]
  refine .inl ?_
  unfold Oper.wp
  have hrun : (execOp a.eval ⟨some dn, .call ⟨.builtin .append, #[x, y], #[T, T]⟩, ty, pos, af, gd⟩).run P w = .ok (.value (.slice a' (n0 + l.length) c')) w' := by
    simp only [execOp, resolve, invoke, builtin, Sem.run_bind, Sem.run_pure, Result.andThen_ok, List.map_toArray, List.map_cons, List.map_nil, hf.eval hx, hf.eval hy, hr]
  rw [hrun, Oper.upon_value]
  exact (h a' c').run _ _ (hf.put hd _) hl'⟩
/-- What a slice literal's parts hold. -/
def evP (f : List (Nat × Value)) : List (Nat × Operand) → Option (List (Nat × Value))
  | [] => some []
  | (i, x) :: l => match evO f x, evP f l with
    | some v, some vs => some ((i, v) :: vs)
    | _, _ => none
theorem evP_map {a : Act} (hf : Fr n f a) : ∀ (l : List (Nat × Operand)) (vs : List (Nat × Value)), evP f l = some vs → l.map (fun p => (p.1, a.eval p.2)) = vs
  | [], vs, h => by simpa [evP] using h
  | (i, x) :: l, vs, h => by
    unfold evP at h
    cases hx : evO f x with
    | none => simp [hx] at h
    | some v =>
      cases hl : evP f l with
      | none => simp [hx, hl] at h
      | some us =>
        simp only [hx, hl, Option.some.injEq] at h
        subst h
        rw [List.map_cons, hf.eval hx, evP_map hf l us hl]
/-- A slice literal of scalars. -/
theorem SXl.lit {e m by_ : Nat} {z : Value} {parts : List (Nat × Operand)} {vals : List (Nat × Value)} {cells : List Value} [t : TSl P T e 1] [te : TEl P e 1 by_ z] (hw : wantO ops f ⟨some dn, .buildSlice T m parts.toArray, ty, pos, af, gd⟩ = some true) (hd : Nat.blt dn n = true)
    (hp : evP f parts = some vals) (hm : m ≤ 16777216) (hc : Instr.fill (fun i => some (i * 1, 1)) (Array.replicate (m * 1) z) vals = some cells.toArray) (hz : z.cells = #[z])
    (h : ∀ g, SXl P n W R ops (⟨g, cells, e⟩ :: L) O E ((dn, .slice (some ⟨g, 0, none⟩) m m) :: f) rest Q) : SXl P n W R ops L O E f (⟨some dn, .buildSlice T m parts.toArray, ty, pos, af, gd⟩ :: rest) Q :=
  SXl.stepn (V := fun g => .slice (some ⟨g, 0, none⟩) m m) (O' := fun _ => O) hw rfl hd (fun a w hf hl => by
    obtain ⟨i0, q1, q2, q3, q4, q5, q6⟩ := te.h
    refine ⟨w.heap.size, w.alloc (.cells cells.toArray e), ?_, hl.alloc cells e⟩
    have e1 := evP_map hf parts vals hp
    have e2 : (parts.toArray.map fun p => (p.1, a.eval p.2)).toList = vals := by simpa using e1
    have hm2 : ¬ 2 ^ 24 < m := by omega
    have e3 : (Array.range m).map (fun _ => z) = Array.replicate m z := by
      apply Array.ext_getElem?
      intro i
      simp [Array.getElem?_map, Array.getElem?_range, Array.getElem?_replicate]
    simp only [Nat.mul_one] at hc
    simp only [execOp, Instr.buildSlice, Sem.run_bind, run_underlying t.h.1, Result.andThen_ok, sizeOf, typeInfo, run_program, q1, Sem.run_pure, q3, Nat.mul_one]
    by_cases h0 : m = 0
    · subst h0
      have hc' : Instr.fill (fun i => some (i, 1)) #[] vals = some cells.toArray := by simpa using hc
      have e4 : Array.map (fun _ : Nat => (default : Value)) (Array.range 0) = #[] := by simp
      simp [newRow, q1, q2, q3, e1, e4, hc']
    · simp [newRow, zeroValue, typeInfo, q1, q2, hz, h0, hm2, Nat.mod_one, e1, e3, hc]) h
/-- A call that hands back new memory, told by one fact. -/
theorem SXl.calln1 {ξ : Type} {v : ξ → Value} {F1 : ξ → Res} {fn : FuncId} {ars : List Operand} {args : List Value} {aT : Array TypeId} [TFun P fn] (hw : wantO ops f ⟨some dn, .call ⟨.value (.func fn), ars.toArray, aT⟩, ty, pos, af, gd⟩ = some true) (hd : Nat.blt dn n = true) (ha : evL f ars = some args)
    (hc : ∀ w, Loc W R L O E w → Calls P fn args.toArray w (NewR ξ v F1 w))
    (h : ∀ x, SXl P n W R ops L O (F1 x :: E) ((dn, v x) :: f) rest Q) : SXl P n W R ops L O E f (⟨some dn, .call ⟨.value (.func fn), ars.toArray, aT⟩, ty, pos, af, gd⟩ :: rest) Q :=
  SXl.calln hw hd ha hc h
end
end Go.Proofs.Ythffgbhphjkdeaa
namespace Go.Proofs.Ythffgbhphjkdeaa
open Go.RowKit

def flatFs (P : Program) (rec : TypeId → Option (List Nat)) : List Field → Nat → Option (List Nat)
  | [], _ => some []
  | f :: fs, off => if f.name = "_" ∨ f.offset ≠ off then none else match rec f.type with
    | some ks => if P.cellsOf f.type = ks.length then (flatFs P rec fs (off + ks.length)).map (ks ++ ·) else none
    | none => none
def flatT (P : Program) : Nat → TypeId → Option (List Nat)
  | 0, _ => none
  | d + 1, T => match P.underlying T with
    | some (.int .i64) => some [0]
    | some .bool => some [1]
    | some .string => some [2]
    | some (.struct fs) => if P.stoodInHeld T then none else flatFs P (flatT P d) fs.toList 0
    | _ => none
section
variable {P : Program}
end
/-- A flat struct's type, with its cells' kinds. -/
class TEq (P : Program) (T : TypeId) (ks : outParam (List Nat)) : Prop where
  h : flatT P 10000 T = some ks
  g : P.eqGuardType P.depth T = false
  s : ∃ fs, P.underlying T = some (.struct fs)
section
variable {P : Program} {n : Nat} {W : World} {R : Rg W} {L : List Blk} {O : List Own} {E : List Res} {f : List (Nat × Value)}
variable {d : Option Nat} {x y : Operand} {ty T T' : TypeId} {pos : String} {af : Array Edge} {gd : Option (Nat × Bool)}
end
section
variable {P : Program} {n : Nat} {W : World} {R : Rg W} {L : List Blk} {O : List Own} {E : List Res} {f : List (Nat × Value)} {Q : Exit → Act → World → Prop} {ops : Array Oper} {rest : List Oper} {k : Nat}
variable {d : Option Nat} {c x y : Operand} {ty T T' : TypeId} {j fn : Nat} {ars : Array Operand} {aT : Array TypeId} {parts : Array (Nat × Operand)} {pos : String} {af : Array Edge} {gd : Option (Nat × Bool)}
/-! Which operation stands next. -/
theorem l_load (h : SXl P n W R ops L O E f (⟨d, .load T x, ty, pos, af, gd⟩ :: rest) Q) : SXl P n W R ops L O E f (⟨d, .load T x, ty, pos, af, gd⟩ :: rest) Q := h
theorem r_load (h : SXr P n W R ops L O E k f (⟨d, .load T x, ty, pos, af, gd⟩ :: rest) Q) : SXr P n W R ops L O E k f (⟨d, .load T x, ty, pos, af, gd⟩ :: rest) Q := h
theorem l_store (h : SXl P n W R ops L O E f (⟨d, .store T x y, ty, pos, af, gd⟩ :: rest) Q) : SXl P n W R ops L O E f (⟨d, .store T x y, ty, pos, af, gd⟩ :: rest) Q := h
theorem l_fieldAddr (h : SXl P n W R ops L O E f (⟨d, .fieldAddr T x j, ty, pos, af, gd⟩ :: rest) Q) : SXl P n W R ops L O E f (⟨d, .fieldAddr T x j, ty, pos, af, gd⟩ :: rest) Q := h
theorem r_fieldAddr (h : SXr P n W R ops L O E k f (⟨d, .fieldAddr T x j, ty, pos, af, gd⟩ :: rest) Q) : SXr P n W R ops L O E k f (⟨d, .fieldAddr T x j, ty, pos, af, gd⟩ :: rest) Q := h
theorem l_move (h : SXl P n W R ops L O E f (⟨d, .move x, ty, pos, af, gd⟩ :: rest) Q) : SXl P n W R ops L O E f (⟨d, .move x, ty, pos, af, gd⟩ :: rest) Q := h
theorem l_assign (h : SXl P n W R ops L O E f (⟨d, .assign x, ty, pos, af, gd⟩ :: rest) Q) : SXl P n W R ops L O E f (⟨d, .assign x, ty, pos, af, gd⟩ :: rest) Q := h
theorem r_assign (h : SXr P n W R ops L O E k f (⟨d, .assign x, ty, pos, af, gd⟩ :: rest) Q) : SXr P n W R ops L O E k f (⟨d, .assign x, ty, pos, af, gd⟩ :: rest) Q := h
theorem l_pick (h : SXl P n W R ops L O E f (⟨d, .pick c x y, ty, pos, af, gd⟩ :: rest) Q) : SXl P n W R ops L O E f (⟨d, .pick c x y, ty, pos, af, gd⟩ :: rest) Q := h
theorem l_indexAddr (h : SXl P n W R ops L O E f (⟨d, .indexAddr T x y, ty, pos, af, gd⟩ :: rest) Q) : SXl P n W R ops L O E f (⟨d, .indexAddr T x y, ty, pos, af, gd⟩ :: rest) Q := h
theorem l_alloc (h : SXl P n W R ops L O E f (⟨d, .alloc T, ty, pos, af, gd⟩ :: rest) Q) : SXl P n W R ops L O E f (⟨d, .alloc T, ty, pos, af, gd⟩ :: rest) Q := h
theorem l_box (h : SXl P n W R ops L O E f (⟨d, .box T x, ty, pos, af, gd⟩ :: rest) Q) : SXl P n W R ops L O E f (⟨d, .box T x, ty, pos, af, gd⟩ :: rest) Q := h
theorem l_buildSlice (h : SXl P n W R ops L O E f (⟨d, .buildSlice T j parts, ty, pos, af, gd⟩ :: rest) Q) : SXl P n W R ops L O E f (⟨d, .buildSlice T j parts, ty, pos, af, gd⟩ :: rest) Q := h
theorem l_call (h : SXl P n W R ops L O E f (⟨d, .call ⟨.value (.func fn), ars, aT⟩, ty, pos, af, gd⟩ :: rest) Q) : SXl P n W R ops L O E f (⟨d, .call ⟨.value (.func fn), ars, aT⟩, ty, pos, af, gd⟩ :: rest) Q := h
theorem l_len (h : SXl P n W R ops L O E f (⟨d, .call ⟨.builtin .len, ars, aT⟩, ty, pos, af, gd⟩ :: rest) Q) : SXl P n W R ops L O E f (⟨d, .call ⟨.builtin .len, ars, aT⟩, ty, pos, af, gd⟩ :: rest) Q := h
theorem l_append (h : SXl P n W R ops L O E f (⟨d, .call ⟨.builtin .append, ars, aT⟩, ty, pos, af, gd⟩ :: rest) Q) : SXl P n W R ops L O E f (⟨d, .call ⟨.builtin .append, ars, aT⟩, ty, pos, af, gd⟩ :: rest) Q := h
theorem l_not (h : SXl P n W R ops L O E f (⟨d, .unOp .not T x, ty, pos, af, gd⟩ :: rest) Q) : SXl P n W R ops L O E f (⟨d, .unOp .not T x, ty, pos, af, gd⟩ :: rest) Q := h
theorem l_add (h : SXl P n W R ops L O E f (⟨d, .binOp .add T x y T', ty, pos, af, gd⟩ :: rest) Q) : SXl P n W R ops L O E f (⟨d, .binOp .add T x y T', ty, pos, af, gd⟩ :: rest) Q := h
theorem l_rem (h : SXl P n W R ops L O E f (⟨d, .binOp .rem T x y T', ty, pos, af, gd⟩ :: rest) Q) : SXl P n W R ops L O E f (⟨d, .binOp .rem T x y T', ty, pos, af, gd⟩ :: rest) Q := h
theorem l_lss (h : SXl P n W R ops L O E f (⟨d, .binOp .lss T x y T', ty, pos, af, gd⟩ :: rest) Q) : SXl P n W R ops L O E f (⟨d, .binOp .lss T x y T', ty, pos, af, gd⟩ :: rest) Q := h
theorem l_gtr (h : SXl P n W R ops L O E f (⟨d, .binOp .gtr T x y T', ty, pos, af, gd⟩ :: rest) Q) : SXl P n W R ops L O E f (⟨d, .binOp .gtr T x y T', ty, pos, af, gd⟩ :: rest) Q := h
theorem l_eql (h : SXl P n W R ops L O E f (⟨d, .binOp .eql T x y T', ty, pos, af, gd⟩ :: rest) Q) : SXl P n W R ops L O E f (⟨d, .binOp .eql T x y T', ty, pos, af, gd⟩ :: rest) Q := h
theorem l_neq (h : SXl P n W R ops L O E f (⟨d, .binOp .neq T x y T', ty, pos, af, gd⟩ :: rest) Q) : SXl P n W R ops L O E f (⟨d, .binOp .neq T x y T', ty, pos, af, gd⟩ :: rest) Q := h
end

/-! ### Drawn regions with calls that make memory -/
/-- As SXr; x: what such calls gave, by their number; U: what is told of it. -/
structure SXu (P : Program) (n : Nat) (W : World) (R : Rg W) (ops : Array Oper) (L : List Blk) (O : List Own) (E : List Res) (k : Nat) (U : List (Nat × ((Nat → Value) → World → Value → Prop))) (f : (Nat → Value) → List (Nat × Value)) (l : List Oper) (Q : Exit → Act → World → Prop) : Prop where
  run : ∀ F : (Nat → Value) → Act, (∀ x, Fr n (f x) (F x)) → RS P ops (Mod fun _ => False) (Loc W R L O E) Q k l F U
section
variable {P : Program} {n : Nat} {W : World} {R : Rg W} {L : List Blk} {O : List Own} {E : List Res} {U : List (Nat × ((Nat → Value) → World → Value → Prop))} {f : (Nat → Value) → List (Nat × Value)} {f0 : List (Nat × Value)} {Q : Exit → Act → World → Prop} {ops : Array Oper} {rest : List Oper} {k : Nat}
theorem SXu.nil (h : ∀ x, SQ n W R L O E (f x) .normal Q) : SXu P n W R ops L O E k U f [] Q := ⟨fun F hF => RS.done fun x w hS _ => (h x).run (F x) w (hF x) hS⟩
theorem SXu.v {o : Oper} {v : Value} {d : Nat} (hr : ∀ x, OpW P n W R L O E (f x) o v) (hdst : o.dst = some d) (hw : ∀ x, wantO ops (f x) o = some true) (hd : Nat.blt d n = true) (h : SXu P n W R ops L O E (k + 1) U (fun x => (d, v) :: f x) rest Q) : SXu P n W R ops L O E k U f (o :: rest) Q := ⟨fun F hF =>
  RS.val [] (fun _ => v) rfl (fun _ _ _ => rfl) (fun x => wanted_of (hF x) (hw x)) (fun x w hS _ => wp_never ((hr x).run _ w (hF x) hS) fun _ _ ⟨h1, h2⟩ => ⟨h1, hS.keep h2, h2⟩) (by rw [hdst]; exact h.run _ fun x => (hF x).put hd v)⟩
theorem SXu.no {o : Oper} {d : Nat} (hw : ∀ x, wantO ops (f x) o = some false) (hdst : o.dst = some d) (hd : Nat.blt d n = true) (h : SXu P n W R ops L O E (k + 1) U (fun x => (d, undef) :: f x) rest Q) : SXu P n W R ops L O E k U f (o :: rest) Q := ⟨fun F hF =>
  RS.skip (fun x => wanted_of (hF x) (hw x)) (by rw [hdst]; exact h.run _ fun x => (hF x).put hd undef)⟩
variable {d : Nat} {fn : FuncId} {ars : List Operand} {aT : Array TypeId} {ty : TypeId} {pos : String} {af : Array Edge} {gd : Option (Nat × Bool)}
/-- A call that makes memory. -/
theorem SXu.new {args : List Value} [TFun P fn] (V : World → Value → Prop) (hV : ∀ w w' v, V w v → Mod (fun _ => False) w w' → V w' v) (hw : ∀ x, wantO ops (f x) ⟨some d, .call ⟨.value (.func fn), ars.toArray, aT⟩, ty, pos, af, gd⟩ = some true) (hd : Nat.blt d n = true) (ha : ∀ x, evL (f x) ars = some args)
    (hc : ∀ w, Loc W R L O E w → Calls P fn args.toArray w fun e w' => ∃ v, e = .returned v ∧ V w' v ∧ Mod (fun _ => False) w w')
    (h : SXu P n W R ops L O E (k + 1) ((k, fun _ => V) :: U) (fun x => (d, x k) :: f x) rest Q) : SXu P n W R ops L O E k U f (⟨some d, .call ⟨.value (.func fn), ars.toArray, aT⟩, ty, pos, af, gd⟩ :: rest) Q := ⟨fun F hF =>
  RS.new [] V id (fun _ _ _ => rfl) rfl hV (fun x => wanted_of (hF x) (hw x)) (fun x w hS _ => by
    unfold Oper.wp
    rw [run_callop (hF x) (ha x) w _ _, Oper.upon_enter]
    refine (hc w hS).mono ?_
    rintro e w' ⟨v, rfl, h1, h2⟩
    exact ⟨v, rfl, h1, hS.keep h2, h2⟩) (h.run _ fun x => (hF x).put hd _)⟩
/-- A call that is handed such memory. -/
theorem SXu.use {v : Value} {args : (Nat → Value) → List Value} [TFun P fn] (us : List Nat) (hus : (us.all fun i => (reach ops ops.size k).contains i) = true) (hw : ∀ x, wantO ops (f x) ⟨some d, .call ⟨.value (.func fn), ars.toArray, aT⟩, ty, pos, af, gd⟩ = some true) (hd : Nat.blt d n = true) (ha : ∀ x, evL (f x) ars = some (args x))
    (hc : ∀ x w, Loc W R L O E w → (∀ u ∈ U, u.1 ∈ us → u.2 x w (x u.1)) → Calls P fn (args x).toArray w fun e w' => e = .returned v ∧ Mod (fun _ => False) w w')
    (h : SXu P n W R ops L O E (k + 1) U (fun x => (d, v) :: f x) rest Q) : SXu P n W R ops L O E k U f (⟨some d, .call ⟨.value (.func fn), ars.toArray, aT⟩, ty, pos, af, gd⟩ :: rest) Q := ⟨fun F hF =>
  RS.val us (fun _ => v) hus (fun _ _ _ => rfl) (fun x => wanted_of (hF x) (hw x)) (fun x w hS hK => by
    unfold Oper.wp
    rw [run_callop (hF x) (ha x) w _ _, Oper.upon_enter]
    refine (hc x w hS hK).mono ?_
    rintro e w' ⟨rfl, h2⟩
    exact ⟨rfl, hS.keep h2, h2⟩) (h.run _ fun x => (hF x).put hd _)⟩
end
end Go.Proofs.Ythffgbhphjkdeaa
namespace Go.Proofs.Ythffgbhphjkdeaa
open Go.RowKit
/-- A field of one cell, of a struct that is no variable. -/
class TFv (P : Program) (T j : Nat) (off : outParam Nat) : Prop where
  h : ∃ fs f d, P.underlying T = some (.struct fs) ∧ fs[j]? = some f ∧ f.offset = off ∧ P.underlying f.type = some d ∧ d.isRow = false
theorem OpW.field {P : Program} {n : Nat} {W : World} {R : Rg W} {L : List Blk} {O : List Own} {E : List Res} {f : List (Nat × Value)} {d : Option Tmp} {T j : Nat} {x : Operand} {ty : TypeId} {pos : String} {af : Array Edge} {gd : Option (Nat × Bool)} {off : Nat} {cs : Array Value} {v : Value} [t : TFv P T j off] (hx : evO f x = some (.agg cs)) (hv : cs[off]? = some v) : OpW P n W R L O E f ⟨d, .field T x j, ty, pos, af, gd⟩ v :=
  OpW.of (fun a w hf _ => by
    obtain ⟨fs, fl, d, h1, h2, h3, h4, h5⟩ := t.h
    have h6 : (isAgg fl.type).run P w = .ok false w := by
      cases d <;> simp_all [isAgg, run_underlying h4, TypeDesc.isRow]
    subst h3
    simp [execOp, hf.eval hx, Instr.field, run_underlying h1, h2, part, asAgg, h6, hv])

section
variable {P : Program} {n : Nat} {W : World} {R : Rg W} {L : List Blk} {O : List Own} {E : List Res} {f : List (Nat × Value)} {Q : Exit → Act → World → Prop} {ops : Array Oper} {rest : List Oper} {k : Nat}
variable {d : Option Nat} {c x y : Operand} {ty T T' : TypeId} {j fn : Nat} {ars : Array Operand} {aT : Array TypeId} {parts : Array (Nat × Operand)} {pos : String} {af : Array Edge} {gd : Option (Nat × Bool)}
/-! Which operation stands next. -/
end

section
variable {P : Program} {n : Nat} {W : World} {R : Rg W} {L : List Blk} {O : List Own} {E : List Res} {f : List (Nat × Value)} {Q : Exit → Act → World → Prop} {ops : Array Oper} {rest : List Oper}
variable {d : Option Nat} {dn : Nat} {x y : Operand} {ty T T' : TypeId} {pos : String} {af : Array Edge} {gd : Option (Nat × Bool)}
end

end Go.Proofs.Ythffgbhphjkdeaa
namespace Go.Proofs.Ythffgbhphjkdeaa
open Go.RowKit

class TStr (P : Program) (T : TypeId) : Prop where
  h : P.underlying T = some .string
class TPtr (P : Program) (T : TypeId) : Prop where
  h : ∃ e, P.underlying T = some (.pointer e)
section
variable {P : Program} {n : Nat} {W : World} {R : Rg W} {L : List Blk} {O : List Own} {E : List Res} {f : List (Nat × Value)} {Q : Exit → Act → World → Prop} {ops : Array Oper} {rest : List Oper} {k : Nat}
variable {d : Option Nat} {c x y z : Operand} {ty T T' : TypeId} {j fn : Nat} {ars : Array Operand} {aT : Array TypeId} {pos : String} {af : Array Edge} {gd : Option (Nat × Bool)}
variable {a b : List UInt8}

theorem SQ.tail (h : SXl P n W R ops L O E f rest Q) : SQ n W R L O E f .normal (fun _ a w => wpList P ops Q rest a w) := ⟨fun a w hf hl => h.run a w hf hl⟩
theorem l_slice {lo hi mx : Option Operand} (h : SXl P n W R ops L O E f (⟨d, .slice T x lo hi mx, ty, pos, af, gd⟩ :: rest) Q) : SXl P n W R ops L O E f (⟨d, .slice T x lo hi mx, ty, pos, af, gd⟩ :: rest) Q := h
end
end Go.Proofs.Ythffgbhphjkdeaa
