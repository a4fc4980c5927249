/-
  PROVED: contracts of the exact laws' functions at slices of nodes: copy, comparison, count. No condition but a bound on the lengths.
-/
import Derived.Test.YtcolkidnjojlmaaNodeOps
namespace Go.Proofs.Ytcolkidnjojlmaa
open Go.RowKit
attribute [local irreducible] Style.cells nodeRow

abbrev NodeSlice (o : Bool) (R : Nat → Prop) (w : World) (a : Option Addr) (l : List Node) : Prop := SliceAt (NodeIn o R) 64 R w a l
theorem NodeSlice.mod {o : Bool} {R S : Nat → Prop} {w w' : World} {a : Option Addr} {l : List Node} (h : NodeSlice o R w a l) (hm : Mod S w w') (hs : ∀ k, R k → ¬ S k) : NodeSlice o R w' a l := SliceAt.mod h hm hs fun _ _ hx => hx.mod hm hs
theorem NodeSlice.keep {o : Bool} {R : Nat → Prop} {w w' : World} {a : Option Addr} {l : List Node} (h : NodeSlice o R w a l) (hm : Mod (fun _ => False) w w') : NodeSlice o R w' a l := h.mod hm fun _ _ f => f
/-- Lengths that a walk can bear. -/
def Node.fits (n : Nat) (x : Node) : Prop := x.kids.length ≤ n ∧ x.rules.length ≤ n

theorem info_Node : (Try.prog.info? 137).map (fun i => (i.zero, i.size, i.bytes)) = some (some (.agg (nodeRow 0 none 0 0 Style.zero false none 0 0).toArray), 64, 536) := by kernel_rfl
/-- A row of a slice, as the walk loads it. -/
theorem row_of_get {w : World} {b p : Nat} {r : List Value} {n : Nat} (hn : r.length = n) (h0 : 0 < n) (h : ∀ j v, r[j]? = some v → w.cell? ⟨b, p + j, none⟩ = some v) : hasRow w b p n = true ∧ rowOf w b p n = r.toArray := by
  subst hn
  exact rowOf_told h0 h

set_option maxRecDepth 100000 in
set_option maxHeartbeats 4000000 in
theorem toNodeS_any (l : List Node) (o : Bool) (a : Option Addr) (c : Nat) (R : Nat → Prop) (w : World) (hl : l.length ≤ 1048576) (hf : ∀ x ∈ l, x.fits 1048576) (h : NodeSlice o R w a l) :
    Calls Try.prog 94 #[.slice a l.length c] w (NewNest (NodeIn true) 137 64 w l) := by
  have H := hid h
  have HF := hid hf
  clear h hf
  obtain ⟨i0, hi, hz0, hz1, hz2⟩ := info_parts info_Node
  have hmk : ∀ W : World, (Instr.makeSlice 59 (.int .i64 (l.length : Int)) (.int .i64 (l.length : Int))).run Try.prog W = .ok (.slice (some ⟨W.heap.size, 0, none⟩) l.length l.length) (W.alloc (.cells (madeCells (Value.cells (.agg (nodeRow 0 none 0 0 Style.zero false none 0 0).toArray)) (l.length * 64)) 137)) := by
    intro W
    have := run_make (P := Try.prog) W 59 137 i0 _ Try.underlying59 hi hz0 .i64 .i64 l.length l.length (by omega) (by omega) (by rw [hz2]; omega) (by omega)
    simpa [hz1] using this
  clear hz0 hz1 hz2 hi
  go_enter Try.func94, Try.ntmps94
  go_wp2
  go_loopw [4] (fun i wr => ∃ (k : Nat) (rows : List (List Value)), k ≤ l.length ∧ i = .int .i64 k ∧ Hid (rows.length = k ∧ (∀ r ∈ rows, r.length = 64) ∧ (∀ (i : Nat) (r : List Value) (x : Node), rows[i]? = some r → l[i]? = some x → NodeIn true (fun b => w.heap.size < b) wr r x)) ∧ Filled w.heap.size 137 (l.length * 64) wr rows.flatten ∧ Mod (fun _ => False) w wr) (fun i _ => l.length - (intOf i).toNat)
  case atStart => exact ⟨0, [], by omega, rfl, hid ⟨rfl, (fun _ h => by simp at h), (fun _ _ _ h => by simp at h)⟩, Filled.made w _ _ _ (size_madeCells _ _), (Mod.refl _ w).alloc _⟩
  case round =>
    obtain ⟨k, rows, hk, rfl, HR, hF, hM⟩ := hrel
    clear hmk
    by_cases hlt : k < l.length
    · obtain ⟨b, o', x, r, rfl, hb, hbw, hx, hin, hrl', hc⟩ := (H.out.keep hM).get hlt
      obtain ⟨hxk, hxr⟩ := HF.out x (List.mem_of_getElem? hx.out)
      obtain ⟨q0, q1⟩ := row_of_get hrl' (by omega) hc
      have Hin := hid hin
      have hF0 := hF.size
      have HFl := hid hF
      have HM := hid hM
      clear hc hrl' hin hF hM
      go_wp2_with fail
      refine (toNode_any x o r R _ hxk hxr (Hin.out.keep (by (repeat (first | with_reducible exact Mod.refl _ _ | with_reducible refine Mod.drewN ?_ _ | with_reducible refine Mod.drew ?_ | with_reducible refine Mod.alloc ?_ _ | ((with_reducible refine Mod.setNew ?_ ?_ _ _ _); (rotate_left; omega)) | with_reducible refine Mod.setAt ?_ _ _ _ ))))).mono ?_
      rintro e w1 ⟨cs1, rfl, ⟨k1, c1, t1, c1', rfl, n1, n2, n3⟩, hm1⟩
      have HN := hid (show NodeIn true (fun b => wr.heap.size ≤ b) w1 (nodeRow x.up k1 x.kids.length c1 x.style x.measured t1 x.rules.length c1') x from ⟨k1, c1, t1, c1', rfl, n1, n2, n3⟩)
      have hF1 := HFl.out.mod hm1 (fun f => f)
      have q2 := hF1.row (k * 64) 64 (by omega)
      have q3 := hF1.open
      have HF1 := hid hF1
      have Hm1 := hid hm1
      clear n1 n2 n3 hF1 hm1 q0 q1
      go_wp2
      go_roundw
      case rel =>
        obtain ⟨hrl, hrs, hrep⟩ := HR.out
        have hmr : Mod (fun k => k = w.heap.size) wr (w1.setCells w.heap.size (k * 64) (nodeRow x.up k1 x.kids.length c1 x.style x.measured t1 x.rules.length c1')) := Mod.setCells (R := fun k => k = w.heap.size) (Hm1.out.mono (fun _ _ f => f.elim)) (fun _ => .inl rfl) _ _
        have hms : Mod (fun k => k = w.heap.size) w1 (w1.setCells w.heap.size (k * 64) (nodeRow x.up k1 x.kids.length c1 x.style x.measured t1 x.rules.length c1')) := Mod.setCells (R := fun k => k = w.heap.size) (Mod.refl _ _) (fun _ => .inl rfl) _ _
        refine ⟨k + 1, rows ++ [nodeRow x.up k1 x.kids.length c1 x.style x.measured t1 x.rules.length c1'], by omega, by go_num, hid ⟨by simp [hrl], lens_succ hrs (nodeRow_len _ _ _ _ _ _ _ _ _), ?_⟩, ?_, ?_⟩
        · refine rows_succ hx hrl (rows_map hrep fun r x hq => hq.mod hmr (fun k hk e => by omega)) ?_
          exact (HN.out.mod hms (fun k hk (e : k = w.heap.size) => by omega)).wide (fun k _ hk => by show w.heap.size < k; omega)
        · have hl0 := flatten_length hrs
          rw [hrl] at hl0
          rw [List.flatten_append, List.flatten_singleton]
          exact HF1.out.pushRow _ hl0.symm (by rw [nodeRow_len]; omega)
        · exact (HM.out.thenNone Hm1.out).setCellsNew (Nat.le_refl _) _ _
      case measure => simp [intOf]; omega
    · have hk' : k = l.length := by omega
      subst hk'
      obtain ⟨hrl, hrs, hrep⟩ := HR.out
      go_wp2
      go_ret
      refine ⟨w.heap.size, rows, rfl, Nat.le_refl _, ?_, hrl, hrs, rows_map hrep fun r x hq => hq.wide fun _ _ hk => Nat.le_of_lt hk, hM⟩
      exact hF.full (by rw [flatten_length hrs, hrl])

set_option maxRecDepth 100000 in
set_option maxHeartbeats 4000000 in
theorem eqNodeS_same (l : List Node) (o o' : Bool) (a a' : Option Addr) (c c' : Nat) (R S : Nat → Prop) (w : World) (hl : l.length ≤ 1048576) (hf : ∀ x ∈ l, x.fits 1048576) (h : NodeSlice o R w a l) (h' : NodeSlice o' S w a' l) :
    Calls Try.prog 103 #[.slice a l.length c, .slice a' l.length c'] w fun e w' => e = .returned (.bool true) ∧ Mod (fun _ => False) w w' := by
  have H := hid h
  have H' := hid h'
  have HF := hid hf
  clear h h' hf
  have hn0 : ((l.length : Int) != (l.length : Int)) = false := by simp
  go_enter Try.func103, Try.ntmps103
  go_wp2
  go_loopw [5] (fun i wr => ∃ k : Nat, k ≤ l.length ∧ i = .int .i64 k ∧ Mod (fun _ => False) w wr) (fun i _ => l.length - (intOf i).toNat)
  case atStart => exact ⟨0, by omega, rfl, Mod.refl _ _⟩
  case round =>
    obtain ⟨k, hk, rfl, hM⟩ := hrel
    by_cases hlt : k < l.length
    · obtain ⟨b, o1, x, r, rfl, hb, hbw, hx, hin, hrl, hc⟩ := (H.out.keep hM).get hlt
      obtain ⟨b', o2, y, r', rfl, hb', hbw', hy, hin', hrl', hd⟩ := (H'.out.keep hM).get hlt
      obtain rfl : x = y := Option.some.inj (hx.out.symm.trans hy.out)
      obtain ⟨hxk, hxr⟩ := HF.out x (List.mem_of_getElem? hx.out)
      obtain ⟨q0, q1⟩ := row_of_get hrl (by omega) hc
      obtain ⟨q2, q3⟩ := row_of_get hrl' (by omega) hd
      have Hin := hid hin
      have Hin' := hid hin'
      have HM := hid hM
      clear hc hd hrl hrl' hin hin' hM
      go_wp2
      go_still_tail 8, (by kernel_rfl)
      go_wp2_with fail
      try rw [q1]
      try rw [q3]
      refine (eqNode_same x o o' r r' R S _ hxk hxr (Hin.out.keep (by (repeat (first | with_reducible exact Mod.refl _ _ | with_reducible refine Mod.drewN ?_ _ | with_reducible refine Mod.drew ?_ | with_reducible refine Mod.alloc ?_ _ | ((with_reducible refine Mod.setNew ?_ ?_ _ _ _); (rotate_left; omega)) | with_reducible refine Mod.setAt ?_ _ _ _ )))) (Hin'.out.keep (by (repeat (first | with_reducible exact Mod.refl _ _ | with_reducible refine Mod.drewN ?_ _ | with_reducible refine Mod.drew ?_ | with_reducible refine Mod.alloc ?_ _ | ((with_reducible refine Mod.setNew ?_ ?_ _ _ _); (rotate_left; omega)) | with_reducible refine Mod.setAt ?_ _ _ _ ))))).mono ?_
      rintro e w1 ⟨rfl, hm1⟩
      go_wp2
      go_roundw
      case rel => exact ⟨k + 1, by omega, by go_num, HM.out.drew.thenNone hm1⟩
      case measure => simp [intOf]; omega
    · go_wp2
      go_ret
      exact ⟨rfl, hM⟩

set_option maxRecDepth 100000 in
set_option maxHeartbeats 4000000 in
theorem szNodeS_any (l : List Node) (o : Bool) (a : Option Addr) (c : Nat) (R : Nat → Prop) (left : Int) (w : World) (h0 : 0 ≤ left) (h1 : left ≤ 1048576) (hl : l.length ≤ 9223372036854775807) (hf : ∀ x ∈ l, x.fits 9223372036854775807) (h : NodeSlice o R w a l) :
    Calls Try.prog 87 #[.slice a l.length c, .int .i64 left] w fun e w' => e = .returned (.int .i64 (szRes left (l.length + costs Node.cost l))) ∧ Mod (fun _ => False) w w' := by
  have H := hid h
  have HF := hid hf
  clear h hf
  by_cases hs : left < l.length
  · rw [szRes_less (by omega)]
    have h2 : left - l.length < 0 := by omega
    have h3 : -9223372036854775807 ≤ left - l.length := by omega
    go_enter Try.func87, Try.ntmps87
    go_wp2
    go_ret
    exact ⟨rfl, Mod.refl _ _⟩
  · have h2 : 0 ≤ left - l.length := by omega
    go_enter Try.func87, Try.ntmps87
    go_wp2
    go_loopw [1, 5] (fun z i wr => ∃ (k : Nat) (q : Int), k ≤ l.length ∧ z = .int .i64 q ∧ Hid (q = left - l.length - costs Node.cost (l.take k)) ∧ 0 ≤ q ∧ q ≤ 1048576 ∧ i = .int .i64 k ∧ Mod (fun _ => False) w wr) (fun _ i _ => l.length - (intOf i).toNat)
    case atStart => exact ⟨0, _, by omega, rfl, hid (by simp [costs]), h2, by omega, rfl, Mod.refl _ _⟩
    case round =>
      obtain ⟨k, q, hk, rfl, hq, q1, q2, rfl, hM⟩ := hrel
      by_cases hlt : k < l.length
      · obtain ⟨b, o', x, r, rfl, hb, hbw, hx, hin, hrl', hc⟩ := (H.out.keep hM).get hlt
        obtain ⟨hxk, hxr⟩ := HF.out x (List.mem_of_getElem? hx.out)
        obtain ⟨p0, p1⟩ := row_of_get hrl' (by omega) hc
        have Hin := hid hin
        have HM := hid hM
        clear hc hrl' hin hM
        have hs1 := hid (costs_succ Node.cost hx)
        have hs2 := hid (costs_take Node.cost l (k + 1))
        go_wp2_with fail
        refine (szNode_any x o r R q _ q1 q2 hxk hxr (Hin.out.keep (by (repeat (first | with_reducible exact Mod.refl _ _ | with_reducible refine Mod.drewN ?_ _ | with_reducible refine Mod.drew ?_ | with_reducible refine Mod.alloc ?_ _ | ((with_reducible refine Mod.setNew ?_ ?_ _ _ _); (rotate_left; omega)) | with_reducible refine Mod.setAt ?_ _ _ _ ))))).mono ?_
        rintro e w1 ⟨rfl, hm1⟩
        have HM1 := hid (HM.out.thenNone hm1)
        clear hm1
        by_cases hsx : q < x.cost
        · rw [szRes_less hsx]
          have hlast := hid (szRes_less (left := left) (n := l.length + costs Node.cost l) (by have := hs1.out; have := hs2.out; have := hq.out; omega))
          go_wp2
          go_ret
          exact ⟨ret_int hlast.out.symm, HM1.out⟩
        · rw [szRes_more (by omega)]
          have q3 : 0 ≤ q - x.cost := by omega
          have hq2 := hid (show q - x.cost = left - l.length - costs Node.cost (l.take (k + 1)) by have := hs1.out; have := hq.out; omega)
          go_wp2
          go_roundw
          case rel => exact ⟨k + 1, _, by omega, rfl, hq2, q3, by omega, by go_num, HM1.out⟩
          case measure => simp [intOf]; omega
      · have hk' : k = l.length := by omega
        subst hk'
        have hlast := hid (show q = szRes left (l.length + costs Node.cost l) by have h5 := hq.out; rw [List.take_length] at h5; rw [szRes_more (by omega)]; omega)
        go_wp2
        go_ret
        exact ⟨ret_int hlast.out, hM⟩

end Go.Proofs.Ytcolkidnjojlmaa
