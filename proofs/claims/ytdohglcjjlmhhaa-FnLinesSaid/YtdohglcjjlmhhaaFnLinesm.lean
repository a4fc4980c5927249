/-
  PROVED: for every list of bytes the law FnLines returns true. No condition.
-/
import Derived.Test.YtdohglcjjlmhhaaMIc
import Derived.Test.YtdohglcjjlmhhaaRows
import Derived.ProofKit
import Derived.OpenShut
import Derived.ShutString
import Derived.ChangeOld
set_option linter.unusedVariables false
set_option linter.unusedSimpArgs false
namespace Go.Proofs.Ytdohglcjjlmhhaa
open Go.RowKit
set_option linter.unusedVariables false
set_option linter.unusedSimpArgs false

theorem lines_of {base : Nat} {w : World} {os : List Own} {ps : List PLine} {a : Option Addr} {c : Nat} (h : Owns base w os) (hr : rowsO ps a c ∈ os) (hp : ∀ p ∈ ps, lineO p ∈ os) : LinesAt (fun k => base ≤ k) w a ps := by
  refine ⟨?_, fun p hpm => lineO_slice h (hp p hpm)⟩
  have h1 := h.row _ hr
  unfold rowsO at h1
  simp only at h1
  rw [← pcells] at h1
  exact own_slice h1 (fun _ => rfl) (by decide)
theorem rows_cell {base : Nat} {w : World} {os : List Own} {ps : List PLine} {g c k : Nat} {p : PLine} (h : Owns base w os) (hr : rowsO ps (some ⟨g, 0, none⟩) c ∈ os) (hk : ps[k]? = some p) : w.cell? ⟨g, 0 + k, none⟩ = some (lineV p) := by
  have h1 := h.row _ hr
  unfold rowsO at h1
  simp only at h1
  have := h1.cellAt (0 + k) (by rw [Nat.zero_add, Nat.mul_one]; exact (List.getElem?_eq_some_iff.1 hk).1)
  rw [this, Nat.zero_add, List.getElem?_map, hk]
  rfl
theorem rows_line {base : Nat} {w : World} {os : List Own} {ps : List PLine} {g c k lc : Nat} {ln : List Int} {la : Option Addr} (h : Owns base w os) (hr : rowsO ps (some ⟨g, 0, none⟩) c ∈ os) (hk : ps[k]? = some (ln, (la, lc))) : w.cell? ⟨g, 0 + k, none⟩ = some (.slice la ln.length lc) := rows_cell h hr hk
theorem line_addr {base : Nat} {w : World} {os : List Own} {p : PLine} (h : Owns base w os) (hp : lineO p ∈ os) (h0 : 0 < p.1.length) : ∃ g, p.2.1 = some ⟨g, 0, none⟩ := by
  rcases own_parts (h.row _ hp) with h1 | ⟨b, h1, _⟩
  · omega
  · exact ⟨b, h1⟩
theorem line_cell {base : Nat} {w : World} {os : List Own} {ln : List Int} {g c j : Nat} {y : Int} (h : Owns base w os) (hp : lineO (ln, (some ⟨g, 0, none⟩, c)) ∈ os) (hj : ln[j]? = some y) : w.cell? ⟨g, 0 + j, none⟩ = some (.int .i64 y) := by
  obtain ⟨b, o, x, e, _, _, hx, hc⟩ := IntSlice.get (lineO_slice h hp) (k := j) (List.getElem?_eq_some_iff.1 hj).1
  simp only [Option.some.injEq, Addr.mk.injEq, and_true] at e
  obtain ⟨rfl, rfl⟩ := e
  rw [hx.out] at hj
  rw [← Option.some.inj hj]
  exact hc
theorem item_cell {R : Nat → Prop} {w : World} {g k : Nat} {l : List Item} {x : Item} (h : ItemSlice R w (some ⟨g, 0, none⟩) l) (hk : l[k]? = some x) : ∀ j v, x.cells[j]? = some v → w.cell? ⟨g, 0 + k * 9 + j, none⟩ = some v := by
  obtain ⟨b, o, y, e, _, _, hy, hc⟩ := h.get (List.getElem?_eq_some_iff.1 hk).1
  simp only [Option.some.injEq, Addr.mk.injEq, and_true] at e
  obtain ⟨rfl, rfl⟩ := e
  obtain rfl : x = y := Option.some.inj (hk.symm.trans hy)
  exact hc
theorem itemRes_addr {l : List Item} {q : SlP} {w : World} (h : (ownRes Item.cells 36 9 l q).says w) (h0 : 0 < l.length) : ∃ g, q.a = some ⟨g, 0, none⟩ := by
  rcases own_parts h with h1 | ⟨b, h1, _⟩
  · omega
  · exact ⟨b, h1⟩
def itemsO (q : ItemsQ) : Own := ⟨.slice q.a q.xs.length q.c, 36, 9, q.xs.length, (q.xs.map Item.cells).flatten⟩
theorem items_at {base : Nat} {w : World} {os : List Own} {q : ItemsQ} (h : Owns base w os) (hq : itemsO q ∈ os) : ItemSlice (fun k => base ≤ k) w q.a q.xs := own_slice (h.row _ hq) Item.cells_len (by decide)
theorem two_lines {W : World} {R : Rg W} {L : List Blk} {O : List Own} {E : List Res} {w : World} {g1 g2 g3 : Nat} (hR : ∀ k, ¬ R.q k) (hl : Loc W R (⟨g3, [.slice (some ⟨g1, 0, none⟩) 1 1, .slice (some ⟨g2, 0, none⟩) 1 1], 29⟩ :: ⟨g2, [.int .i64 1], 3⟩ :: ⟨g1, [.int .i64 0], 3⟩ :: L) O E w) :
    LinesAt (fun k => W.heap.size ≤ k) w (some ⟨g3, 0, none⟩) [([0], (some ⟨g1, 0, none⟩, 1)), ([1], (some ⟨g2, 0, none⟩, 1))] := by
  have h3 := ((hl.toOwn (m := 2) (sz := 1) (hR _) rfl (by decide)).toOwn (m := 1) (sz := 1) (hR _) rfl (by decide)).toOwn (m := 1) (sz := 1) (hR _) rfl (by decide)
  refine lines_of (c := 2) h3.owns (.tail _ (.tail _ (.head _))) fun p hp => ?_
  rcases List.mem_cons.1 hp with rfl | hp
  · exact .head _
  · obtain rfl := List.mem_singleton.1 hp
    exact .tail _ (.head _)
theorem lineOf_two (g1 g2 g3 : Nat) (w : World) {R : Nat → Prop} (h : LinesAt R w (some ⟨g3, 0, none⟩) [([0], (some ⟨g1, 0, none⟩, 1)), ([1], (some ⟨g2, 0, none⟩, 1))]) : Calls Try.prog 11 #[.slice (some ⟨g3, 0, none⟩) 2 2, .int .i64 5] w fun e w2 => e = .returned (.int .i64 (-1)) ∧ Mod (fun _ => False) w w2 :=
  lineOf_any _ 5 _ 2 _ w (by simp) (fun p hp => by
    rcases List.mem_cons.1 hp with rfl | hp
    · simp
    · obtain rfl := List.mem_singleton.1 hp
      simp) h
set_option maxRecDepth 100000 in
set_option maxHeartbeats 16000000 in
theorem fnLines_walk (w : World) (a : Option Addr) (len cap : Nat) (hl0 : len ≤ 9223372036854775807) (hy : Bytes w.heap.size w a len) :
    Calls Try.prog 3 #[.slice a len cap] w fun e w' => e = .returned (.bool true) ∧ Mod (fun _ => False) w w' := by
  have hm : len ≤ maxLen := by unfold maxLen; exact hl0
  refine calls_sx Try.func3 rfl rfl (fun a h1 h2 h3 => ((Fr.nil h1 h2).arg (h3 0 _ rfl))) ?_
  by_cases hbig : 1048576 < len
  · repeat (first | refine SX.seq ?_ | refine SXl.nil ?_ | refine SX.region ?_ | refine SQ.thenNormal ?_ | refine SX.condT rfl ?_ | (refine l_call ?_; (refine SXl.v (OpW.call rfl (fun w hl => bigT a cap hm hbig _)) rfl ?_ ?_ ?_); rfl; rfl) | (refine l_move ?_; (refine SXl.v (OpW.move rfl) rfl ?_ ?_ ?_); rfl; rfl) | (refine l_assign ?_; (refine SXl.v (OpW.assign rfl) rfl ?_ ?_ ?_); rfl; rfl) | refine SX.ret ?_ | refine SQ.thenRet ?_)
    refine SQ.body1 rfl rfl (fun w' hl => ⟨rfl, hl.mod⟩)
  repeat (first | refine SX.seq ?_ | refine SXl.nil ?_ | refine SX.region ?_ | refine SQ.thenNormal ?_ | refine SX.skip ?_ | refine SX.condF rfl ?_ | (refine l_call ?_; (refine SXl.v (OpW.call rfl (fun w hl => bigF a cap hm hbig _)) rfl ?_ ?_ ?_); rfl; rfl) | (refine l_move ?_; (refine SXl.v (OpW.move rfl) rfl ?_ ?_ ?_); rfl; rfl) | (refine l_assign ?_; (refine SXl.v (OpW.assign rfl) rfl ?_ ?_ ?_); rfl; rfl))
  refine l_call ?_
  refine SXl.callO rfl rfl rfl (fun w' hl => drawLinesOf_o a len cap w' (by omega) (bytes_loc hy (fun _ _ f => f) hl)) (fun q hq => ?_)
  obtain ⟨q, gap, room, wraps⟩ := q
  obtain ⟨⟨hf, hql⟩, hg, hr⟩ := hq
  simp only at hf hql hg hr
  simp only [LineArgs.v, ItemsQ.v]
  change SXl _ _ _ _ _ _ [itemsO q] _ _ _ _
  have hls := lines_flat (list := q.xs) (gap := gap) (room := room) (one := oneLine q.xs room wraps) q.xs.length
  have hne := lines_ne (list := q.xs) (gap := gap) (room := room) (one := oneLine q.xs room wraps) q.xs.length
  have hfit := fun (ho : oneLine q.xs room wraps = false) => lines_fit (list := q.xs) (gap := gap) (room := room) ho q.xs.length
  have hmem := fun (ln : List Int) (hx : ln ∈ linesTo q.xs gap room (oneLine q.xs room wraps) q.xs.length) => linesTo_mem_len hx
  have hcount := linesTo_len (list := q.xs) (gap := gap) (room := room) (one := oneLine q.xs room wraps) q.xs.length
  have hL1 := fun (w' : World) (h : ItemSlice (fun k => w.heap.size ≤ k) w' q.a q.xs) => linesOf_any q.xs gap room wraps q.a q.c _ w' (by omega) hf (by omega) h
  have hL2 := fun (w' : World) (h : ItemSlice (fun k => w.heap.size ≤ k) w' q.a q.xs) => slinesOf_any q.xs gap room wraps q.a q.c _ w' (by omega) hf (by omega) h
  have hG1 := fun (w' : World) (h : ItemSlice (fun k => w.heap.size ≤ k) w' q.a q.xs) => longest_any q.xs gap room wraps q.a q.c _ w' (by omega) hf (by omega) h
  have hG2 := fun (w' : World) (h : ItemSlice (fun k => w.heap.size ≤ k) w' q.a q.xs) => slongest_any q.xs gap room wraps q.a q.c _ w' (by omega) hf (by omega) h
  have hcase := oneLine_cases q.xs room wraps
  generalize oneLine q.xs room wraps = one at *
  generalize linesTo q.xs gap room one q.xs.length = ls at *
  repeat (first | refine SX.seq ?_ | refine SXl.nil ?_ | refine SX.region ?_ | refine SQ.thenNormal ?_ | (refine l_move ?_; (refine SXl.v (OpW.move rfl) rfl ?_ ?_ ?_); rfl; rfl) | (refine l_assign ?_; (refine SXl.v (OpW.assign rfl) rfl ?_ ?_ ?_); rfl; rfl) | (refine l_extract ?_; (refine SXl.v (OpW.extract rfl rfl) rfl ?_ ?_ ?_); rfl; rfl))
  refine l_call ?_
  refine SXl.callO rfl rfl rfl (fun w' hl => hL1 w' (items_at hl.owns (.head _))) (fun q1 hq1 => ?_)
  obtain ⟨ps, pa, pc⟩ := q1
  simp only at hq1
  simp only [LinesQ.v, LinesQ.os, List.cons_append]
  have hpl : ps.length = ls.length := by rw [← hq1, List.length_map]
  have hpm : ∀ p ∈ ps, lineO p ∈ rowsO ps pa pc :: (ps.map lineO ++ [itemsO q]) := fun p hp => List.mem_cons_of_mem _ (List.mem_append_left _ (List.mem_map.2 ⟨p, hp, rfl⟩))
  have hqm : itemsO q ∈ rowsO ps pa pc :: (ps.map lineO ++ [itemsO q]) := List.mem_cons_of_mem _ (List.mem_append_right _ (.head _))
  have hlen1 : ∀ p ∈ ps, p.1.length ≤ 1048576 := fun p hp => by
    have := hmem p.1 (hq1 ▸ List.mem_map.2 ⟨p, hp, rfl⟩)
    omega
  have hO1 : ∀ i w', Loc w (Rg.none w) [] (rowsO ps pa pc :: (ps.map lineO ++ [itemsO q])) [] w' → Calls Try.prog 11 #[.slice pa ps.length pc, .int .i64 i] w' fun e w2 => e = .returned (.int .i64 (lineOf ls i)) ∧ Mod (fun _ => False) w' w2 := fun i w' hl => by
    have := lineOf_any ps i pa pc _ w' (by omega) hlen1 (lines_of hl.owns (.head _) hpm)
    rwa [hq1] at this
  have hahead : ∀ k, k ≤ ls.length → ahead ls k ≤ 13 := fun k hk => by
    have h1 := ahead_mono (lines := ls) hk
    have h2 : ahead ls ls.length = q.xs.length := by unfold ahead; rw [List.take_length, hls]; simp
    omega
  repeat (first | refine SX.seq ?_ | refine SXl.nil ?_ | refine SX.region ?_ | refine SQ.thenNormal ?_ | refine SX.block ?_ | (refine l_assign ?_; (refine SXl.v (OpW.assign rfl) rfl ?_ ?_ ?_); rfl; rfl))
  refine SX.loopi (fun k : Nat => k ≤ ps.length) (fun k => ps.length - k) (fun _ => []) (fun _ => rowsO ps pa pc :: (ps.map lineO ++ [itemsO q])) (fun _ => []) (fun k => [(0, .slice a len cap), (3, .slice q.a q.xs.length q.c), (4, .int .i64 gap), (5, .int .i64 room), (6, .bool wraps), (7, .slice pa ps.length pc), (8, .int .i64 (ahead ls k : Nat)), (9, .int .i64 k)]) 0 (Nat.zero_le _) ?_ (fun _ hl => hl) ?_
  · (repeat (first | exact subF_nil _ | (refine subF_cons rfl ?_) | (refine subF_consv rfl (by rfl) ?_)))
  intro k hk
  by_cases hlt : k < ps.length
  rotate_left
  · obtain rfl : k = ps.length := by omega
    have e1 : ahead ls ps.length = q.xs.length := by rw [hpl]; unfold ahead; rw [List.take_length, hls]; simp
    rw [e1]
    repeat (first | refine SX.seq ?_ | refine SXl.nil ?_ | refine SX.region ?_ | refine SQ.thenNormal ?_ | refine SX.condF rfl ?_ | (refine l_move ?_; (refine SXl.v (OpW.move rfl) rfl ?_ ?_ ?_); rfl; rfl) | (refine l_len ?_; (refine SXl.v (OpW.len rfl) rfl ?_ ?_ ?_); rfl; rfl) | (refine l_lss ?_; (refine SXl.v (OpW.lssF rfl rfl (by omega)) rfl ?_ ?_ ?_); rfl; rfl) | refine SX.exit ?_ | refine SQ.thenExit ?_ | refine SQ.blockExit ?_)
    refine l_call ?_
    refine SXl.callO rfl rfl rfl (fun w' hl => drawLineItems_o a len cap w' (by omega) (bytes_loc hy (fun _ _ f => f) hl)) (fun q2 hq2 => ?_)
    obtain ⟨q2, l2, l2a, l2c⟩ := q2
    obtain ⟨⟨hf2, hql2⟩, hl2⟩ := hq2
    simp only at hf2 hql2 hl2
    simp only [ItemsQ.v, ItemsQ.os, lineV, List.cons_append, List.nil_append]
    have hI1 := fun (S S' : Nat → Prop) (w' : World) (h : ItemSlice S w' q2.a q2.xs) (h' : IntSlice S' w' l2a l2) => lineItems_any q2.xs l2 q2.a l2a q2.c l2c S S' w' (by omega) (by omega) h h'
    have hI2 := fun (S S' : Nat → Prop) (w' : World) (h : ItemSlice S w' q2.a q2.xs) (h' : IntSlice S' w' l2a l2) => slineItems_any q2.xs l2 q2.a l2a q2.c l2c S S' w' (by omega) (by omega) h h'
    have hli : (lineIt q2.xs l2).length ≤ 1048576 := by have := lineIt_len q2.xs l2; omega
    generalize lineIt q2.xs l2 = li at *
    generalize longTo q.xs gap ls ls.length = V at *
    repeat (first | refine SX.seq ?_ | refine SXl.nil ?_ | refine SX.region ?_ | refine SQ.thenNormal ?_ | (refine l_call ?_; (first | refine SXl.v (OpW.call rfl (fun w hl => hG1 _ (items_at hl.owns (List.mem_cons_of_mem _ (List.mem_cons_of_mem _ hqm))))) rfl ?_ ?_ ?_ | refine SXl.v (OpW.call rfl (fun w hl => hG2 _ (items_at hl.owns (List.mem_cons_of_mem _ (List.mem_cons_of_mem _ hqm))))) rfl ?_ ?_ ?_); rfl; rfl) | (refine l_move ?_; (refine SXl.v (OpW.move rfl) rfl ?_ ?_ ?_); rfl; rfl) | (refine l_assign ?_; (refine SXl.v (OpW.assign rfl) rfl ?_ ?_ ?_); rfl; rfl) | (refine l_len ?_; (refine SXl.v (OpW.len rfl) rfl ?_ ?_ ?_); rfl; rfl) | (refine l_eql ?_; (refine SXl.v (OpW.eqlT rfl rfl (by omega)) rfl ?_ ?_ ?_); rfl; rfl) | (refine l_pick ?_; (refine SXl.v (OpW.pick rfl rfl rfl) rfl ?_ ?_ ?_); rfl; rfl) | (refine l_extract ?_; (refine SXl.v (OpW.extract rfl rfl) rfl ?_ ?_ ?_); rfl; rfl))
    refine l_call ?_
    refine SXl.calln1 (v := fun q => .slice q.a li.length q.c) (F1 := ownRes Item.cells 36 9 li) rfl rfl rfl (fun w' hl => (hI1 _ _ w' (items_at (q := q2) hl.owns (.head _)) (lineO_slice (p := (l2, (l2a, l2c))) hl.owns (.tail _ (.head _)))).mono fun _ _ h => new_own h) (fun q3 => ?_)
    repeat ((refine l_move ?_; (refine SXl.v (OpW.move rfl) rfl ?_ ?_ ?_); rfl; rfl))
    refine l_call ?_
    refine SXl.calln1 (v := fun q => .slice q.a li.length q.c) (F1 := ownRes Item.cells 36 9 li) rfl rfl rfl (fun w' hl => (hI2 _ _ w' (items_at (q := q2) hl.owns (.head _)) (lineO_slice (p := (l2, (l2a, l2c))) hl.owns (.tail _ (.head _)))).mono fun _ _ h => new_own h) (fun q4 => ?_)
    repeat (first | (refine l_call ?_; (refine SXl.v (OpW.call rfl (fun w hl => sameItems_any li q3.a q4.a q3.c q4.c _ _ _ hli (itemRes_in hl (.tail _ (.head _))) (itemRes_in hl (.head _)))) rfl ?_ ?_ ?_); rfl; rfl) | (refine l_move ?_; (refine SXl.v (OpW.move rfl) rfl ?_ ?_ ?_); rfl; rfl) | (refine l_pick ?_; (refine SXl.v (OpW.pick rfl rfl rfl) rfl ?_ ?_ ?_); rfl; rfl) | (refine l_buildSlice ?_; first | (refine SXl.lit1 ?_ ?_ rfl rfl rfl (fun g => ?_); rfl; rfl) | (refine SXl.lit0 ?_ ?_ (fun _ h => h) rfl (fun g => ?_); rfl; rfl)))
    rename_i g1
    revert g; intro g2
    refine l_buildSlice ?_
    refine SXl.lit (cells := [.slice (some ⟨g1, 0, none⟩) 1 1, .slice (some ⟨g2, 0, none⟩) 1 1]) (z := .slice none 0 0) ?_ ?_ rfl (by decide) (by kernel_rfl) rfl (fun g3 => ?_)
    rfl; rfl
    repeat (first | refine SXl.nil ?_ | refine SQ.thenNormal ?_ | (refine l_call ?_; (refine SXl.v (OpW.call rfl (fun w hl => lineOf_two g1 g2 g3 _ (two_lines (fun _ h => h) hl))) rfl ?_ ?_ ?_); rfl; rfl) | (refine l_assign ?_; (refine SXl.v (OpW.assign rfl) rfl ?_ ?_ ?_); rfl; rfl) | (refine l_eql ?_; (refine SXl.v (OpW.eqlT rfl rfl (by omega)) rfl ?_ ?_ ?_); rfl; rfl) | (refine l_pick ?_; (refine SXl.v (OpW.pick rfl rfl rfl) rfl ?_ ?_ ?_); rfl; rfl) | refine SX.ret ?_)
    refine SQ.body1 rfl rfl (fun w' hl => ⟨rfl, hl.mod⟩)
  obtain ⟨⟨ln, la, lc⟩, hp⟩ : ∃ p, ps[k]? = some p := ⟨_, List.getElem?_eq_getElem hlt⟩
  have hpmk := List.mem_of_getElem? hp
  have hln := map_at hq1 hp
  simp only at hln
  have hlnm := List.mem_of_getElem? hln
  have hln0 := List.length_pos_iff.2 (hne ln hlnm)
  have hlnl := hmem ln hlnm
  have hA := hahead k (by omega)
  have hA1 := hahead (k + 1) (by omega)
  have hAn := ahead_succ hln
  have hflat := fun (j : Nat) (hj : j < ln.length) => flat_at hls hln hj
  have hat := fun (j : Nat) (hj : j < ln.length) => lineOf_at hls hln hj
  refine SX.knowI (fun w hl => rows_addr hl.owns (.head _) (by omega)) (fun ⟨gp, hgp⟩ => ?_)
  subst hgp
  refine SX.knowI (fun w hl => line_addr hl.owns (hpm _ hpmk) hln0) (fun ⟨gl, hgl⟩ => ?_)
  simp only at hgl
  subst hgl
  repeat (first | refine SX.seq ?_ | refine SXl.nil ?_ | refine SX.region ?_ | refine SQ.thenNormal ?_ | refine SX.block ?_ | refine SX.skip ?_ | refine SX.condT rfl ?_ | refine SX.condF rfl ?_ | (refine l_load ?_; (refine SXl.v (OpW.loadLoc rfl (fun w' hl => rows_line hl.owns (.head _) hp)) rfl ?_ ?_ ?_); rfl; rfl) | (refine l_move ?_; (refine SXl.v (OpW.move rfl) rfl ?_ ?_ ?_); rfl; rfl) | (refine l_assign ?_; (refine SXl.v (OpW.assign rfl) rfl ?_ ?_ ?_); rfl; rfl) | (refine l_len ?_; (refine SXl.v (OpW.len rfl) rfl ?_ ?_ ?_); rfl; rfl) | (refine l_eql ?_; (refine SXl.v (OpW.eqlF rfl rfl (by omega)) rfl ?_ ?_ ?_); rfl; rfl) | (refine l_lss ?_; (refine SXl.v (OpW.lssT rfl rfl (by omega)) rfl ?_ ?_ ?_); rfl; rfl) | (refine l_indexAddr ?_; (refine SXl.v (OpW.indexAddr1 (by omega) rfl rfl) rfl ?_ ?_ ?_); rfl; rfl))
  refine SX.loopi (fun j : Nat => j ≤ ln.length) (fun j => ln.length - j) (fun _ => []) (fun _ => rowsO ps (some ⟨gp, 0, none⟩) pc :: (ps.map lineO ++ [itemsO q])) (fun _ => []) (fun j => [(0, .slice a len cap), (3, .slice q.a q.xs.length q.c), (4, .int .i64 gap), (5, .int .i64 room), (6, .bool wraps), (7, .slice (some ⟨gp, 0, none⟩) ps.length pc), (8, .int .i64 (ahead ls k + j : Nat)), (9, .int .i64 k), (10, .int .i64 j)]) 0 (Nat.zero_le _) ?_ (fun _ hl => hl) ?_
  · (repeat (first | exact subF_nil _ | (refine subF_cons rfl ?_) | (refine subF_consv rfl (by rfl) ?_)))
  intro j hj
  by_cases hjl : j < ln.length
  · obtain ⟨hv, hvn⟩ := hflat j hjl
    have hval := hat j hjl
    have hO2 := hO1 ((ahead ls k + j : Nat) : Int)
    rw [hval] at hO2
    repeat (first | refine SX.seq ?_ | refine SXl.nil ?_ | refine SX.region ?_ | refine SQ.thenNormal ?_ | refine SX.block ?_ | refine SX.skip ?_ | refine SX.condT rfl ?_ | refine SX.condF rfl ?_ | (refine l_load ?_; (first | refine SXl.v (OpW.loadLoc rfl (fun w' hl => rows_line hl.owns (.head _) hp)) rfl ?_ ?_ ?_ | refine SXl.v (OpW.loadLoc rfl (fun w' hl => line_cell hl.owns (hpm _ hpmk) hv)) rfl ?_ ?_ ?_); rfl; rfl) | (refine l_call ?_; (refine SXl.v (OpW.call rfl (fun w hl => hO2 _ hl)) rfl ?_ ?_ ?_); rfl; rfl) | (refine l_move ?_; (refine SXl.v (OpW.move rfl) rfl ?_ ?_ ?_); rfl; rfl) | (refine l_assign ?_; (refine SXl.v (OpW.assign rfl) rfl ?_ ?_ ?_); rfl; rfl) | (refine l_len ?_; (refine SXl.v (OpW.len rfl) rfl ?_ ?_ ?_); rfl; rfl) | (refine l_add ?_; (refine SXl.v (OpW.succ rfl rfl (by omega)) rfl ?_ ?_ ?_); rfl; rfl) | (refine l_lss ?_; (refine SXl.v (OpW.lssT rfl rfl (by omega)) rfl ?_ ?_ ?_); rfl; rfl) | (refine l_neq ?_; (refine SXl.v (OpW.neqF rfl rfl (by omega)) rfl ?_ ?_ ?_); rfl; rfl) | (refine l_pick ?_; (refine SXl.v (OpW.pick rfl rfl rfl) rfl ?_ ?_ ?_); rfl; rfl) | (refine l_indexAddr ?_; (refine SXl.v (OpW.indexAddr1 (by omega) rfl rfl) rfl ?_ ?_ ?_); rfl; rfl) | refine SQ.blockNormal ?_)
    refine SQ.roundi (j + 1) (by omega) (by omega) ?_ (fun _ hl => hl)
    (repeat (first | exact subF_nil _ | (refine subF_cons rfl ?_) | (refine subF_consv rfl (by rfl) ?_)))
  obtain rfl : j = ln.length := by omega
  rw [← hAn]
  repeat (first | refine SX.seq ?_ | refine SXl.nil ?_ | refine SX.region ?_ | refine SQ.thenNormal ?_ | refine SX.condF rfl ?_ | (refine l_load ?_; (refine SXl.v (OpW.loadLoc rfl (fun w' hl => rows_line hl.owns (.head _) hp)) rfl ?_ ?_ ?_); rfl; rfl) | (refine l_move ?_; (refine SXl.v (OpW.move rfl) rfl ?_ ?_ ?_); rfl; rfl) | (refine l_len ?_; (refine SXl.v (OpW.len rfl) rfl ?_ ?_ ?_); rfl; rfl) | (refine l_lss ?_; (refine SXl.v (OpW.lssF rfl rfl (by omega)) rfl ?_ ?_ ?_); rfl; rfl) | (refine l_indexAddr ?_; (refine SXl.v (OpW.indexAddr1 (by omega) rfl rfl) rfl ?_ ?_ ?_); rfl; rfl) | refine SX.exit ?_ | refine SQ.thenExit ?_ | refine SQ.blockExit ?_)
  refine l_call ?_
  refine SXl.callO rfl rfl rfl (fun w' hl => hL2 w' (items_at hl.owns hqm)) (fun q5 hq5 => ?_)
  obtain ⟨ps5, pa5, pc5⟩ := q5
  simp only at hq5
  simp only [LinesQ.v, LinesQ.os, List.cons_append]
  have hpl5 : ps5.length = ls.length := by rw [← hq5, List.length_map]
  obtain ⟨⟨ln5, la5, lc5⟩, hp5⟩ : ∃ p, ps5[k]? = some p := ⟨_, List.getElem?_eq_getElem (show k < ps5.length by omega)⟩
  have hln5 := map_at hq5 hp5
  simp only at hln5
  obtain rfl : ln = ln5 := Option.some.inj (hln.symm.trans hln5)
  refine SXl.knowI (fun w hl => rows_addr hl.owns (.head _) (by omega)) (fun ⟨gp5, hgp5⟩ => ?_)
  subst hgp5
  have hS := fun (w' : World) (h1 : IntSlice (fun k => w.heap.size ≤ k) w' la5 ln) (h2 : IntSlice (fun k => w.heap.size ≤ k) w' (some ⟨gl, 0, none⟩) ln) => lsameInts_any ln ln la5 (some ⟨gl, 0, none⟩) lc5 lc _ _ w' (by omega) (by omega) h1 h2
  rw [decide_eq_true rfl] at hS
  have hpm5 : lineO (ln, (la5, lc5)) ∈ rowsO ps5 (some ⟨gp5, 0, none⟩) pc5 :: (ps5.map lineO ++ rowsO ps (some ⟨gp, 0, none⟩) pc :: (ps.map lineO ++ [itemsO q])) := List.mem_cons_of_mem _ (List.mem_append_left _ (List.mem_map.2 ⟨_, List.mem_of_getElem? hp5, rfl⟩))
  have hsub : (rowsO ps (some ⟨gp, 0, none⟩) pc :: (ps.map lineO ++ [itemsO q])).Sublist (rowsO ps5 (some ⟨gp5, 0, none⟩) pc5 :: (ps5.map lineO ++ rowsO ps (some ⟨gp, 0, none⟩) pc :: (ps.map lineO ++ [itemsO q]))) := (List.sublist_append_right _ _).cons _
  repeat (first | refine SX.seq ?_ | refine SXl.nil ?_ | refine SX.region ?_ | refine SQ.thenNormal ?_ | refine SX.skip ?_ | refine SX.condF rfl ?_ | (refine l_move ?_; (refine SXl.v (OpW.move rfl) rfl ?_ ?_ ?_); rfl; rfl) | (refine l_assign ?_; (refine SXl.v (OpW.assign rfl) rfl ?_ ?_ ?_); rfl; rfl) | (refine l_not ?_; (refine SXl.v (OpW.not rfl) rfl ?_ ?_ ?_); rfl; rfl) | refine SX.drawn (by kernel_rfl) (by kernel_rfl) ?_ | refine SXr.nil ?_ | (refine r_load ?_; (first | refine SXr.v (OpW.loadLoc rfl (fun w' hl => rows_line hl.owns (.head _) hp5)) rfl ?_ ?_ ?_ | refine SXr.v (OpW.loadLoc rfl (fun w' hl => rows_line hl.owns (hsub.subset (.head _)) hp)) rfl ?_ ?_ ?_); rfl; rfl) | (refine r_call ?_; (refine SXr.v (OpW.call rfl (fun w hl => hS _ (lineO_slice hl.owns hpm5) (lineO_slice (p := (ln, (some ⟨gl, 0, none⟩, lc))) hl.owns (hsub.subset (hpm _ hpmk))))) rfl ?_ ?_ ?_); rfl; rfl) | (refine r_move ?_; (refine SXr.v (OpW.move rfl) rfl ?_ ?_ ?_); rfl; rfl) | (refine r_len ?_; (refine SXr.v (OpW.len rfl) rfl ?_ ?_ ?_); rfl; rfl) | (refine r_neq ?_; (refine SXr.v (OpW.neqF rfl rfl (by omega)) rfl ?_ ?_ ?_); rfl; rfl) | (refine r_not ?_; (refine SXr.v (OpW.not rfl) rfl ?_ ?_ ?_); rfl; rfl) | (refine r_pick ?_; (refine SXr.v (OpW.pick rfl rfl rfl) rfl ?_ ?_ ?_); rfl; rfl) | (refine r_indexAddr ?_; (refine SXr.v (OpW.indexAddr1 (by omega) rfl rfl) rfl ?_ ?_ ?_); rfl; rfl))
  have hqm5 := hsub.subset hqm
  have hIO := fun (w' : World) (h : ItemSlice (fun k => w.heap.size ≤ k) w' q.a q.xs) => sitemsOk_any q.xs q.a q.c _ w' (by omega) h
  rcases hcase with ⟨hw, he⟩ | ⟨hw, hr2, he⟩ | ⟨hw, hr2, hi, he⟩ | ⟨hw, hr2, hi, he⟩
  rotate_left 3
  · have hlf := (hfit he) ln hlnm
    subst hw
    rw [hi] at hIO
    have hI := fun (w' : World) (h : ItemSlice (fun k => w.heap.size ≤ k) w' q.a q.xs) (h2 : IntSlice (fun k => w.heap.size ≤ k) w' (some ⟨gl, 0, none⟩) ln) => slineItems_any q.xs ln q.a (some ⟨gl, 0, none⟩) q.c lc _ _ w' (by omega) (by omega) h h2
    have hll := lineIt_len q.xs ln
    have hif := lineIt_fits (ln := ln) hf
    have hout : outerL q.xs gap ln = outerOf (lineIt q.xs ln) ((lineIt q.xs ln).map hyp) gap := rfl
    generalize outerL q.xs gap ln = V at *
    generalize lineIt q.xs ln = li at *
    repeat (first | refine SX.seq ?_ | refine SXl.nil ?_ | refine SX.region ?_ | refine SQ.thenNormal ?_ | refine SX.skip ?_ | refine SX.condF rfl ?_ | (refine l_call ?_; (refine SXl.v (OpW.call rfl (fun w hl => hIO _ (items_at hl.owns hqm5))) rfl ?_ ?_ ?_); rfl; rfl) | (refine l_load ?_; (refine SXl.v (OpW.loadLoc rfl (fun w' hl => rows_line hl.owns (hsub.subset (.head _)) hp)) rfl ?_ ?_ ?_); rfl; rfl) | (refine l_move ?_; (refine SXl.v (OpW.move rfl) rfl ?_ ?_ ?_); rfl; rfl) | (refine l_lss ?_; (refine SXl.v (OpW.lssF rfl rfl (by omega)) rfl ?_ ?_ ?_); rfl; rfl) | (refine l_not ?_; (refine SXl.v (OpW.not rfl) rfl ?_ ?_ ?_); rfl; rfl) | (refine l_pick ?_; (refine SXl.v (OpW.pick rfl rfl rfl) rfl ?_ ?_ ?_); rfl; rfl) | (refine l_indexAddr ?_; (refine SXl.v (OpW.indexAddr1 (by omega) rfl rfl) rfl ?_ ?_ ?_); rfl; rfl))
    refine l_call ?_
    refine SXl.calln1 (v := fun q => .slice q.a li.length q.c) (F1 := ownRes Item.cells 36 9 li) rfl rfl rfl (fun w' hl => (hI w' (items_at hl.owns hqm5) (lineO_slice (p := (ln, (some ⟨gl, 0, none⟩, lc))) hl.owns (hsub.subset (hpm _ hpmk)))).mono fun _ _ h => new_own h) (fun q6 => ?_)
    repeat (first | refine SX.seq ?_ | refine SXl.nil ?_ | refine SX.region ?_ | refine SQ.thenNormal ?_ | refine SX.block ?_ | (refine l_assign ?_; (refine SXl.v (OpW.assign rfl) rfl ?_ ?_ ?_); rfl; rfl) | (refine l_buildSlice ?_; first | (refine SXl.lit1 ?_ ?_ rfl rfl rfl (fun g => ?_); rfl; rfl) | (refine SXl.lit0 ?_ ?_ (fun _ h => h) rfl (fun g => ?_); rfl; rfl)))
    refine SX.loop3 (fun (j : Nat) (_ : Option Addr) (_ : Nat) => j ≤ li.length) (fun j _ _ => li.length - j) (fun _ _ _ => []) (fun j a' c' => ⟨.slice a' ((li.take j).map hyp).length c', 3, 1, ((li.take j).map hyp).length, (((li.take j).map hyp).map icell).flatten⟩ :: (rowsO ps5 (some ⟨gp5, 0, none⟩) pc5 :: (ps5.map lineO ++ rowsO ps (some ⟨gp, 0, none⟩) pc :: (ps.map lineO ++ [itemsO q])))) (fun _ _ _ => [ownRes Item.cells 36 9 li q6]) (fun j a' c' => [(0, .slice a len cap), (3, .slice q.a q.xs.length q.c), (4, .int .i64 gap), (5, .int .i64 room), (6, .bool true), (7, .slice (some ⟨gp, 0, none⟩) ps.length pc), (8, .int .i64 (ahead ls (k + 1) : Nat)), (9, .int .i64 k), (12, .slice q6.a li.length q6.c), (13, .slice a' ((li.take j).map hyp).length c'), (14, .int .i64 j)]) 0 _ _ (Nat.zero_le _) ?_ (fun _ hl => hl) ?_
    · (repeat (first | exact subF_nil _ | (refine subF_cons rfl ?_) | (refine subF_consv rfl (by rfl) ?_)))
    intro j a' c' hj
    have hjp : ((li.take j).map hyp).length = j := by rw [List.length_map, List.length_take]; omega
    by_cases hjl : j < li.length
    · obtain ⟨x1, hx1⟩ : ∃ y, li[j]? = some y := ⟨_, List.getElem?_eq_getElem hjl⟩
      have hS2 := map_next hyp hx1
      have hH := shypOf_c x1
      generalize hyp x1 = y at *
      refine SX.knowI (fun w hl => itemRes_addr (hl.res _ (.head _)).1 (by omega)) (fun ⟨gi, hgi⟩ => ?_)
      obtain ⟨ia, ic, ilo⟩ := q6
      simp only at hgi
      subst hgi
      repeat (first | refine SX.seq ?_ | refine SXl.nil ?_ | refine SX.region ?_ | refine SQ.thenNormal ?_ | refine SX.block ?_ | refine SX.skip ?_ | refine SX.condT rfl ?_ | (refine l_load ?_; (refine SXl.v (OpW.loadRowLoc rfl (fun w' hl => item_cell (itemRes_in hl (.head _)) hx1) (Item.cells_len x1) (Nat.succ_pos _)) rfl ?_ ?_ ?_); rfl; rfl) | (refine l_call ?_; (refine SXl.v (OpW.call rfl (fun w hl => hH _)) rfl ?_ ?_ ?_); rfl; rfl) | (refine l_move ?_; (refine SXl.v (OpW.move rfl) rfl ?_ ?_ ?_); rfl; rfl) | (refine l_assign ?_; (refine SXl.v (OpW.assign rfl) rfl ?_ ?_ ?_); rfl; rfl) | (refine l_len ?_; (refine SXl.v (OpW.len rfl) rfl ?_ ?_ ?_); rfl; rfl) | (refine l_add ?_; (refine SXl.v (OpW.succ rfl rfl (by omega)) rfl ?_ ?_ ?_); rfl; rfl) | (refine l_lss ?_; (refine SXl.v (OpW.lssT rfl rfl (by omega)) rfl ?_ ?_ ?_); rfl; rfl) | (refine l_indexAddr ?_; (refine SXl.v (OpW.indexAddr (by omega) rfl rfl) rfl ?_ ?_ ?_); rfl; rfl) | (refine l_buildSlice ?_; first | (refine SXl.lit1 ?_ ?_ rfl rfl rfl (fun g => ?_); rfl; rfl) | (refine SXl.lit0 ?_ ?_ (fun _ h => h) rfl (fun g => ?_); rfl; rfl)) | (refine l_append ?_; first | (refine SXl.append 0 0 rfl rfl rfl rfl rfl rfl rfl rfl (by omega) (by omega) (fun a c => ?_); simp only [List.set_cons_zero, List.set_cons_succ]) | (refine SXl.append 1 0 rfl rfl rfl rfl rfl rfl rfl rfl (by omega) (by omega) (fun a c => ?_); simp only [List.set_cons_zero, List.set_cons_succ])) | refine SQ.blockNormal ?_)
      refine SQ.round3 (j + 1) _ _ (by omega) (by omega) ?_ (fun w hl => by rw [hS2, List.length_append, List.map_append, List.flatten_append]; exact hl.drop1)
      (repeat (first | exact subF_nil _ | (refine subF_cons rfl ?_) | (refine subF_consv rfl (by rw [hS2, List.length_append]; rfl) ?_)))
    obtain rfl : j = li.length := by omega
    rw [List.take_length] at *
    have hU := fun (w' : World) (h : ItemSlice (fun k => q6.lo ≤ k) w' q6.a li) (h2 : IntSlice (fun k => w.heap.size ≤ k) w' a' (li.map hyp)) => souterOf_any li (li.map hyp) gap q6.a a' q6.c c' _ _ w' (by omega) (by rw [List.length_map]; omega) hif ((hyp_near hif).mono (by decide)) (by omega) h h2
    rw [← hout] at hU
    by_cases h1 : 1 < li.length
    · repeat (first | refine SX.seq ?_ | refine SXl.nil ?_ | refine SX.region ?_ | refine SQ.thenNormal ?_ | refine SX.skip ?_ | refine SX.condF rfl ?_ | (refine l_call ?_; (refine SXl.v (OpW.call rfl (fun w hl => hU _ (itemRes_in hl (.head _)) (lineO_slice (p := (li.map hyp, (a', c'))) hl.owns (.head _)))) rfl ?_ ?_ ?_); rfl; rfl) | (refine l_move ?_; (refine SXl.v (OpW.move rfl) rfl ?_ ?_ ?_); rfl; rfl) | (refine l_assign ?_; (refine SXl.v (OpW.assign rfl) rfl ?_ ?_ ?_); rfl; rfl) | (refine l_len ?_; (refine SXl.v (OpW.len rfl) rfl ?_ ?_ ?_); rfl; rfl) | (refine l_add ?_; (refine SXl.v (OpW.succ rfl rfl (by omega)) rfl ?_ ?_ ?_); rfl; rfl) | (refine l_gtr ?_; (first | refine SXl.v (OpW.gtrT rfl rfl (by omega)) rfl ?_ ?_ ?_ | refine SXl.v (OpW.gtrF rfl rfl (by omega)) rfl ?_ ?_ ?_); rfl; rfl) | (refine l_lss ?_; (refine SXl.v (OpW.lssF rfl rfl (by omega)) rfl ?_ ?_ ?_); rfl; rfl) | (refine l_pick ?_; (refine SXl.v (OpW.pick rfl rfl rfl) rfl ?_ ?_ ?_); rfl; rfl) | refine SX.exit ?_ | refine SQ.thenExit ?_ | refine SQ.blockNormal ?_ | refine SQ.blockExit ?_)
      refine SQ.roundi (k + 1) (by omega) (by omega) ?_ (fun _ hl => hl.dropE.dropO.ownSub hsub)
      (repeat (first | exact subF_nil _ | (refine subF_cons rfl ?_) | (refine subF_consv rfl (by rfl) ?_)))
    · repeat (first | refine SX.seq ?_ | refine SXl.nil ?_ | refine SX.region ?_ | refine SQ.thenNormal ?_ | refine SX.skip ?_ | refine SX.condF rfl ?_ | (refine SXl.no rfl rfl rfl ?_) | (refine l_move ?_; (refine SXl.v (OpW.move rfl) rfl ?_ ?_ ?_); rfl; rfl) | (refine l_assign ?_; (refine SXl.v (OpW.assign rfl) rfl ?_ ?_ ?_); rfl; rfl) | (refine l_len ?_; (refine SXl.v (OpW.len rfl) rfl ?_ ?_ ?_); rfl; rfl) | (refine l_add ?_; (refine SXl.v (OpW.succ rfl rfl (by omega)) rfl ?_ ?_ ?_); rfl; rfl) | (refine l_gtr ?_; (refine SXl.v (OpW.gtrF rfl rfl (by omega)) rfl ?_ ?_ ?_); rfl; rfl) | (refine l_lss ?_; (refine SXl.v (OpW.lssF rfl rfl (by omega)) rfl ?_ ?_ ?_); rfl; rfl) | (refine l_pick ?_; (refine SXl.v (OpW.pick rfl rfl rfl) rfl ?_ ?_ ?_); rfl; rfl) | refine SX.exit ?_ | refine SQ.thenExit ?_ | refine SQ.blockNormal ?_ | refine SQ.blockExit ?_)
      refine SQ.roundi (k + 1) (by omega) (by omega) ?_ (fun _ hl => hl.dropE.dropO.ownSub hsub)
      (repeat (first | exact subF_nil _ | (refine subF_cons rfl ?_) | (refine subF_consv rfl (by rfl) ?_)))
  all_goals
    try subst hw
    try rw [hi] at hIO
    repeat (first | refine SXl.nil ?_ | refine SX.region ?_ | refine SQ.thenNormal ?_ | refine SX.condT rfl ?_ | (refine SXl.no rfl rfl rfl ?_) | (refine l_call ?_; (refine SXl.v (OpW.call rfl (fun w hl => hIO _ (items_at hl.owns hqm5))) rfl ?_ ?_ ?_); rfl; rfl) | (refine l_move ?_; (refine SXl.v (OpW.move rfl) rfl ?_ ?_ ?_); rfl; rfl) | (refine l_assign ?_; (refine SXl.v (OpW.assign rfl) rfl ?_ ?_ ?_); rfl; rfl) | (refine l_add ?_; (refine SXl.v (OpW.succ rfl rfl (by omega)) rfl ?_ ?_ ?_); rfl; rfl) | (refine l_lss ?_; (first | refine SXl.v (OpW.lssT rfl rfl (by omega)) rfl ?_ ?_ ?_ | refine SXl.v (OpW.lssF rfl rfl (by omega)) rfl ?_ ?_ ?_); rfl; rfl) | (refine l_not ?_; (refine SXl.v (OpW.not rfl) rfl ?_ ?_ ?_); rfl; rfl) | (refine l_pick ?_; (refine SXl.v (OpW.pick rfl rfl rfl) rfl ?_ ?_ ?_); rfl; rfl) | refine SX.exit ?_ | refine SQ.thenExit ?_ | refine SQ.blockExit ?_)
    refine SQ.roundi (k + 1) (by omega) (by omega) ?_ (fun _ hl => hl.ownSub hsub)
    (repeat (first | exact subF_nil _ | (refine subF_cons rfl ?_) | (refine subF_consv rfl (by rfl) ?_)))
/-! ### The row's frame (the kit's skeleton, turned) -/
namespace fnLines
open Go.ChangeShapes Go.WideShapes Go.ChangeAt Go.RowKit
set_option linter.unusedVariables false

theorem own : ownKnob Try.prog.godebug = none := by kernel_rfl
theorem laidOut : laidOutB Try.prog = true := by kernel_rfl
def IsRow (k : IntKind) (w : World) (a : Option Addr) (len cap : Nat) (zs : List Int) : Prop :=
  (a = none ∧ len = 0 ∧ cap = 0 ∧ zs = []) ∨
  ∃ x, a = some x ∧ len ≤ cap ∧ cap ≤ maxLen ∧ zs.length = cap ∧ (∀ i, i < zs.length → w.cell? (x.add i) = some (.int k (zs.getD i 0))) ∧ ∀ n ∈ zs, (Lit.int k n).wf = true

theorem walk (a0 : Option Addr) (len0 cap0 : Nat) (z0 : List Int) (w : World) (w0 : IsRow .u8 w a0 len0 cap0 z0) :
    Calls Try.prog 3 #[.slice a0 len0 cap0] w fun e w' => e = .returned (.bool true) ∧ Below w.heap.size w w' := by
  obtain ⟨h1, h2⟩ := bytes_of_row (a := a0) (len := len0) (cap := cap0) (zs := z0) w0
  exact (fnLines_walk w a0 len0 cap0 h1 h2).mono fun e w' ⟨he, hm⟩ => ⟨he, hm.below (Nat.le_refl _) fun _ _ h => h⟩

set_option maxRecDepth 100000 in
theorem lifted (os : Os) (started : os.Started) (H : Type) (enc : TypeId × Value → H) :
    ReturnsInHanded {} Try.checked os 3 .any (Rows.fnLinesSpec.pre6 enc Try.prog Try.f3 Rows.fnLinesRow.domain false) (Rows.fnLinesSpec.post enc Try.prog Try.f3 false true false false) := by
  refine returnsInHanded_of_change (C := Try.checked) own started (by kernel_rfl) Try.func3
    (ChangeSpec.witness6 (enc := enc) (C := Try.checked) false ⟨#[], #[.slice none 0 0], []⟩ 8 (by kernel_rfl) (by kernel_rfl) (by kernel_rfl) (by kernel_rfl)) ?_
  intro W base args ds gs before hval0 hW hcnd _
  have hval : ∀ (j : Nat) t v, Try.f3.params[j]? = some t → args[j]? = some v → Value.okWide Try.prog W .any base t v := hval0
  have hW' := hW
  obtain ⟨p, q, hA0, hV, rfl, hfz, hnd⟩ := hW
  have hA : DataW.TrodAll enc Try.prog W 0 (fun _ => true) true Try.f3.params.toList args.toList ds p := hA0
  rw [Try.params3] at hA hval
  obtain ⟨v0, vs0, d0, ds0, p0, q0, hargs, rfl, rfl, h0, r0⟩ := trodAll_cons hA
  obtain ⟨rfl, rfl, rfl⟩ := trodAll_nil r0
  obtain rfl : args = #[v0] := by cases args; simp_all
  obtain ⟨rfl, rfl⟩ := trodVars_none hV
  obtain ⟨a0, len0, cap0, rfl⟩ := okWide_slice Try.underlying22 (hval 0 22 v0 rfl rfl)
  have k0 := h0
  have lt0 : ∀ x ∈ p0, x.block < W.heap.size := by obtain ⟨m, hm⟩ := k0; exact DataW.trod_lt m _ _ _ hm
  obtain ⟨z0, w0⟩ : ∃ zs, IsRow .u8 W a0 len0 cap0 zs := by
    obtain ⟨fuel, hf⟩ := h0
    rcases open_ints Try.underlying22 Try.underlying5 (by kernel_rfl) hf with ⟨hcs, _⟩ | ⟨x, l, c, zs, hcs, _, hl, hm, hz, _, hcell, hwz⟩
    · simp [Value.cells] at hcs
      obtain ⟨rfl, rfl, rfl⟩ := hcs
      exact ⟨[], .inl ⟨rfl, rfl, rfl, rfl⟩⟩
    · simp [Value.cells] at hcs
      obtain ⟨rfl, rfl, rfl⟩ := hcs
      exact ⟨zs, .inr ⟨_, rfl, hl, hm, by simpa using hz, hcell, hwz⟩⟩
  clear hA0 hval0
  refine (walk a0 len0 cap0 z0 W w0).mono fun e W' ⟨he, bel⟩ => ?_
  subst he
  exact ⟨_, rfl, _, _, _, [], _, [], hW', trodAll_mk1 (shut_bool Try.underlying4 _), (trodAll_cons_mk (Below.trod laidOut (by kernel_rfl) (of_decide_eq_true (by kernel_rfl)) k0 bel lt0) trodAll_mk0), rfl, bel.frame _, fun h => by cases h⟩

theorem over : Rows.fnLinesRow.holds Try.pinned (OpenSpec.ofChange Rows.fnLinesSpec) :=
  OpenClaim.holds_of_wide 3 Try.f3 rfl rfl rfl rfl rfl rfl rfl ⟨rfl, rfl, rfl, rfl, rfl⟩ rfl rfl rfl rfl rfl (by kernel_rfl) Try.func3 (by kernel_rfl)
    (of_decide_eq_true (by kernel_rfl)) (by unfold Func.isWrapper; first | (rw [if_pos (by decide +kernel)]; kernel_rfl) | (rw [if_neg (by decide +kernel)]; exact ⟨rfl, rfl⟩))
    (fun os started H enc _ => lifted os started H enc)

theorem proved : Rows.FnLinesSaid := over
#print axioms proved
end fnLines


end Go.Proofs.Ytdohglcjjlmhhaa
