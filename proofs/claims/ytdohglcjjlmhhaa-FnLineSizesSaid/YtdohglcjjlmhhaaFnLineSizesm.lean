/-
  PROVED: for every list of bytes the law FnLineSizes returns true. No condition.
-/
import Derived.Test.YtdohglcjjlmhhaaMYe
import Derived.Test.YtdohglcjjlmhhaaRows
import Derived.ProofKit
import Derived.OpenShut
import Derived.ShutString
import Derived.ChangeOld
set_option linter.unusedVariables false
set_option linter.unusedSimpArgs false
namespace Go.Proofs.Ytdohglcjjlmhhaa
open Go.RowKit
set_option linter.unusedVariables false
set_option linter.unusedSimpArgs false

theorem blk_items2 {w : World} {g : Nat} {l : List Item} {T : TypeId} {cells : List Value} (he : cells = (l.map Item.cells).flatten) (h : w.heap[g]? = some (.cells cells.toArray T (0, 0))) : ItemSlice (fun k => k = g) w (some ⟨g, 0, none⟩) l := by
  subst he
  refine ⟨l.map Item.cells, rowsAt_of_blk h (by intro r hr; obtain ⟨x, _, rfl⟩ := List.mem_map.1 hr; rfl) rfl, by simp, fun i r y h1 h2 => ?_⟩
  rw [List.getElem?_map, h2] at h1
  simpa [Flat] using h1.symm
def itemsO2 (q : ItemsQ) : Own := ⟨.slice q.a q.xs.length q.c, 36, 9, q.xs.length, (q.xs.map Item.cells).flatten⟩
theorem items_at2 {base : Nat} {w : World} {os : List Own} {q : ItemsQ} (h : Owns base w os) (hq : itemsO2 q ∈ os) : ItemSlice (fun k => (∃ o ∈ os, o.v.ownBlock = some k)) w q.a q.xs := by
  have h1 : w.ownsRow base 36 9 (.slice q.a q.xs.length q.c) q.xs.length (q.xs.map Item.cells).flatten := h.row _ hq
  obtain ⟨rows, h2, h3, h4⟩ := own_slice h1 Item.cells_len (by decide)
  refine ⟨rows, ?_, h3, h4⟩
  rcases h2 with h2 | ⟨b, o, e, hb, hlt, hc⟩
  · exact .inl h2
  · refine .inr ⟨b, o, e, ⟨_, hq, ?_⟩, hlt, hc⟩
    show (Value.slice q.a q.xs.length q.c).ownBlock = some b
    rw [e]; rfl
theorem own_low2 {W : World} {R : Rg W} {L : List Blk} {O : List Own} {E : List Res} {w : World} (h : Loc W R L O E w) : ∀ k, (∃ o ∈ O, o.v.ownBlock = some k) → k < w.heap.size := fun k ⟨o, ho, hk⟩ => (ownBlock_lt (h.own o ho).1 hk).2
set_option maxRecDepth 100000 in
theorem sizes_two : sizesTo [sixty, sixty] 0 100 (linesTo [sixty, sixty] 0 100 (oneLine [sixty, sixty] 100 true) 2) (linesTo [sixty, sixty] 0 100 (oneLine [sixty, sixty] 100 true) 2).length = [100, 100] := by kernel_rfl
set_option maxRecDepth 100000 in
set_option maxHeartbeats 16000000 in
theorem fnLineSizes_walk (w : World) (a : Option Addr) (len cap : Nat) (hl0 : len ≤ 9223372036854775807) (hy : Bytes w.heap.size w a len) :
    Calls Try.prog 5 #[.slice a len cap] w fun e w' => e = .returned (.bool true) ∧ Mod (fun _ => False) w w' := by
  have hm : len ≤ maxLen := by unfold maxLen; exact hl0
  refine calls_sx Try.func5 rfl rfl (fun a h1 h2 h3 => ((Fr.nil h1 h2).arg (h3 0 _ rfl))) ?_
  by_cases hbig : 1048576 < len
  · repeat (first | refine SX.seq ?_ | refine SXl.nil ?_ | refine SX.region ?_ | refine SQ.thenNormal ?_ | refine SX.condT rfl ?_ | (refine l_call ?_; (refine SXl.v (OpW.call rfl (fun w hl => bigT a cap hm hbig _)) rfl ?_ ?_ ?_); rfl; rfl) | (refine l_move ?_; (refine SXl.v (OpW.move rfl) rfl ?_ ?_ ?_); rfl; rfl) | (refine l_assign ?_; (refine SXl.v (OpW.assign rfl) rfl ?_ ?_ ?_); rfl; rfl) | refine SX.ret ?_ | refine SQ.thenRet ?_)
    refine SQ.body1 rfl rfl (fun w' hl => ⟨rfl, hl.mod⟩)
  repeat (first | refine SX.seq ?_ | refine SXl.nil ?_ | refine SX.region ?_ | refine SQ.thenNormal ?_ | refine SX.skip ?_ | refine SX.condF rfl ?_ | (refine l_call ?_; (refine SXl.v (OpW.call rfl (fun w hl => bigF a cap hm hbig _)) rfl ?_ ?_ ?_); rfl; rfl) | (refine l_move ?_; (refine SXl.v (OpW.move rfl) rfl ?_ ?_ ?_); rfl; rfl) | (refine l_assign ?_; (refine SXl.v (OpW.assign rfl) rfl ?_ ?_ ?_); rfl; rfl))
  refine l_call ?_
  refine SXl.callO rfl rfl rfl (fun w' hl => drawLineSizes_o a len cap w' (by omega) (bytes_loc hy (fun _ _ f => f) hl)) (fun q hq => ?_)
  obtain ⟨⟨q, gap, room, wraps⟩, inner⟩ := q
  obtain ⟨⟨⟨hf, hql⟩, hg, hr⟩, hi⟩ := hq
  simp only at hf hql hg hr hi
  simp only [ItemsQ.v]
  change SXl _ _ _ _ _ _ [itemsO2 q] _ _ _ _
  have hmem := fun (ln : List Int) (hx : ln ∈ linesTo q.xs gap room (oneLine q.xs room wraps) q.xs.length) => linesTo_mem_len hx
  have hcount := linesTo_len (list := q.xs) (gap := gap) (room := room) (one := oneLine q.xs room wraps) q.xs.length
  have hsl := sizesTo_len q.xs gap inner (linesTo q.xs gap room (oneLine q.xs room wraps) q.xs.length)
  have hall := sizes_all (l := q.xs) (gap := gap) (inner := inner) (ls := linesTo q.xs gap room (oneLine q.xs room wraps) q.xs.length) (fun ln hln => linesTo_in hln)
  rw [lines_flat, List.length_map, List.length_range] at hsl hall
  have hL1 := fun (S : Nat → Prop) (w' : World) (h : ItemSlice S w' q.a q.xs) (hlow : ∀ k, S k → k < w'.heap.size) => lineSizes_any q.xs gap room inner wraps q.a q.c S w' (by omega) hf (by omega) h hlow
  have hL2 := fun (S : Nat → Prop) (w' : World) (h : ItemSlice S w' q.a q.xs) => slinesOf_any q.xs gap room wraps q.a q.c S w' (by omega) hf (by omega) h
  generalize linesTo q.xs gap room (oneLine q.xs room wraps) q.xs.length = ls at *
  generalize hST : sizesTo q.xs gap inner ls ls.length = ST at *
  repeat (first | refine SX.seq ?_ | refine SXl.nil ?_ | refine SX.region ?_ | refine SQ.thenNormal ?_ | (refine l_move ?_; (refine SXl.v (OpW.move rfl) rfl ?_ ?_ ?_); rfl; rfl) | (refine l_assign ?_; (refine SXl.v (OpW.assign rfl) rfl ?_ ?_ ?_); rfl; rfl) | (refine l_extract ?_; (refine SXl.v (OpW.extract rfl rfl) rfl ?_ ?_ ?_); rfl; rfl))
  refine l_call ?_
  refine SXl.callO rfl rfl rfl (fun w' hl => hL1 _ w' (items_at2 hl.owns (.head _)) (own_low2 hl)) (fun q1 _ => ?_)
  simp only [List.cons_append, List.nil_append]
  repeat (first | refine SX.seq ?_ | refine SXl.nil ?_ | refine SX.region ?_ | refine SQ.thenNormal ?_ | (refine l_move ?_; (refine SXl.v (OpW.move rfl) rfl ?_ ?_ ?_); rfl; rfl) | (refine l_assign ?_; (refine SXl.v (OpW.assign rfl) rfl ?_ ?_ ?_); rfl; rfl))
  refine l_call ?_
  refine SXl.callO rfl rfl rfl (fun w' hl => hL2 _ w' (items_at2 hl.owns (.tail _ (.head _)))) (fun q5 hq5 => ?_)
  obtain ⟨ps, pa, pc⟩ := q5
  simp only at hq5
  simp only [LinesQ.v, LinesQ.os, List.cons_append]
  have hpl : ps.length = ls.length := by rw [← hq5, List.length_map]
  repeat (first | refine SX.seq ?_ | refine SXl.nil ?_ | refine SX.region ?_ | refine SQ.thenNormal ?_ | refine SX.block ?_ | (refine l_assign ?_; (refine SXl.v (OpW.assign rfl) rfl ?_ ?_ ?_); rfl; rfl) | (refine l_buildSlice ?_; first | (refine SXl.lit1 ?_ ?_ rfl rfl rfl (fun g => ?_); rfl; rfl) | (refine SXl.lit0 ?_ ?_ (fun _ h => h) rfl (fun g => ?_); rfl; rfl)))
  revert g; intro g0
  refine SX.loop3 (fun (k : Nat) (_ : Option Addr × Nat) (_ : Unit) => k ≤ ps.length) (fun k _ _ => ps.length - k) (fun _ _ _ => []) (fun k q2 _ => lineO (sizesTo q.xs gap inner ls k, q2) :: rowsO ps pa pc :: (ps.map lineO ++ [lineO (ST, q1), itemsO2 q])) (fun _ _ _ => []) (fun k q2 _ => [(3, .slice q.a q.xs.length q.c), (4, .int .i64 gap), (7, .int .i64 inner), (8, .slice q1.1 ST.length q1.2), (9, .slice pa ps.length pc), (10, lineV (sizesTo q.xs gap inner ls k, q2)), (11, .int .i64 k)]) 0 (some ⟨g0, 0, none⟩, 0) () (Nat.zero_le _) ?_ (fun w' hl => hl) ?_
  · (repeat (first | exact subF_nil _ | (refine subF_cons rfl ?_) | (refine subF_consv rfl (by rfl) ?_)))
  rintro k ⟨sa, sc⟩ _ hk
  have hsk := hsl k
  have hsk1 := hsl (k + 1)
  by_cases hlt : k < ps.length
  rotate_left
  · obtain rfl : k = ps.length := by omega
    rw [hpl, hST] at *
    have hS1 := fun (w' : World) (h1 : IntSlice (fun k => w.heap.size ≤ k) w' q1.1 ST) (h2 : IntSlice (fun k => w.heap.size ≤ k) w' sa ST) => lsameInts_any ST ST q1.1 sa q1.2 sc _ _ w' (by omega) (by omega) h1 h2
    rw [decide_eq_true rfl] at hS1
    have hT := fun {g3 : Nat} (w' : World) (h : ItemSlice (fun k => k = g3) w' (some ⟨g3, 0, none⟩) [sixty, sixty]) (hlt : g3 < w'.heap.size) => lineSizes_any [sixty, sixty] 0 100 100 true (some ⟨g3, 0, none⟩) 2 (fun k => k = g3) w' (by decide) (fun x hx => by
      have : x = sixty := by simpa using hx
      rw [this]
      exact ⟨by decide, by decide, by decide, by decide, by decide, by decide, by decide⟩) (by decide) h (fun k e => e ▸ hlt)
    rw [show [sixty, sixty].length = 2 from rfl, sizes_two] at hT
    have h3S := fun (gf : Nat) {q3 : Option Addr × Nat} (w' : World) (h1 : IntSlice (fun k => w.heap.size ≤ k) w' q3.1 [100, 100]) (h2 : IntSlice (fun _ => True) w' (some ⟨gf, 0, none⟩) [100, 100]) => lsameInts_any [100, 100] [100, 100] q3.1 (some ⟨gf, 0, none⟩) q3.2 2 _ _ w' (by decide) (by decide) h1 h2
    rw [decide_eq_true rfl] at h3S
    repeat (first | refine SX.seq ?_ | refine SXl.nil ?_ | refine SX.region ?_ | refine SQ.thenNormal ?_ | refine SX.condF rfl ?_ | (refine l_build ?_; (refine SXl.v ((OpW.build (vals := [(0, .int .i64 60), (2, .int .i64 (-1)), (3, .int .i64 1)]) (cells := sixty.cells) rfl (by kernel_rfl))) rfl ?_ ?_ ?_); rfl; rfl) | (refine l_call ?_; (refine SXl.v (OpW.call rfl (fun w hl => hS1 _ (lineO_slice (p := (ST, q1)) hl.owns (List.mem_cons_of_mem _ (List.mem_cons_of_mem _ (List.mem_append_right _ (.head _))))) (lineO_slice (p := (ST, (sa, sc))) hl.owns (.head _)))) rfl ?_ ?_ ?_); rfl; rfl) | (refine l_load ?_; (refine SXl.v (OpW.loadAll 0 rfl rfl rfl) rfl ?_ ?_ ?_); rfl; rfl) | (refine l_move ?_; (refine SXl.v (OpW.move rfl) rfl ?_ ?_ ?_); rfl; rfl) | (refine l_len ?_; (refine SXl.v (OpW.len rfl) rfl ?_ ?_ ?_); rfl; rfl) | (refine l_eql ?_; (refine SXl.v (OpW.eqlT rfl rfl (by omega)) rfl ?_ ?_ ?_); rfl; rfl) | (refine l_lss ?_; (refine SXl.v (OpW.lssF rfl rfl (by omega)) rfl ?_ ?_ ?_); rfl; rfl) | (refine l_pick ?_; (refine SXl.v (OpW.pick rfl rfl rfl) rfl ?_ ?_ ?_); rfl; rfl) | (refine l_alloc ?_; refine SXl.alloc ?_ ?_ (fun g => ?_); rfl; rfl) | (refine l_store ?_; first | (refine SXl.storeAll 0 ?_ rfl rfl rfl rfl rfl rfl rfl ?_; rfl; simp only [List.set_cons_zero, List.set_cons_succ]) | (refine SXl.storeAll 1 ?_ rfl rfl rfl rfl rfl rfl rfl ?_; rfl; simp only [List.set_cons_zero, List.set_cons_succ]) | (refine SXl.storeAll 2 ?_ rfl rfl rfl rfl rfl rfl rfl ?_; rfl; simp only [List.set_cons_zero, List.set_cons_succ]) | (refine SXl.storeRow 0 ?_ rfl rfl rfl rfl rfl rfl rfl ?_; rfl; simp only [over, List.set_cons_zero, List.set_cons_succ]) | (refine SXl.storeRow 1 ?_ rfl rfl rfl rfl rfl rfl rfl ?_; rfl; simp only [over, List.set_cons_zero, List.set_cons_succ]) | (refine SXl.storeRow 2 ?_ rfl rfl rfl rfl rfl rfl rfl ?_; rfl; simp only [over, List.set_cons_zero, List.set_cons_succ])) | refine SX.exit ?_ | refine SQ.thenExit ?_ | refine SQ.blockExit ?_)
    refine l_buildSlice ?_
    refine SXl.litRow (parts := [(0, _), (1, _)]) (vals := [(0, .agg sixty.cells.toArray), (1, .agg sixty.cells.toArray)]) (cells := ([sixty, sixty].map Item.cells).flatten) rfl rfl rfl (by decide) (by decide) (by kernel_rfl) (fun g3 => ?_)
    skip
    refine l_call ?_
    refine SXl.callO rfl rfl rfl (fun w' hl => hT w' (blk_items2 rfl (hl.blk _ (.head _)).2) (hl.blk_lt (.head _))) (fun q3 _ => ?_)
    simp only [List.cons_append, List.nil_append]
    skip
    refine l_buildSlice ?_
    refine SXl.lit (cells := ([100, 100] : List Int).map (.int .i64)) (z := .int .i64 0) ?_ ?_ rfl (by decide) (by kernel_rfl) rfl (fun gf => ?_)
    rfl; rfl
    repeat (first | refine SXl.nil ?_ | refine SQ.thenNormal ?_ | (refine l_call ?_; (refine SXl.v (OpW.call rfl (fun w hl => h3S gf _ (lineO_slice (p := ([100, 100], q3)) hl.owns (.head _)) (blk_ints (spare := []) (xs := [100, 100]) (hl.blk _ (.head _)).2 trivial))) rfl ?_ ?_ ?_); rfl; rfl) | (refine l_assign ?_; (refine SXl.v (OpW.assign rfl) rfl ?_ ?_ ?_); rfl; rfl) | (refine l_pick ?_; (refine SXl.v (OpW.pick rfl rfl rfl) rfl ?_ ?_ ?_); rfl; rfl) | refine SX.ret ?_)
    refine SQ.body1 rfl rfl (fun w' hl => ⟨rfl, hl.mod⟩)
  obtain ⟨p, hp⟩ : ∃ p, ps[k]? = some p := ⟨_, List.getElem?_eq_getElem hlt⟩
  have hpm := List.mem_of_getElem? hp
  have hp1 := map_at hq5 hp
  have hpn := hmem p.1 (List.mem_of_getElem? hp1)
  have hS := sizesTo_next (l := q.xs) (gap := gap) (inner := inner) hp1
  refine SX.knowI (fun w hl => rows_addr (hl.owns) (.tail _ (.head _)) (by omega)) (fun ⟨gq, hgq⟩ => ?_)
  subst hgq
  have hv : (ps.map lineV)[0 + k]? = some (lineV p) := by rw [Nat.zero_add, List.getElem?_map, hp]; rfl
  have hll := lineIt_len q.xs p.1
  have hlf := lineIt_fits (ln := p.1) hf
  have hfl := flexSizes_len (lineIt q.xs p.1) gap inner
  have hI := fun (R S : Nat → Prop) (w' : World) (h : ItemSlice R w' q.a q.xs) => slineItems_any q.xs p.1 q.a p.2.1 q.c p.2.2 R S w' (by omega) (by omega) h
  have hF := fun (b : Option Addr) (d : Nat) (S : Nat → Prop) (w' : World) => sflexLine_any (lineIt q.xs p.1) gap inner b d S w' (by omega) hlf
  generalize hFS : flexSizes (lineIt q.xs p.1) gap inner = FS at *
  generalize lineIt q.xs p.1 = li at *
  repeat (first | refine SX.seq ?_ | refine SXl.nil ?_ | refine SX.region ?_ | refine SQ.thenNormal ?_ | refine SX.block ?_ | refine SX.skip ?_ | refine SX.condT rfl ?_ | (refine l_load ?_; (refine SXl.v (OpW.loadOwn (xs := ps.map lineV) 1 rfl rfl hv) rfl ?_ ?_ ?_); rfl; rfl) | (refine l_move ?_; (refine SXl.v (OpW.move rfl) rfl ?_ ?_ ?_); rfl; rfl) | (refine l_len ?_; (refine SXl.v (OpW.len rfl) rfl ?_ ?_ ?_); rfl; rfl) | (refine l_lss ?_; (refine SXl.v (OpW.lssT rfl rfl (by omega)) rfl ?_ ?_ ?_); rfl; rfl) | (refine l_indexAddr ?_; (refine SXl.v (OpW.indexAddr1 (by omega) rfl rfl) rfl ?_ ?_ ?_); rfl; rfl))
  refine l_call ?_
  refine SXl.calln1 (v := fun q => .slice q.a li.length q.c) (F1 := ownRes Item.cells 36 9 li) rfl rfl rfl (fun w' hl => (hI _ _ w' (items_at2 hl.owns (List.mem_cons_of_mem _ (List.mem_cons_of_mem _ (List.mem_append_right _ (.tail _ (.head _)))))) (lineO_slice hl.owns (List.mem_cons_of_mem _ (List.mem_cons_of_mem _ (List.mem_append_left _ (List.mem_map.2 ⟨p, hpm, rfl⟩)))))).mono fun _ _ h => new_own h) (fun q6 => ?_)
  repeat ((refine l_move ?_; (refine SXl.v (OpW.move rfl) rfl ?_ ?_ ?_); rfl; rfl))
  refine l_call ?_
  refine SXl.callO rfl rfl rfl (fun w' hl => hF _ _ _ w' (items_res (hl.res _ (.head _)).1) (fun k hk => (hl.res _ (.head _)).2.1 k hk)) (fun q7 _ => ?_)
  simp only [List.cons_append, List.nil_append]
  skip
  refine l_append ?_
  refine SXl.appendS (cs := icell) (n0 := (sizesTo q.xs gap inner ls k).length) (xs := ((sizesTo q.xs gap inner ls k).map icell).flatten) 1 FS rfl rfl rfl rfl rfl rfl (fun _ => rfl) icell_one0 (fun w' hl => ⟨_, lineO_slice (p := (FS, q7)) hl.owns (.head _)⟩) (by omega) (by omega) (fun a0 c0 => ?_)
  simp only [List.set_cons_zero, List.set_cons_succ]
  rw [line_app]
  repeat (first | refine SXl.nil ?_ | refine SX.region ?_ | refine SQ.thenNormal ?_ | (refine l_move ?_; (refine SXl.v (OpW.move rfl) rfl ?_ ?_ ?_); rfl; rfl) | (refine l_assign ?_; (refine SXl.v (OpW.assign rfl) rfl ?_ ?_ ?_); rfl; rfl) | (refine l_add ?_; (refine SXl.v (OpW.succ rfl rfl (by omega)) rfl ?_ ?_ ?_); rfl; rfl) | refine SQ.blockNormal ?_)
  refine SQ.round3 (k + 1) (a0, c0) () (by omega) (by omega) ?_ (fun w hl => by rw [hS]; exact hl.dropE.dropO)
  (repeat (first | exact subF_nil _ | (refine subF_cons rfl ?_) | (refine subF_consv rfl (by simp [lineV, hS]) ?_)))
/-! ### The row's frame (the kit's skeleton, turned) -/
namespace fnLineSizes
open Go.ChangeShapes Go.WideShapes Go.ChangeAt Go.RowKit
set_option linter.unusedVariables false

theorem own : ownKnob Try.prog.godebug = none := by kernel_rfl
theorem laidOut : laidOutB Try.prog = true := by kernel_rfl
def IsRow (k : IntKind) (w : World) (a : Option Addr) (len cap : Nat) (zs : List Int) : Prop :=
  (a = none ∧ len = 0 ∧ cap = 0 ∧ zs = []) ∨
  ∃ x, a = some x ∧ len ≤ cap ∧ cap ≤ maxLen ∧ zs.length = cap ∧ (∀ i, i < zs.length → w.cell? (x.add i) = some (.int k (zs.getD i 0))) ∧ ∀ n ∈ zs, (Lit.int k n).wf = true

theorem walk (a0 : Option Addr) (len0 cap0 : Nat) (z0 : List Int) (w : World) (w0 : IsRow .u8 w a0 len0 cap0 z0) :
    Calls Try.prog 5 #[.slice a0 len0 cap0] w fun e w' => e = .returned (.bool true) ∧ Below w.heap.size w w' := by
  obtain ⟨h1, h2⟩ := bytes_of_row (a := a0) (len := len0) (cap := cap0) (zs := z0) w0
  exact (fnLineSizes_walk w a0 len0 cap0 h1 h2).mono fun e w' ⟨he, hm⟩ => ⟨he, hm.below (Nat.le_refl _) fun _ _ h => h⟩

set_option maxRecDepth 100000 in
theorem lifted (os : Os) (started : os.Started) (H : Type) (enc : TypeId × Value → H) :
    ReturnsInHanded {} Try.checked os 5 .any (Rows.fnLineSizesSpec.pre6 enc Try.prog Try.f5 Rows.fnLineSizesRow.domain false) (Rows.fnLineSizesSpec.post enc Try.prog Try.f5 false true false false) := by
  refine returnsInHanded_of_change (C := Try.checked) own started (by kernel_rfl) Try.func5
    (ChangeSpec.witness6 (enc := enc) (C := Try.checked) false ⟨#[], #[.slice none 0 0], []⟩ 8 (by kernel_rfl) (by kernel_rfl) (by kernel_rfl) (by kernel_rfl)) ?_
  intro W base args ds gs before hval0 hW hcnd _
  have hval : ∀ (j : Nat) t v, Try.f5.params[j]? = some t → args[j]? = some v → Value.okWide Try.prog W .any base t v := hval0
  have hW' := hW
  obtain ⟨p, q, hA0, hV, rfl, hfz, hnd⟩ := hW
  have hA : DataW.TrodAll enc Try.prog W 0 (fun _ => true) true Try.f5.params.toList args.toList ds p := hA0
  rw [Try.params5] at hA hval
  obtain ⟨v0, vs0, d0, ds0, p0, q0, hargs, rfl, rfl, h0, r0⟩ := trodAll_cons hA
  obtain ⟨rfl, rfl, rfl⟩ := trodAll_nil r0
  obtain rfl : args = #[v0] := by cases args; simp_all
  obtain ⟨rfl, rfl⟩ := trodVars_none hV
  obtain ⟨a0, len0, cap0, rfl⟩ := okWide_slice Try.underlying22 (hval 0 22 v0 rfl rfl)
  have k0 := h0
  have lt0 : ∀ x ∈ p0, x.block < W.heap.size := by obtain ⟨m, hm⟩ := k0; exact DataW.trod_lt m _ _ _ hm
  obtain ⟨z0, w0⟩ : ∃ zs, IsRow .u8 W a0 len0 cap0 zs := by
    obtain ⟨fuel, hf⟩ := h0
    rcases open_ints Try.underlying22 Try.underlying5 (by kernel_rfl) hf with ⟨hcs, _⟩ | ⟨x, l, c, zs, hcs, _, hl, hm, hz, _, hcell, hwz⟩
    · simp [Value.cells] at hcs
      obtain ⟨rfl, rfl, rfl⟩ := hcs
      exact ⟨[], .inl ⟨rfl, rfl, rfl, rfl⟩⟩
    · simp [Value.cells] at hcs
      obtain ⟨rfl, rfl, rfl⟩ := hcs
      exact ⟨zs, .inr ⟨_, rfl, hl, hm, by simpa using hz, hcell, hwz⟩⟩
  clear hA0 hval0
  refine (walk a0 len0 cap0 z0 W w0).mono fun e W' ⟨he, bel⟩ => ?_
  subst he
  exact ⟨_, rfl, _, _, _, [], _, [], hW', trodAll_mk1 (shut_bool Try.underlying4 _), (trodAll_cons_mk (Below.trod laidOut (by kernel_rfl) (of_decide_eq_true (by kernel_rfl)) k0 bel lt0) trodAll_mk0), rfl, bel.frame _, fun h => by cases h⟩

theorem over : Rows.fnLineSizesRow.holds Try.pinned (OpenSpec.ofChange Rows.fnLineSizesSpec) :=
  OpenClaim.holds_of_wide 5 Try.f5 rfl rfl rfl rfl rfl rfl rfl ⟨rfl, rfl, rfl, rfl, rfl⟩ rfl rfl rfl rfl rfl (by kernel_rfl) Try.func5 (by kernel_rfl)
    (of_decide_eq_true (by kernel_rfl)) (by unfold Func.isWrapper; first | (rw [if_pos (by decide +kernel)]; kernel_rfl) | (rw [if_neg (by decide +kernel)]; exact ⟨rfl, rfl⟩))
    (fun os started H enc _ => lifted os started H enc)

theorem proved : Rows.FnLineSizesSaid := over
#print axioms proved
end fnLineSizes


end Go.Proofs.Ytdohglcjjlmhhaa
