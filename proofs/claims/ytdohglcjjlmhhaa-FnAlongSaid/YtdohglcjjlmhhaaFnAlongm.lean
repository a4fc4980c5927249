/-
  PROVED: for every list of bytes the law FnAlong returns true. No condition.
-/
import Derived.Test.YtdohglcjjlmhhaaMWd
import Derived.Test.YtdohglcjjlmhhaaRows
import Derived.ProofKit
import Derived.OpenShut
import Derived.ShutString
import Derived.ChangeOld
set_option linter.unusedVariables false
set_option linter.unusedSimpArgs false
namespace Go.Proofs.Ytdohglcjjlmhhaa
open Go.RowKit
set_option linter.unusedVariables false
set_option linter.unusedSimpArgs false

theorem blk_items {w : World} {g : Nat} {l : List Item} {T : TypeId} {cells : List Value} (he : cells = (l.map Item.cells).flatten) (h : w.heap[g]? = some (.cells cells.toArray T (0, 0))) : ItemSlice (fun k => k = g) w (some ⟨g, 0, none⟩) l := by
  subst he
  refine ⟨l.map Item.cells, rowsAt_of_blk h (by intro r hr; obtain ⟨x, _, rfl⟩ := List.mem_map.1 hr; rfl) rfl, by simp, fun i r y h1 h2 => ?_⟩
  rw [List.getElem?_map, h2] at h1
  simpa [Flat] using h1.symm
theorem item_cellF {R : Nat → Prop} {w : World} {g k : Nat} {l : List Item} {x : Item} (h : ItemSlice R w (some ⟨g, 0, none⟩) l) (hk : l[k]? = some x) : ∀ j v, x.cells[j]? = some v → w.cell? ⟨g, 0 + k * 9 + j, none⟩ = some v := by
  obtain ⟨b, o, y, e, _, _, hy, hc⟩ := h.get (List.getElem?_eq_some_iff.1 hk).1
  simp only [Option.some.injEq, Addr.mk.injEq, and_true] at e
  obtain ⟨rfl, rfl⟩ := e
  obtain rfl : x = y := Option.some.inj (hk.symm.trans hy)
  exact hc
theorem line_cellF {base : Nat} {w : World} {os : List Own} {ln : List Int} {g c j : Nat} {y : Int} (h : Owns base w os) (hp : lineO (ln, (some ⟨g, 0, none⟩, c)) ∈ os) (hj : ln[j]? = some y) : w.cell? ⟨g, 0 + j, none⟩ = some (.int .i64 y) := by
  obtain ⟨b, o, x, e, _, _, hx, hc⟩ := IntSlice.get (lineO_slice h hp) (k := j) (List.getElem?_eq_some_iff.1 hj).1
  simp only [Option.some.injEq, Addr.mk.injEq, and_true] at e
  obtain ⟨rfl, rfl⟩ := e
  rw [hx.out] at hj
  rw [← Option.some.inj hj]
  exact hc
def itemsO (q : ItemsQ) : Own := ⟨.slice q.a q.xs.length q.c, 36, 9, q.xs.length, (q.xs.map Item.cells).flatten⟩
theorem items_at {base : Nat} {w : World} {os : List Own} {q : ItemsQ} (h : Owns base w os) (hq : itemsO q ∈ os) : ItemSlice (fun k => (∃ o ∈ os, o.v.ownBlock = some k)) w q.a q.xs := by
  have h1 : w.ownsRow base 36 9 (.slice q.a q.xs.length q.c) q.xs.length (q.xs.map Item.cells).flatten := h.row _ hq
  obtain ⟨rows, h2, h3, h4⟩ := own_slice h1 Item.cells_len (by decide)
  refine ⟨rows, ?_, h3, h4⟩
  rcases h2 with h2 | ⟨b, o, e, hb, hlt, hc⟩
  · exact .inl h2
  · refine .inr ⟨b, o, e, ⟨_, hq, ?_⟩, hlt, hc⟩
    show (Value.slice q.a q.xs.length q.c).ownBlock = some b
    rw [e]; rfl
set_option maxRecDepth 100000 in
set_option maxHeartbeats 16000000 in
theorem fnAlong_walk (w : World) (a : Option Addr) (len cap : Nat) (hl0 : len ≤ 9223372036854775807) (hy : Bytes w.heap.size w a len) :
    Calls Try.prog 6 #[.slice a len cap] w fun e w' => e = .returned (.bool true) ∧ Mod (fun _ => False) w w' := by
  have hm : len ≤ maxLen := by unfold maxLen; exact hl0
  refine calls_sx Try.func6 rfl rfl (fun a h1 h2 h3 => ((Fr.nil h1 h2).arg (h3 0 _ rfl))) ?_
  by_cases hbig : 1048576 < len
  · repeat (first | refine SX.seq ?_ | refine SXl.nil ?_ | refine SX.region ?_ | refine SQ.thenNormal ?_ | refine SX.condT rfl ?_ | (refine l_call ?_; (refine SXl.v (OpW.call rfl (fun w hl => bigT a cap hm hbig _)) rfl ?_ ?_ ?_); rfl; rfl) | (refine l_move ?_; (refine SXl.v (OpW.move rfl) rfl ?_ ?_ ?_); rfl; rfl) | (refine l_assign ?_; (refine SXl.v (OpW.assign rfl) rfl ?_ ?_ ?_); rfl; rfl) | refine SX.ret ?_ | refine SQ.thenRet ?_)
    refine SQ.body1 rfl rfl (fun w' hl => ⟨rfl, hl.mod⟩)
  repeat (first | refine SX.seq ?_ | refine SXl.nil ?_ | refine SX.region ?_ | refine SQ.thenNormal ?_ | refine SX.skip ?_ | refine SX.condF rfl ?_ | (refine l_call ?_; (refine SXl.v (OpW.call rfl (fun w hl => bigF a cap hm hbig _)) rfl ?_ ?_ ?_); rfl; rfl) | (refine l_move ?_; (refine SXl.v (OpW.move rfl) rfl ?_ ?_ ?_); rfl; rfl) | (refine l_assign ?_; (refine SXl.v (OpW.assign rfl) rfl ?_ ?_ ?_); rfl; rfl))
  refine l_call ?_
  refine SXl.callO rfl rfl rfl (fun w' hl => drawPlacesAlong_o a len cap w' (by omega) (bytes_loc hy (fun _ _ f => f) hl)) (fun q hq => ?_)
  obtain ⟨⟨xs, qa, qc⟩, ⟨s, ⟨sa, sc⟩⟩, gap, inner, J⟩ := q
  obtain ⟨⟨hf, hxl⟩, hsl⟩ := hq
  simp only at hf hxl hsl
  simp only [AlongArgs.v, AlongArgs.os, ItemsQ.v, List.append_nil]
  change SXl _ _ _ _ _ _ [lineO (s, (sa, sc)), itemsO ⟨xs, qa, qc⟩] _ _ _ _
  have hP1 := fun (R S : Nat → Prop) (w' : World) (h : ItemSlice R w' qa xs) (h' : IntSlice S w' sa s) => placesAlong_any xs s gap inner J qa sa qc sc R S w' (by omega) (by omega) h h'
  have hP2 := fun (R S : Nat → Prop) (w' : World) (h : ItemSlice R w' qa xs) (h' : IntSlice S w' sa s) => splacesAlong_any xs s gap inner J qa sa qc sc R S w' (by omega) (by omega) h h'
  have hE1 := fun (R S : Nat → Prop) (w' : World) (h : ItemSlice R w' qa xs) (h' : IntSlice S w' sa s) => endsAlong_any xs s gap inner J qa sa qc sc R S w' (by omega) (by omega) h h'
  have hE2 := fun (R S : Nat → Prop) (w' : World) (h : ItemSlice R w' qa xs) (h' : IntSlice S w' sa s) => sendsAlong_any xs s gap inner J qa sa qc sc R S w' (by omega) (by omega) h h'
  have hPl := alongPlaces_le (l := xs) (s := s) (gap := gap) (inner := inner) (justify := J)
  have hend2 := fun (hok : alongOk xs s gap inner = true) (h0 : 0 < xs.length) (ha : autosIn xs = 0) (f0 : -1048576 ≤ inner - outerOf xs s gap) (f1 : inner - outerOf xs s gap ≤ 1048576) (hJ : J = 2) => by
    have := end_end hok h0 ha f0 f1
    rw [← hJ] at this
    exact this
  have hend4 := fun (hok : alongOk xs s gap inner = true) (h0 : 2 ≤ xs.length) (ha : autosIn xs = 0) (f0 : 0 ≤ inner - outerOf xs s gap) (f1 : inner - outerOf xs s gap ≤ 1048576) (hJ : J = 4) => by
    have := end_between hok h0 ha f0 f1
    rw [← hJ] at this
    exact this
  have henda := fun (hok : alongOk xs s gap inner = true) (h0 : 0 < xs.length) (ha : autosIn xs ≠ 0) (f0 : 0 < inner - outerOf xs s gap) (f1 : inner - outerOf xs s gap ≤ 1048576) => end_auto (justify := J) hok h0 ha f0 f1
  have hPat := fun (hok : alongOk xs s gap inner = true) (k : Nat) (hk : k < xs.length) => along_get (justify := J) hok hk
  have hPlen := fun (hok : alongOk xs s gap inner = true) => alongPlaces_len (justify := J) hok
  have hPno := fun (hok : alongOk xs s gap inner = false) => along_no (justify := J) hok
  generalize hPP : alongPlaces xs s gap inner J = P at *
  generalize hEE : alongEnd xs s gap inner J = D at *
  repeat (first | refine SX.seq ?_ | refine SXl.nil ?_ | refine SX.region ?_ | refine SQ.thenNormal ?_ | (refine l_move ?_; (refine SXl.v (OpW.move rfl) rfl ?_ ?_ ?_); rfl; rfl) | (refine l_assign ?_; (refine SXl.v (OpW.assign rfl) rfl ?_ ?_ ?_); rfl; rfl) | (refine l_extract ?_; (refine SXl.v (OpW.extract rfl rfl) rfl ?_ ?_ ?_); rfl; rfl))
  refine l_call ?_
  refine SXl.callO rfl rfl rfl (fun w' hl => hP1 _ _ w' (items_at hl.owns (.tail _ (.head _))) (lineO_slice (p := (s, (sa, sc))) hl.owns (.head _))) (fun q1 _ => ?_)
  simp only [List.cons_append, List.nil_append]
  repeat (first | refine SX.seq ?_ | refine SXl.nil ?_ | refine SX.region ?_ | refine SQ.thenNormal ?_ | (refine l_call ?_; (refine SXl.v (OpW.call rfl (fun w hl => hE1 _ _ _ (items_at (q := ⟨xs, qa, qc⟩) hl.owns (.tail _ (.tail _ (.head _)))) (lineO_slice (p := (s, (sa, sc))) hl.owns (.tail _ (.head _))))) rfl ?_ ?_ ?_); rfl; rfl) | (refine l_move ?_; (refine SXl.v (OpW.move rfl) rfl ?_ ?_ ?_); rfl; rfl) | (refine l_assign ?_; (refine SXl.v (OpW.assign rfl) rfl ?_ ?_ ?_); rfl; rfl))
  refine l_call ?_
  refine SXl.callO rfl rfl rfl (fun w' hl => hP2 _ _ w' (items_at (q := ⟨xs, qa, qc⟩) hl.owns (.tail _ (.tail _ (.head _)))) (lineO_slice (p := (s, (sa, sc))) hl.owns (.tail _ (.head _)))) (fun q2 _ => ?_)
  simp only [List.cons_append, List.nil_append]
  have hS := fun (w' : World) (h1 : IntSlice (fun k => w.heap.size ≤ k) w' q1.1 P) (h2 : IntSlice (fun k => w.heap.size ≤ k) w' q2.1 P) => lsameInts_any P P q1.1 q2.1 q1.2 q2.2 _ _ w' (by omega) (by omega) h1 h2
  rw [decide_eq_true rfl] at hS
  have h3L := fun {g3 g4 : Nat} (w' : World) (h : ItemSlice (fun k => k = g3) w' (some ⟨g3, 0, none⟩) [twenty, twenty]) (h' : IntSlice (fun _ => True) w' (some ⟨g4, 0, none⟩) [20, 20]) => placesAlong_any [twenty, twenty] [20, 20] 0 100 4 (some ⟨g3, 0, none⟩) (some ⟨g4, 0, none⟩) 2 2 (fun k => k = g3) (fun _ => True) w' (by decide) (by decide) h h'
  rw [along_two] at h3L
  have h3S := fun (gf : Nat) {q3 : Option Addr × Nat} (w' : World) (h1 : IntSlice (fun k => w.heap.size ≤ k) w' q3.1 [0, 80]) (h2 : IntSlice (fun _ => True) w' (some ⟨gf, 0, none⟩) [0, 80]) => lsameInts_any [0, 80] [0, 80] q3.1 (some ⟨gf, 0, none⟩) q3.2 2 _ _ w' (by decide) (by decide) h1 h2
  rw [decide_eq_true rfl] at h3S
  repeat (first | refine SX.seq ?_ | refine SXl.nil ?_ | refine SX.region ?_ | refine SQ.thenNormal ?_ | refine SX.skip ?_ | refine SX.condF rfl ?_ | (refine l_call ?_; (first | refine SXl.v (OpW.call rfl (fun w hl => hS _ (lineO_slice (p := (P, q1)) hl.owns (.tail _ (.head _))) (lineO_slice (p := (P, q2)) hl.owns (.head _)))) rfl ?_ ?_ ?_ | refine SXl.v (OpW.call rfl (fun w hl => hE2 _ _ _ (items_at (q := ⟨xs, qa, qc⟩) hl.owns (.tail _ (.tail _ (.tail _ (.head _))))) (lineO_slice (p := (s, (sa, sc))) hl.owns (.tail _ (.tail _ (.head _)))))) rfl ?_ ?_ ?_); rfl; rfl) | (refine l_build ?_; (refine SXl.v ((OpW.build (vals := [(0, .int .i64 20), (2, .int .i64 (-1))]) (cells := twenty.cells) rfl (by kernel_rfl))) rfl ?_ ?_ ?_); rfl; rfl) | (refine l_load ?_; (refine SXl.v (OpW.loadAll 0 rfl rfl rfl) rfl ?_ ?_ ?_); rfl; rfl) | (refine l_move ?_; (refine SXl.v (OpW.move rfl) rfl ?_ ?_ ?_); rfl; rfl) | (refine l_neq ?_; (refine SXl.v (OpW.neqF rfl rfl (by omega)) rfl ?_ ?_ ?_); rfl; rfl) | (refine l_not ?_; (refine SXl.v (OpW.not rfl) rfl ?_ ?_ ?_); rfl; rfl) | (refine l_pick ?_; (refine SXl.v (OpW.pick rfl rfl rfl) rfl ?_ ?_ ?_); rfl; rfl) | (refine l_alloc ?_; refine SXl.alloc ?_ ?_ (fun g => ?_); rfl; rfl) | (refine l_store ?_; first | (refine SXl.storeAll 0 ?_ rfl rfl rfl rfl rfl rfl rfl ?_; rfl; simp only [List.set_cons_zero, List.set_cons_succ]) | (refine SXl.storeAll 1 ?_ rfl rfl rfl rfl rfl rfl rfl ?_; rfl; simp only [List.set_cons_zero, List.set_cons_succ]) | (refine SXl.storeAll 2 ?_ rfl rfl rfl rfl rfl rfl rfl ?_; rfl; simp only [List.set_cons_zero, List.set_cons_succ]) | (refine SXl.storeRow 0 ?_ rfl rfl rfl rfl rfl rfl rfl ?_; rfl; simp only [over, List.set_cons_zero, List.set_cons_succ]) | (refine SXl.storeRow 1 ?_ rfl rfl rfl rfl rfl rfl rfl ?_; rfl; simp only [over, List.set_cons_zero, List.set_cons_succ]) | (refine SXl.storeRow 2 ?_ rfl rfl rfl rfl rfl rfl rfl ?_; rfl; simp only [over, List.set_cons_zero, List.set_cons_succ])))
  refine l_buildSlice ?_
  refine SXl.litRow (parts := [(0, _), (1, _)]) (vals := [(0, .agg twenty.cells.toArray), (1, .agg twenty.cells.toArray)]) (cells := ([twenty, twenty].map Item.cells).flatten) rfl rfl rfl (by decide) (by decide) (by kernel_rfl) (fun g3 => ?_)
  skip
  refine l_buildSlice ?_
  refine SXl.lit (cells := ([20, 20] : List Int).map (.int .i64)) (z := .int .i64 0) ?_ ?_ rfl (by decide) (by kernel_rfl) rfl (fun g4 => ?_)
  rfl; rfl
  skip
  refine l_call ?_
  refine SXl.callO rfl rfl rfl (fun w' hl => h3L w' (blk_items rfl (hl.blk _ (.tail _ (.head _))).2) (blk_ints (spare := []) (xs := [20, 20]) (hl.blk _ (.head _)).2 trivial)) (fun q3 _ => ?_)
  simp only [List.cons_append, List.nil_append]
  obtain ⟨q1a, q1c⟩ := q1
  have eL : lineV (P, (q1a, q1c)) = .slice q1a P.length q1c := rfl
  have eS : lineV (s, (sa, sc)) = .slice sa s.length sc := rfl
  simp only [eL, eS]
  by_cases h0 : P.length = 0
  · rw [h0]
    repeat (first | refine SX.seq ?_ | refine SXl.nil ?_ | refine SX.region ?_ | refine SQ.thenNormal ?_ | refine SX.condT rfl ?_ | (refine l_move ?_; (refine SXl.v (OpW.move rfl) rfl ?_ ?_ ?_); rfl; rfl) | (refine l_assign ?_; (refine SXl.v (OpW.assign rfl) rfl ?_ ?_ ?_); rfl; rfl) | (refine l_len ?_; (refine SXl.v (OpW.len rfl) rfl ?_ ?_ ?_); rfl; rfl) | (refine l_eql ?_; (refine SXl.v (OpW.eqlT rfl rfl (by omega)) rfl ?_ ?_ ?_); rfl; rfl))
    refine l_buildSlice ?_
    refine SXl.lit (cells := ([0, 80] : List Int).map (.int .i64)) (z := .int .i64 0) ?_ ?_ rfl (by decide) (by kernel_rfl) rfl (fun gf => ?_)
    rfl; rfl
    repeat (first | refine SXl.nil ?_ | refine SQ.thenNormal ?_ | (refine l_call ?_; (refine SXl.v (OpW.call rfl (fun w hl => h3S gf _ (lineO_slice (p := ([0, 80], q3)) hl.owns (.head _)) (blk_ints (spare := []) (xs := [0, 80]) (hl.blk _ (.head _)).2 trivial))) rfl ?_ ?_ ?_); rfl; rfl) | (refine l_assign ?_; (refine SXl.v (OpW.assign rfl) rfl ?_ ?_ ?_); rfl; rfl) | refine SX.ret ?_ | refine SQ.thenRet ?_)
    refine SQ.body1 rfl rfl (fun w' hl => ⟨rfl, hl.mod⟩)
  have hok : alongOk xs s gap inner = true := by
    cases hk : alongOk xs s gap inner
    · exact absurd (by rw [(hPno hk).1]; rfl) h0
    · rfl
  obtain ⟨hn, hsn, hri, hsb, hg, hin⟩ := alongOk_says hok
  replace hPat := hPat hok
  replace hPlen := hPlen hok
  replace hend2 := hend2 hok
  replace hend4 := hend4 hok
  replace henda := henda hok
  have hstep := fun (k : Nat) (x z : Item) (y : Int) (hk : k + 1 < xs.length) (hx : xs[k]? = some x) (hz : xs[k + 1]? = some z) (hy : s[k]? = some y) => along_step (justify := J) hok hk hx hz hy
  have hpb := fun (k : Nat) (hk : k < xs.length) => place_bd (justify := J) hok hk
  have hns : Near 2147483648 s := fun y hy => by have := hsb y hy; omega
  have hub := outer_bd (gap := gap) hf hns (by omega) (by omega) (by omega)
  have hF := fun (R S : Nat → Prop) (w' : World) (h : ItemSlice R w' qa xs) (h' : IntSlice S w' sa s) => sfreeOf_any xs s gap inner qa sa qc sc R S w' (by omega) (by omega) hf hns (by omega) (by omega) h h'
  have hA := fun (R : Nat → Prop) (w' : World) (h : ItemSlice R w' qa xs) => sautosIn_any xs qa qc R w' (by omega) h
  have hau := autosIn_le xs
  generalize hVV : outerOf xs s gap = V at *
  generalize hau2 : autosIn xs = au at *
  repeat (first | refine SX.seq ?_ | refine SXl.nil ?_ | refine SX.region ?_ | refine SQ.thenNormal ?_ | refine SX.block ?_ | refine SX.skip ?_ | refine SX.condF rfl ?_ | (refine l_call ?_; (refine SXl.v (OpW.call rfl (fun w hl => hF _ _ _ (items_at (q := ⟨xs, qa, qc⟩) hl.owns (.tail _ (.tail _ (.tail _ (.tail _ (.head _)))))) (lineO_slice (p := (s, (sa, sc))) hl.owns (.tail _ (.tail _ (.tail _ (.head _))))))) rfl ?_ ?_ ?_); rfl; rfl) | (refine l_move ?_; (refine SXl.v (OpW.move rfl) rfl ?_ ?_ ?_); rfl; rfl) | (refine l_assign ?_; (refine SXl.v (OpW.assign rfl) rfl ?_ ?_ ?_); rfl; rfl) | (refine l_len ?_; (refine SXl.v (OpW.len rfl) rfl ?_ ?_ ?_); rfl; rfl) | (refine l_eql ?_; (refine SXl.v (OpW.eqlF rfl rfl (by omega)) rfl ?_ ?_ ?_); rfl; rfl))
  refine SX.loopi (fun k : Nat => k + 1 ≤ P.length) (fun k => P.length - k) (fun _ => []) (fun _ => [lineO ([0, 80], q3), lineO (P, q2), lineO (P, (q1a, q1c)), lineO (s, (sa, sc)), itemsO ⟨xs, qa, qc⟩]) (fun _ => []) (fun k => [(3, .slice qa xs.length qc), (4, .slice sa s.length sc), (5, .int .i64 gap), (6, .int .i64 inner), (7, .int .i64 J), (8, .slice q1a P.length q1c), (9, .int .i64 D), (11, lineV ([0, 80], q3)), (12, .int .i64 (inner - V)), (13, .int .i64 ((k + 1 : Nat) : Int))]) 0 (by omega) ?_ (fun _ hl => hl.drop1.drop1.drop1) ?_
  · (repeat (first | exact subF_nil _ | (refine subF_cons rfl ?_) | (refine subF_consv rfl (by rfl) ?_)))
  intro k hk
  by_cases hlt : k + 1 < P.length
  · refine SX.knowI (fun w' hl => own_addr (hl.own _ (.tail _ (.tail _ (.tail _ (.tail _ (.head _)))))).1 (by show 0 < xs.length; omega)) (fun ⟨gi, ei⟩ => ?_)
    refine SX.knowI (fun w' hl => own_addr (hl.own _ (.tail _ (.tail _ (.tail _ (.head _))))).1 (by show 0 < s.length; omega)) (fun ⟨gs, es⟩ => ?_)
    refine SX.knowI (fun w' hl => own_addr (hl.own _ (.tail _ (.tail _ (.head _)))).1 (by show 0 < P.length; omega)) (fun ⟨gp, ep⟩ => ?_)
    simp only at ei es ep
    subst ei es ep
    obtain ⟨x, hx⟩ : ∃ x, xs[k]? = some x := ⟨_, List.getElem?_eq_getElem (by omega)⟩
    obtain ⟨z, hz⟩ : ∃ z, xs[k + 1]? = some z := ⟨_, List.getElem?_eq_getElem (by omega)⟩
    obtain ⟨y, hyk⟩ : ∃ y, s[k]? = some y := ⟨_, List.getElem?_eq_getElem (by omega)⟩
    have hp0 := hPat k (by omega)
    have hp1 := hPat (k + 1) (by omega)
    have hst := hstep k x z y (by omega) hx hz hyk
    have hb0 := hpb k (by omega)
    have hb1 := hpb (k + 1) (by omega)
    have hxr := (hri x (List.mem_of_getElem? hx)).behind
    have hzr := (hri z (List.mem_of_getElem? hz)).before
    have hyr := hsb y (List.mem_of_getElem? hyk)
    generalize (alongOf xs s gap inner J).place k = p0 at *
    generalize (alongOf xs s gap inner J).place (k + 1) = p1 at *
    repeat (first | refine SX.seq ?_ | refine SXl.nil ?_ | refine SX.region ?_ | refine SQ.thenNormal ?_ | refine SX.block ?_ | refine SX.skip ?_ | refine SX.condT rfl ?_ | refine SX.condF rfl ?_ | (refine l_move ?_; (refine SXl.v (OpW.move rfl) rfl ?_ ?_ ?_); rfl; rfl) | (refine l_assign ?_; (refine SXl.v (OpW.assign rfl) rfl ?_ ?_ ?_); rfl; rfl) | (refine l_len ?_; (refine SXl.v (OpW.len rfl) rfl ?_ ?_ ?_); rfl; rfl) | (refine l_add ?_; (refine SXl.v (OpW.succ rfl rfl (by omega)) rfl ?_ ?_ ?_); rfl; rfl) | (refine l_lss ?_; (refine SXl.v (OpW.lssT rfl rfl (by omega)) rfl ?_ ?_ ?_); rfl; rfl) | refine SX.drawn (by kernel_rfl) (by kernel_rfl) ?_ | refine SXr.nil ?_ | (refine r_load ?_; (first | refine SXr.v (OpW.loadLoc rfl (fun w' hl => item_cellF (items_at (q := ⟨xs, some ⟨gi, 0, none⟩, qc⟩) hl.owns (.tail _ (.tail _ (.tail _ (.tail _ (.head _)))))) hx 6 _ rfl)) rfl ?_ ?_ ?_ | refine SXr.v (OpW.loadLoc rfl (fun w' hl => item_cellF (items_at (q := ⟨xs, some ⟨gi, 0, none⟩, qc⟩) hl.owns (.tail _ (.tail _ (.tail _ (.tail _ (.head _)))))) hz 5 _ rfl)) rfl ?_ ?_ ?_ | refine SXr.v (OpW.loadLoc rfl (fun w' hl => line_cellF (c := sc) hl.owns (.tail _ (.tail _ (.tail _ (.head _)))) hyk)) rfl ?_ ?_ ?_ | refine SXr.v (OpW.loadLoc rfl (fun w' hl => line_cellF (c := q1c) hl.owns (.tail _ (.tail _ (.head _))) hp1)) rfl ?_ ?_ ?_ | refine SXr.v (OpW.loadLoc rfl (fun w' hl => line_cellF (c := q1c) hl.owns (.tail _ (.tail _ (.head _))) hp0)) rfl ?_ ?_ ?_); rfl; rfl) | (refine r_indexAddr ?_; (first | refine SXr.v ((OpW.indexAddr1 (i := k) (by omega) rfl (congrArg (fun i : Int => some (Value.int .i64 i)) (by omega : ((k + 1 : Nat) : Int) - 1 = (k : Int))))) rfl ?_ ?_ ?_ | refine SXr.v ((OpW.indexAddr (i := k) (by omega) rfl (congrArg (fun i : Int => some (Value.int .i64 i)) (by omega : ((k + 1 : Nat) : Int) - 1 = (k : Int))))) rfl ?_ ?_ ?_ | refine SXr.v (OpW.indexAddr1 (by omega) rfl rfl) rfl ?_ ?_ ?_ | refine SXr.v (OpW.indexAddr (by omega) rfl rfl) rfl ?_ ?_ ?_); rfl; rfl) | (refine r_fieldAddr ?_; (refine SXr.v (OpW.fieldAddr rfl) rfl ?_ ?_ ?_); rfl; rfl) | (refine r_move ?_; (refine SXr.v (OpW.move rfl) rfl ?_ ?_ ?_); rfl; rfl) | (refine r_add ?_; (refine SXr.v (OpW.addi rfl rfl (by omega) (by omega)) rfl ?_ ?_ ?_); rfl; rfl) | (refine r_lss ?_; (refine SXr.v (OpW.lssF rfl rfl (by omega)) rfl ?_ ?_ ?_); rfl; rfl) | (refine r_sub ?_; (refine SXr.v (OpW.subi rfl rfl (by omega) (by omega)) rfl ?_ ?_ ?_); rfl; rfl) | refine SQ.blockNormal ?_)
    refine SQ.roundi (k + 1) (by omega) (by omega) ?_ (fun _ hl => hl)
    (repeat (first | exact subF_nil _ | (refine subF_cons rfl ?_) | (refine subF_consv rfl (by rfl) ?_)))
  have hke : k + 1 = P.length := by omega
  by_cases s1 : 1048576 < inner - V
  · skip
    repeat (first | refine SX.seq ?_ | refine SXl.nil ?_ | refine SX.region ?_ | refine SQ.thenNormal ?_ | refine SX.condF rfl ?_ | (refine SXl.no rfl rfl rfl ?_) | (refine l_call ?_; (refine SXl.v (OpW.call rfl (fun w hl => hA _ _ (items_at (q := ⟨xs, qa, qc⟩) hl.owns (.tail _ (.tail _ (.tail _ (.tail _ (.head _)))))))) rfl ?_ ?_ ?_); rfl; rfl) | (refine l_move ?_; (refine SXl.v (OpW.move rfl) rfl ?_ ?_ ?_); rfl; rfl) | (refine l_assign ?_; (refine SXl.v (OpW.assign rfl) rfl ?_ ?_ ?_); rfl; rfl) | (refine l_len ?_; (refine SXl.v (OpW.len rfl) rfl ?_ ?_ ?_); rfl; rfl) | (refine l_gtr ?_; (refine SXl.v (OpW.gtrT rfl rfl (by omega)) rfl ?_ ?_ ?_); rfl; rfl) | (refine l_lss ?_; (refine SXl.v (OpW.lssF rfl rfl (by omega)) rfl ?_ ?_ ?_); rfl; rfl) | (refine l_pick ?_; (refine SXl.v (OpW.pick rfl rfl rfl) rfl ?_ ?_ ?_); rfl; rfl) | refine SX.exit ?_ | refine SQ.thenExit ?_ | refine SQ.blockExit ?_)
    refine l_buildSlice ?_
    refine SXl.lit (cells := ([0, 80] : List Int).map (.int .i64)) (z := .int .i64 0) ?_ ?_ rfl (by decide) (by kernel_rfl) rfl (fun gf => ?_)
    rfl; rfl
    repeat (first | refine SXl.nil ?_ | refine SQ.thenNormal ?_ | (refine l_call ?_; (refine SXl.v (OpW.call rfl (fun w hl => h3S gf _ (lineO_slice (p := ([0, 80], q3)) hl.owns (.head _)) (blk_ints (spare := []) (xs := [0, 80]) (hl.blk _ (.head _)).2 trivial))) rfl ?_ ?_ ?_); rfl; rfl) | (refine l_assign ?_; (refine SXl.v (OpW.assign rfl) rfl ?_ ?_ ?_); rfl; rfl) | (refine l_pick ?_; (refine SXl.v (OpW.pick rfl rfl rfl) rfl ?_ ?_ ?_); rfl; rfl) | refine SX.ret ?_)
    refine SQ.body1 rfl rfl (fun w' hl => ⟨rfl, hl.mod⟩)
  by_cases s2 : inner - V < -1048576
  · skip
    repeat (first | refine SX.seq ?_ | refine SXl.nil ?_ | refine SX.region ?_ | refine SQ.thenNormal ?_ | refine SX.condF rfl ?_ | (refine SXl.no rfl rfl rfl ?_) | (refine l_call ?_; (refine SXl.v (OpW.call rfl (fun w hl => hA _ _ (items_at (q := ⟨xs, qa, qc⟩) hl.owns (.tail _ (.tail _ (.tail _ (.tail _ (.head _)))))))) rfl ?_ ?_ ?_); rfl; rfl) | (refine l_move ?_; (refine SXl.v (OpW.move rfl) rfl ?_ ?_ ?_); rfl; rfl) | (refine l_assign ?_; (refine SXl.v (OpW.assign rfl) rfl ?_ ?_ ?_); rfl; rfl) | (refine l_len ?_; (refine SXl.v (OpW.len rfl) rfl ?_ ?_ ?_); rfl; rfl) | (refine l_gtr ?_; (refine SXl.v (OpW.gtrF rfl rfl (by omega)) rfl ?_ ?_ ?_); rfl; rfl) | (refine l_lss ?_; (first | refine SXl.v (OpW.lssT rfl rfl (by omega)) rfl ?_ ?_ ?_ | refine SXl.v (OpW.lssF rfl rfl (by omega)) rfl ?_ ?_ ?_); rfl; rfl) | (refine l_pick ?_; (refine SXl.v (OpW.pick rfl rfl rfl) rfl ?_ ?_ ?_); rfl; rfl) | refine SX.exit ?_ | refine SQ.thenExit ?_ | refine SQ.blockExit ?_)
    refine l_buildSlice ?_
    refine SXl.lit (cells := ([0, 80] : List Int).map (.int .i64)) (z := .int .i64 0) ?_ ?_ rfl (by decide) (by kernel_rfl) rfl (fun gf => ?_)
    rfl; rfl
    repeat (first | refine SXl.nil ?_ | refine SQ.thenNormal ?_ | (refine l_call ?_; (refine SXl.v (OpW.call rfl (fun w hl => h3S gf _ (lineO_slice (p := ([0, 80], q3)) hl.owns (.head _)) (blk_ints (spare := []) (xs := [0, 80]) (hl.blk _ (.head _)).2 trivial))) rfl ?_ ?_ ?_); rfl; rfl) | (refine l_assign ?_; (refine SXl.v (OpW.assign rfl) rfl ?_ ?_ ?_); rfl; rfl) | (refine l_pick ?_; (refine SXl.v (OpW.pick rfl rfl rfl) rfl ?_ ?_ ?_); rfl; rfl) | refine SX.ret ?_)
    refine SQ.body1 rfl rfl (fun w' hl => ⟨rfl, hl.mod⟩)
  by_cases ha : au = 0
  · by_cases hJ2 : J = 2
    · have hD : D = inner := hend2 (by omega) ha (by omega) (by omega) hJ2
      by_cases f0 : inner - V < 0
      · skip
        repeat (first | refine SX.seq ?_ | refine SXl.nil ?_ | refine SX.region ?_ | refine SQ.thenNormal ?_ | refine SX.condF rfl ?_ | (refine SXl.no rfl rfl rfl ?_) | (refine l_call ?_; (refine SXl.v (OpW.call rfl (fun w hl => hA _ _ (items_at (q := ⟨xs, qa, qc⟩) hl.owns (.tail _ (.tail _ (.tail _ (.tail _ (.head _)))))))) rfl ?_ ?_ ?_); rfl; rfl) | (refine l_move ?_; (refine SXl.v (OpW.move rfl) rfl ?_ ?_ ?_); rfl; rfl) | (refine l_assign ?_; (refine SXl.v (OpW.assign rfl) rfl ?_ ?_ ?_); rfl; rfl) | (refine l_len ?_; (refine SXl.v (OpW.len rfl) rfl ?_ ?_ ?_); rfl; rfl) | (refine l_eql ?_; (refine SXl.v (OpW.eqlT rfl rfl (by omega)) rfl ?_ ?_ ?_); rfl; rfl) | (refine l_gtr ?_; (refine SXl.v (OpW.gtrF rfl rfl (by omega)) rfl ?_ ?_ ?_); rfl; rfl) | (refine l_lss ?_; (first | refine SXl.v (OpW.lssT rfl rfl (by omega)) rfl ?_ ?_ ?_ | refine SXl.v (OpW.lssF rfl rfl (by omega)) rfl ?_ ?_ ?_); rfl; rfl) | (refine l_neq ?_; (refine SXl.v (OpW.neqF rfl rfl (by omega)) rfl ?_ ?_ ?_); rfl; rfl) | (refine l_pick ?_; (refine SXl.v (OpW.pick rfl rfl rfl) rfl ?_ ?_ ?_); rfl; rfl) | refine SX.exit ?_ | refine SQ.thenExit ?_ | refine SQ.blockExit ?_)
        refine l_buildSlice ?_
        refine SXl.lit (cells := ([0, 80] : List Int).map (.int .i64)) (z := .int .i64 0) ?_ ?_ rfl (by decide) (by kernel_rfl) rfl (fun gf => ?_)
        rfl; rfl
        repeat (first | refine SXl.nil ?_ | refine SQ.thenNormal ?_ | (refine l_call ?_; (refine SXl.v (OpW.call rfl (fun w hl => h3S gf _ (lineO_slice (p := ([0, 80], q3)) hl.owns (.head _)) (blk_ints (spare := []) (xs := [0, 80]) (hl.blk _ (.head _)).2 trivial))) rfl ?_ ?_ ?_); rfl; rfl) | (refine l_assign ?_; (refine SXl.v (OpW.assign rfl) rfl ?_ ?_ ?_); rfl; rfl) | (refine l_pick ?_; (refine SXl.v (OpW.pick rfl rfl rfl) rfl ?_ ?_ ?_); rfl; rfl) | refine SX.ret ?_)
        refine SQ.body1 rfl rfl (fun w' hl => ⟨rfl, hl.mod⟩)
      · skip
        repeat (first | refine SX.seq ?_ | refine SXl.nil ?_ | refine SX.region ?_ | refine SQ.thenNormal ?_ | refine SX.condF rfl ?_ | (refine SXl.no rfl rfl rfl ?_) | (refine l_call ?_; (refine SXl.v (OpW.call rfl (fun w hl => hA _ _ (items_at (q := ⟨xs, qa, qc⟩) hl.owns (.tail _ (.tail _ (.tail _ (.tail _ (.head _)))))))) rfl ?_ ?_ ?_); rfl; rfl) | (refine l_move ?_; (refine SXl.v (OpW.move rfl) rfl ?_ ?_ ?_); rfl; rfl) | (refine l_assign ?_; (refine SXl.v (OpW.assign rfl) rfl ?_ ?_ ?_); rfl; rfl) | (refine l_len ?_; (refine SXl.v (OpW.len rfl) rfl ?_ ?_ ?_); rfl; rfl) | (refine l_eql ?_; (refine SXl.v (OpW.eqlT rfl rfl (by omega)) rfl ?_ ?_ ?_); rfl; rfl) | (refine l_gtr ?_; (refine SXl.v (OpW.gtrF rfl rfl (by omega)) rfl ?_ ?_ ?_); rfl; rfl) | (refine l_lss ?_; (refine SXl.v (OpW.lssF rfl rfl (by omega)) rfl ?_ ?_ ?_); rfl; rfl) | (refine l_neq ?_; (first | refine SXl.v (OpW.neqT rfl rfl (by omega)) rfl ?_ ?_ ?_ | refine SXl.v (OpW.neqF rfl rfl (by omega)) rfl ?_ ?_ ?_); rfl; rfl) | (refine l_pick ?_; (refine SXl.v (OpW.pick rfl rfl rfl) rfl ?_ ?_ ?_); rfl; rfl) | refine SX.exit ?_ | refine SQ.thenExit ?_ | refine SQ.blockExit ?_)
        refine l_buildSlice ?_
        refine SXl.lit (cells := ([0, 80] : List Int).map (.int .i64)) (z := .int .i64 0) ?_ ?_ rfl (by decide) (by kernel_rfl) rfl (fun gf => ?_)
        rfl; rfl
        repeat (first | refine SXl.nil ?_ | refine SQ.thenNormal ?_ | (refine l_call ?_; (refine SXl.v (OpW.call rfl (fun w hl => h3S gf _ (lineO_slice (p := ([0, 80], q3)) hl.owns (.head _)) (blk_ints (spare := []) (xs := [0, 80]) (hl.blk _ (.head _)).2 trivial))) rfl ?_ ?_ ?_); rfl; rfl) | (refine l_assign ?_; (refine SXl.v (OpW.assign rfl) rfl ?_ ?_ ?_); rfl; rfl) | (refine l_pick ?_; (refine SXl.v (OpW.pick rfl rfl rfl) rfl ?_ ?_ ?_); rfl; rfl) | refine SX.ret ?_)
        refine SQ.body1 rfl rfl (fun w' hl => ⟨rfl, hl.mod⟩)
    · by_cases f0 : inner - V < 0
      · skip
        repeat (first | refine SX.seq ?_ | refine SXl.nil ?_ | refine SX.region ?_ | refine SQ.thenNormal ?_ | refine SX.condF rfl ?_ | (refine SXl.no rfl rfl rfl ?_) | (refine l_call ?_; (refine SXl.v (OpW.call rfl (fun w hl => hA _ _ (items_at (q := ⟨xs, qa, qc⟩) hl.owns (.tail _ (.tail _ (.tail _ (.tail _ (.head _)))))))) rfl ?_ ?_ ?_); rfl; rfl) | (refine l_move ?_; (refine SXl.v (OpW.move rfl) rfl ?_ ?_ ?_); rfl; rfl) | (refine l_assign ?_; (refine SXl.v (OpW.assign rfl) rfl ?_ ?_ ?_); rfl; rfl) | (refine l_len ?_; (refine SXl.v (OpW.len rfl) rfl ?_ ?_ ?_); rfl; rfl) | (refine l_eql ?_; (refine SXl.v (OpW.eqlT rfl rfl (by omega)) rfl ?_ ?_ ?_); rfl; rfl) | (refine l_gtr ?_; (refine SXl.v (OpW.gtrF rfl rfl (by omega)) rfl ?_ ?_ ?_); rfl; rfl) | (refine l_lss ?_; (first | refine SXl.v (OpW.lssT rfl rfl (by omega)) rfl ?_ ?_ ?_ | refine SXl.v (OpW.lssF rfl rfl (by omega)) rfl ?_ ?_ ?_); rfl; rfl) | (refine l_neq ?_; (refine SXl.v (OpW.neqT rfl rfl (by omega)) rfl ?_ ?_ ?_); rfl; rfl) | (refine l_pick ?_; (refine SXl.v (OpW.pick rfl rfl rfl) rfl ?_ ?_ ?_); rfl; rfl) | refine SX.exit ?_ | refine SQ.thenExit ?_ | refine SQ.blockExit ?_)
        refine l_buildSlice ?_
        refine SXl.lit (cells := ([0, 80] : List Int).map (.int .i64)) (z := .int .i64 0) ?_ ?_ rfl (by decide) (by kernel_rfl) rfl (fun gf => ?_)
        rfl; rfl
        repeat (first | refine SXl.nil ?_ | refine SQ.thenNormal ?_ | (refine l_call ?_; (refine SXl.v (OpW.call rfl (fun w hl => h3S gf _ (lineO_slice (p := ([0, 80], q3)) hl.owns (.head _)) (blk_ints (spare := []) (xs := [0, 80]) (hl.blk _ (.head _)).2 trivial))) rfl ?_ ?_ ?_); rfl; rfl) | (refine l_assign ?_; (refine SXl.v (OpW.assign rfl) rfl ?_ ?_ ?_); rfl; rfl) | (refine l_pick ?_; (refine SXl.v (OpW.pick rfl rfl rfl) rfl ?_ ?_ ?_); rfl; rfl) | refine SX.ret ?_)
        refine SQ.body1 rfl rfl (fun w' hl => ⟨rfl, hl.mod⟩)
      · by_cases hJ4 : J = 4
        · by_cases hn2 : xs.length < 2
          · skip
            repeat (first | refine SX.seq ?_ | refine SXl.nil ?_ | refine SX.region ?_ | refine SQ.thenNormal ?_ | refine SX.condF rfl ?_ | (refine SXl.no rfl rfl rfl ?_) | (refine l_call ?_; (refine SXl.v (OpW.call rfl (fun w hl => hA _ _ (items_at (q := ⟨xs, qa, qc⟩) hl.owns (.tail _ (.tail _ (.tail _ (.tail _ (.head _)))))))) rfl ?_ ?_ ?_); rfl; rfl) | (refine l_move ?_; (refine SXl.v (OpW.move rfl) rfl ?_ ?_ ?_); rfl; rfl) | (refine l_assign ?_; (refine SXl.v (OpW.assign rfl) rfl ?_ ?_ ?_); rfl; rfl) | (refine l_len ?_; (refine SXl.v (OpW.len rfl) rfl ?_ ?_ ?_); rfl; rfl) | (refine l_eql ?_; (refine SXl.v (OpW.eqlT rfl rfl (by omega)) rfl ?_ ?_ ?_); rfl; rfl) | (refine l_gtr ?_; (refine SXl.v (OpW.gtrF rfl rfl (by omega)) rfl ?_ ?_ ?_); rfl; rfl) | (refine l_lss ?_; (first | refine SXl.v (OpW.lssT rfl rfl (by omega)) rfl ?_ ?_ ?_ | refine SXl.v (OpW.lssF rfl rfl (by omega)) rfl ?_ ?_ ?_); rfl; rfl) | (refine l_neq ?_; (first | refine SXl.v (OpW.neqT rfl rfl (by omega)) rfl ?_ ?_ ?_ | refine SXl.v (OpW.neqF rfl rfl (by omega)) rfl ?_ ?_ ?_); rfl; rfl) | (refine l_pick ?_; (refine SXl.v (OpW.pick rfl rfl rfl) rfl ?_ ?_ ?_); rfl; rfl) | refine SX.exit ?_ | refine SQ.thenExit ?_ | refine SQ.blockExit ?_)
            refine l_buildSlice ?_
            refine SXl.lit (cells := ([0, 80] : List Int).map (.int .i64)) (z := .int .i64 0) ?_ ?_ rfl (by decide) (by kernel_rfl) rfl (fun gf => ?_)
            rfl; rfl
            repeat (first | refine SXl.nil ?_ | refine SQ.thenNormal ?_ | (refine l_call ?_; (refine SXl.v (OpW.call rfl (fun w hl => h3S gf _ (lineO_slice (p := ([0, 80], q3)) hl.owns (.head _)) (blk_ints (spare := []) (xs := [0, 80]) (hl.blk _ (.head _)).2 trivial))) rfl ?_ ?_ ?_); rfl; rfl) | (refine l_assign ?_; (refine SXl.v (OpW.assign rfl) rfl ?_ ?_ ?_); rfl; rfl) | (refine l_pick ?_; (refine SXl.v (OpW.pick rfl rfl rfl) rfl ?_ ?_ ?_); rfl; rfl) | refine SX.ret ?_)
            refine SQ.body1 rfl rfl (fun w' hl => ⟨rfl, hl.mod⟩)
          · have hD : D = inner := hend4 (by omega) ha (by omega) (by omega) hJ4
            repeat (first | refine SX.seq ?_ | refine SXl.nil ?_ | refine SX.region ?_ | refine SQ.thenNormal ?_ | refine SX.condF rfl ?_ | (refine SXl.no rfl rfl rfl ?_) | (refine l_call ?_; (refine SXl.v (OpW.call rfl (fun w hl => hA _ _ (items_at (q := ⟨xs, qa, qc⟩) hl.owns (.tail _ (.tail _ (.tail _ (.tail _ (.head _)))))))) rfl ?_ ?_ ?_); rfl; rfl) | (refine l_move ?_; (refine SXl.v (OpW.move rfl) rfl ?_ ?_ ?_); rfl; rfl) | (refine l_assign ?_; (refine SXl.v (OpW.assign rfl) rfl ?_ ?_ ?_); rfl; rfl) | (refine l_len ?_; (refine SXl.v (OpW.len rfl) rfl ?_ ?_ ?_); rfl; rfl) | (refine l_eql ?_; (refine SXl.v (OpW.eqlT rfl rfl (by omega)) rfl ?_ ?_ ?_); rfl; rfl) | (refine l_gtr ?_; (refine SXl.v (OpW.gtrF rfl rfl (by omega)) rfl ?_ ?_ ?_); rfl; rfl) | (refine l_lss ?_; (refine SXl.v (OpW.lssF rfl rfl (by omega)) rfl ?_ ?_ ?_); rfl; rfl) | (refine l_neq ?_; (first | refine SXl.v (OpW.neqT rfl rfl (by omega)) rfl ?_ ?_ ?_ | refine SXl.v (OpW.neqF rfl rfl (by omega)) rfl ?_ ?_ ?_); rfl; rfl) | (refine l_pick ?_; (refine SXl.v (OpW.pick rfl rfl rfl) rfl ?_ ?_ ?_); rfl; rfl) | refine SX.exit ?_ | refine SQ.thenExit ?_ | refine SQ.blockExit ?_)
            refine l_buildSlice ?_
            refine SXl.lit (cells := ([0, 80] : List Int).map (.int .i64)) (z := .int .i64 0) ?_ ?_ rfl (by decide) (by kernel_rfl) rfl (fun gf => ?_)
            rfl; rfl
            repeat (first | refine SXl.nil ?_ | refine SQ.thenNormal ?_ | (refine l_call ?_; (refine SXl.v (OpW.call rfl (fun w hl => h3S gf _ (lineO_slice (p := ([0, 80], q3)) hl.owns (.head _)) (blk_ints (spare := []) (xs := [0, 80]) (hl.blk _ (.head _)).2 trivial))) rfl ?_ ?_ ?_); rfl; rfl) | (refine l_assign ?_; (refine SXl.v (OpW.assign rfl) rfl ?_ ?_ ?_); rfl; rfl) | (refine l_pick ?_; (refine SXl.v (OpW.pick rfl rfl rfl) rfl ?_ ?_ ?_); rfl; rfl) | refine SX.ret ?_)
            refine SQ.body1 rfl rfl (fun w' hl => ⟨rfl, hl.mod⟩)
        · skip
          repeat (first | refine SX.seq ?_ | refine SXl.nil ?_ | refine SX.region ?_ | refine SQ.thenNormal ?_ | refine SX.condF rfl ?_ | (refine SXl.no rfl rfl rfl ?_) | (refine l_call ?_; (refine SXl.v (OpW.call rfl (fun w hl => hA _ _ (items_at (q := ⟨xs, qa, qc⟩) hl.owns (.tail _ (.tail _ (.tail _ (.tail _ (.head _)))))))) rfl ?_ ?_ ?_); rfl; rfl) | (refine l_move ?_; (refine SXl.v (OpW.move rfl) rfl ?_ ?_ ?_); rfl; rfl) | (refine l_assign ?_; (refine SXl.v (OpW.assign rfl) rfl ?_ ?_ ?_); rfl; rfl) | (refine l_len ?_; (refine SXl.v (OpW.len rfl) rfl ?_ ?_ ?_); rfl; rfl) | (refine l_eql ?_; (refine SXl.v (OpW.eqlT rfl rfl (by omega)) rfl ?_ ?_ ?_); rfl; rfl) | (refine l_gtr ?_; (refine SXl.v (OpW.gtrF rfl rfl (by omega)) rfl ?_ ?_ ?_); rfl; rfl) | (refine l_lss ?_; (refine SXl.v (OpW.lssF rfl rfl (by omega)) rfl ?_ ?_ ?_); rfl; rfl) | (refine l_neq ?_; (refine SXl.v (OpW.neqT rfl rfl (by omega)) rfl ?_ ?_ ?_); rfl; rfl) | (refine l_pick ?_; (refine SXl.v (OpW.pick rfl rfl rfl) rfl ?_ ?_ ?_); rfl; rfl) | refine SX.exit ?_ | refine SQ.thenExit ?_ | refine SQ.blockExit ?_)
          refine l_buildSlice ?_
          refine SXl.lit (cells := ([0, 80] : List Int).map (.int .i64)) (z := .int .i64 0) ?_ ?_ rfl (by decide) (by kernel_rfl) rfl (fun gf => ?_)
          rfl; rfl
          repeat (first | refine SXl.nil ?_ | refine SQ.thenNormal ?_ | (refine l_call ?_; (refine SXl.v (OpW.call rfl (fun w hl => h3S gf _ (lineO_slice (p := ([0, 80], q3)) hl.owns (.head _)) (blk_ints (spare := []) (xs := [0, 80]) (hl.blk _ (.head _)).2 trivial))) rfl ?_ ?_ ?_); rfl; rfl) | (refine l_assign ?_; (refine SXl.v (OpW.assign rfl) rfl ?_ ?_ ?_); rfl; rfl) | (refine l_pick ?_; (refine SXl.v (OpW.pick rfl rfl rfl) rfl ?_ ?_ ?_); rfl; rfl) | refine SX.ret ?_)
          refine SQ.body1 rfl rfl (fun w' hl => ⟨rfl, hl.mod⟩)
  · by_cases f0 : inner - V ≤ 0
    · skip
      repeat (first | refine SX.seq ?_ | refine SXl.nil ?_ | refine SX.region ?_ | refine SQ.thenNormal ?_ | refine SX.condF rfl ?_ | (refine SXl.no rfl rfl rfl ?_) | (refine l_call ?_; (refine SXl.v (OpW.call rfl (fun w hl => hA _ _ (items_at (q := ⟨xs, qa, qc⟩) hl.owns (.tail _ (.tail _ (.tail _ (.tail _ (.head _)))))))) rfl ?_ ?_ ?_); rfl; rfl) | (refine l_move ?_; (refine SXl.v (OpW.move rfl) rfl ?_ ?_ ?_); rfl; rfl) | (refine l_assign ?_; (refine SXl.v (OpW.assign rfl) rfl ?_ ?_ ?_); rfl; rfl) | (refine l_len ?_; (refine SXl.v (OpW.len rfl) rfl ?_ ?_ ?_); rfl; rfl) | (refine l_eql ?_; (refine SXl.v (OpW.eqlF rfl rfl (by omega)) rfl ?_ ?_ ?_); rfl; rfl) | (refine l_gtr ?_; (first | refine SXl.v (OpW.gtrT rfl rfl (by omega)) rfl ?_ ?_ ?_ | refine SXl.v (OpW.gtrF rfl rfl (by omega)) rfl ?_ ?_ ?_); rfl; rfl) | (refine l_leq ?_; (refine SXl.v (OpW.leqT rfl rfl (by omega)) rfl ?_ ?_ ?_); rfl; rfl) | (refine l_lss ?_; (refine SXl.v (OpW.lssF rfl rfl (by omega)) rfl ?_ ?_ ?_); rfl; rfl) | (refine l_pick ?_; (refine SXl.v (OpW.pick rfl rfl rfl) rfl ?_ ?_ ?_); rfl; rfl) | refine SX.exit ?_ | refine SQ.thenExit ?_ | refine SQ.blockExit ?_)
      refine l_buildSlice ?_
      refine SXl.lit (cells := ([0, 80] : List Int).map (.int .i64)) (z := .int .i64 0) ?_ ?_ rfl (by decide) (by kernel_rfl) rfl (fun gf => ?_)
      rfl; rfl
      repeat (first | refine SXl.nil ?_ | refine SQ.thenNormal ?_ | (refine l_call ?_; (refine SXl.v (OpW.call rfl (fun w hl => h3S gf _ (lineO_slice (p := ([0, 80], q3)) hl.owns (.head _)) (blk_ints (spare := []) (xs := [0, 80]) (hl.blk _ (.head _)).2 trivial))) rfl ?_ ?_ ?_); rfl; rfl) | (refine l_assign ?_; (refine SXl.v (OpW.assign rfl) rfl ?_ ?_ ?_); rfl; rfl) | (refine l_pick ?_; (refine SXl.v (OpW.pick rfl rfl rfl) rfl ?_ ?_ ?_); rfl; rfl) | refine SX.ret ?_)
      refine SQ.body1 rfl rfl (fun w' hl => ⟨rfl, hl.mod⟩)
    · have hD : D = inner := henda (by omega) ha (by omega) (by omega)
      repeat (first | refine SX.seq ?_ | refine SXl.nil ?_ | refine SX.region ?_ | refine SQ.thenNormal ?_ | refine SX.condF rfl ?_ | (refine SXl.no rfl rfl rfl ?_) | (refine l_call ?_; (refine SXl.v (OpW.call rfl (fun w hl => hA _ _ (items_at (q := ⟨xs, qa, qc⟩) hl.owns (.tail _ (.tail _ (.tail _ (.tail _ (.head _)))))))) rfl ?_ ?_ ?_); rfl; rfl) | (refine l_move ?_; (refine SXl.v (OpW.move rfl) rfl ?_ ?_ ?_); rfl; rfl) | (refine l_assign ?_; (refine SXl.v (OpW.assign rfl) rfl ?_ ?_ ?_); rfl; rfl) | (refine l_len ?_; (refine SXl.v (OpW.len rfl) rfl ?_ ?_ ?_); rfl; rfl) | (refine l_eql ?_; (first | refine SXl.v (OpW.eqlT rfl rfl (by omega)) rfl ?_ ?_ ?_ | refine SXl.v (OpW.eqlF rfl rfl (by omega)) rfl ?_ ?_ ?_); rfl; rfl) | (refine l_gtr ?_; (first | refine SXl.v (OpW.gtrT rfl rfl (by omega)) rfl ?_ ?_ ?_ | refine SXl.v (OpW.gtrF rfl rfl (by omega)) rfl ?_ ?_ ?_); rfl; rfl) | (refine l_leq ?_; (refine SXl.v (OpW.leqF rfl rfl (by omega)) rfl ?_ ?_ ?_); rfl; rfl) | (refine l_lss ?_; (refine SXl.v (OpW.lssF rfl rfl (by omega)) rfl ?_ ?_ ?_); rfl; rfl) | (refine l_pick ?_; (refine SXl.v (OpW.pick rfl rfl rfl) rfl ?_ ?_ ?_); rfl; rfl) | refine SX.exit ?_ | refine SQ.thenExit ?_ | refine SQ.blockExit ?_)
      refine l_buildSlice ?_
      refine SXl.lit (cells := ([0, 80] : List Int).map (.int .i64)) (z := .int .i64 0) ?_ ?_ rfl (by decide) (by kernel_rfl) rfl (fun gf => ?_)
      rfl; rfl
      repeat (first | refine SXl.nil ?_ | refine SQ.thenNormal ?_ | (refine l_call ?_; (refine SXl.v (OpW.call rfl (fun w hl => h3S gf _ (lineO_slice (p := ([0, 80], q3)) hl.owns (.head _)) (blk_ints (spare := []) (xs := [0, 80]) (hl.blk _ (.head _)).2 trivial))) rfl ?_ ?_ ?_); rfl; rfl) | (refine l_assign ?_; (refine SXl.v (OpW.assign rfl) rfl ?_ ?_ ?_); rfl; rfl) | (refine l_pick ?_; (refine SXl.v (OpW.pick rfl rfl rfl) rfl ?_ ?_ ?_); rfl; rfl) | refine SX.ret ?_)
      refine SQ.body1 rfl rfl (fun w' hl => ⟨rfl, hl.mod⟩)
/-! ### The row's frame (the kit's skeleton, turned) -/
namespace fnAlong
open Go.ChangeShapes Go.WideShapes Go.ChangeAt Go.RowKit
set_option linter.unusedVariables false

theorem own : ownKnob Try.prog.godebug = none := by kernel_rfl
theorem laidOut : laidOutB Try.prog = true := by kernel_rfl
def IsRow (k : IntKind) (w : World) (a : Option Addr) (len cap : Nat) (zs : List Int) : Prop :=
  (a = none ∧ len = 0 ∧ cap = 0 ∧ zs = []) ∨
  ∃ x, a = some x ∧ len ≤ cap ∧ cap ≤ maxLen ∧ zs.length = cap ∧ (∀ i, i < zs.length → w.cell? (x.add i) = some (.int k (zs.getD i 0))) ∧ ∀ n ∈ zs, (Lit.int k n).wf = true

theorem walk (a0 : Option Addr) (len0 cap0 : Nat) (z0 : List Int) (w : World) (w0 : IsRow .u8 w a0 len0 cap0 z0) :
    Calls Try.prog 6 #[.slice a0 len0 cap0] w fun e w' => e = .returned (.bool true) ∧ Below w.heap.size w w' := by
  obtain ⟨h1, h2⟩ := bytes_of_row (a := a0) (len := len0) (cap := cap0) (zs := z0) w0
  exact (fnAlong_walk w a0 len0 cap0 h1 h2).mono fun e w' ⟨he, hm⟩ => ⟨he, hm.below (Nat.le_refl _) fun _ _ h => h⟩

set_option maxRecDepth 100000 in
theorem lifted (os : Os) (started : os.Started) (H : Type) (enc : TypeId × Value → H) :
    ReturnsInHanded {} Try.checked os 6 .any (Rows.fnAlongSpec.pre6 enc Try.prog Try.f6 Rows.fnAlongRow.domain false) (Rows.fnAlongSpec.post enc Try.prog Try.f6 false true false false) := by
  refine returnsInHanded_of_change (C := Try.checked) own started (by kernel_rfl) Try.func6
    (ChangeSpec.witness6 (enc := enc) (C := Try.checked) false ⟨#[], #[.slice none 0 0], []⟩ 8 (by kernel_rfl) (by kernel_rfl) (by kernel_rfl) (by kernel_rfl)) ?_
  intro W base args ds gs before hval0 hW hcnd _
  have hval : ∀ (j : Nat) t v, Try.f6.params[j]? = some t → args[j]? = some v → Value.okWide Try.prog W .any base t v := hval0
  have hW' := hW
  obtain ⟨p, q, hA0, hV, rfl, hfz, hnd⟩ := hW
  have hA : DataW.TrodAll enc Try.prog W 0 (fun _ => true) true Try.f6.params.toList args.toList ds p := hA0
  rw [Try.params6] at hA hval
  obtain ⟨v0, vs0, d0, ds0, p0, q0, hargs, rfl, rfl, h0, r0⟩ := trodAll_cons hA
  obtain ⟨rfl, rfl, rfl⟩ := trodAll_nil r0
  obtain rfl : args = #[v0] := by cases args; simp_all
  obtain ⟨rfl, rfl⟩ := trodVars_none hV
  obtain ⟨a0, len0, cap0, rfl⟩ := okWide_slice Try.underlying22 (hval 0 22 v0 rfl rfl)
  have k0 := h0
  have lt0 : ∀ x ∈ p0, x.block < W.heap.size := by obtain ⟨m, hm⟩ := k0; exact DataW.trod_lt m _ _ _ hm
  obtain ⟨z0, w0⟩ : ∃ zs, IsRow .u8 W a0 len0 cap0 zs := by
    obtain ⟨fuel, hf⟩ := h0
    rcases open_ints Try.underlying22 Try.underlying5 (by kernel_rfl) hf with ⟨hcs, _⟩ | ⟨x, l, c, zs, hcs, _, hl, hm, hz, _, hcell, hwz⟩
    · simp [Value.cells] at hcs
      obtain ⟨rfl, rfl, rfl⟩ := hcs
      exact ⟨[], .inl ⟨rfl, rfl, rfl, rfl⟩⟩
    · simp [Value.cells] at hcs
      obtain ⟨rfl, rfl, rfl⟩ := hcs
      exact ⟨zs, .inr ⟨_, rfl, hl, hm, by simpa using hz, hcell, hwz⟩⟩
  clear hA0 hval0
  refine (walk a0 len0 cap0 z0 W w0).mono fun e W' ⟨he, bel⟩ => ?_
  subst he
  exact ⟨_, rfl, _, _, _, [], _, [], hW', trodAll_mk1 (shut_bool Try.underlying4 _), (trodAll_cons_mk (Below.trod laidOut (by kernel_rfl) (of_decide_eq_true (by kernel_rfl)) k0 bel lt0) trodAll_mk0), rfl, bel.frame _, fun h => by cases h⟩

theorem over : Rows.fnAlongRow.holds Try.pinned (OpenSpec.ofChange Rows.fnAlongSpec) :=
  OpenClaim.holds_of_wide 6 Try.f6 rfl rfl rfl rfl rfl rfl rfl ⟨rfl, rfl, rfl, rfl, rfl⟩ rfl rfl rfl rfl rfl (by kernel_rfl) Try.func6 (by kernel_rfl)
    (of_decide_eq_true (by kernel_rfl)) (by unfold Func.isWrapper; first | (rw [if_pos (by decide +kernel)]; kernel_rfl) | (rw [if_neg (by decide +kernel)]; exact ⟨rfl, rfl⟩))
    (fun os started H enc _ => lifted os started H enc)

theorem proved : Rows.FnAlongSaid := over
#print axioms proved
end fnAlong


end Go.Proofs.Ytdohglcjjlmhhaa
