/-
  PROVED: for every list of bytes the law FnFlexed returns true. No condition.
-/
import Derived.Test.YtdohglcjjlmhhaaMXd
import Derived.Test.YtdohglcjjlmhhaaRows
import Derived.ProofKit
import Derived.OpenShut
import Derived.ShutString
import Derived.ChangeOld
set_option linter.unusedVariables false
set_option linter.unusedSimpArgs false
namespace Go.Proofs.Ytdohglcjjlmhhaa
open Go.RowKit
set_option linter.unusedVariables false
set_option linter.unusedSimpArgs false

theorem blk_items {w : World} {g : Nat} {l : List Item} {T : TypeId} {cells : List Value} (he : cells = (l.map Item.cells).flatten) (h : w.heap[g]? = some (.cells cells.toArray T (0, 0))) : ItemSlice (fun k => k = g) w (some ⟨g, 0, none⟩) l := by
  subst he
  refine ⟨l.map Item.cells, rowsAt_of_blk h (by intro r hr; obtain ⟨x, _, rfl⟩ := List.mem_map.1 hr; rfl) rfl, by simp, fun i r y h1 h2 => ?_⟩
  rw [List.getElem?_map, h2] at h1
  simpa [Flat] using h1.symm
theorem item_cellF {R : Nat → Prop} {w : World} {g k : Nat} {l : List Item} {x : Item} (h : ItemSlice R w (some ⟨g, 0, none⟩) l) (hk : l[k]? = some x) : ∀ j v, x.cells[j]? = some v → w.cell? ⟨g, 0 + k * 9 + j, none⟩ = some v := by
  obtain ⟨b, o, y, e, _, _, hy, hc⟩ := h.get (List.getElem?_eq_some_iff.1 hk).1
  simp only [Option.some.injEq, Addr.mk.injEq, and_true] at e
  obtain ⟨rfl, rfl⟩ := e
  obtain rfl : x = y := Option.some.inj (hk.symm.trans hy)
  exact hc
theorem line_cellF {base : Nat} {w : World} {os : List Own} {ln : List Int} {g c j : Nat} {y : Int} (h : Owns base w os) (hp : lineO (ln, (some ⟨g, 0, none⟩, c)) ∈ os) (hj : ln[j]? = some y) : w.cell? ⟨g, 0 + j, none⟩ = some (.int .i64 y) := by
  obtain ⟨b, o, x, e, _, _, hx, hc⟩ := IntSlice.get (lineO_slice h hp) (k := j) (List.getElem?_eq_some_iff.1 hj).1
  simp only [Option.some.injEq, Addr.mk.injEq, and_true] at e
  obtain ⟨rfl, rfl⟩ := e
  rw [hx.out] at hj
  rw [← Option.some.inj hj]
  exact hc
def itemsO (q : ItemsQ) : Own := ⟨.slice q.a q.xs.length q.c, 36, 9, q.xs.length, (q.xs.map Item.cells).flatten⟩
theorem items_at {base : Nat} {w : World} {os : List Own} {q : ItemsQ} (h : Owns base w os) (hq : itemsO q ∈ os) : ItemSlice (fun k => (∃ o ∈ os, o.v.ownBlock = some k)) w q.a q.xs := by
  have h1 : w.ownsRow base 36 9 (.slice q.a q.xs.length q.c) q.xs.length (q.xs.map Item.cells).flatten := h.row _ hq
  obtain ⟨rows, h2, h3, h4⟩ := own_slice h1 Item.cells_len (by decide)
  refine ⟨rows, ?_, h3, h4⟩
  rcases h2 with h2 | ⟨b, o, e, hb, hlt, hc⟩
  · exact .inl h2
  · refine .inr ⟨b, o, e, ⟨_, hq, ?_⟩, hlt, hc⟩
    show (Value.slice q.a q.xs.length q.c).ownBlock = some b
    rw [e]; rfl
theorem own_low {W : World} {R : Rg W} {L : List Blk} {O : List Own} {E : List Res} {w : World} (h : Loc W R L O E w) : ∀ k, (∃ o ∈ O, o.v.ownBlock = some k) → k < w.heap.size := fun k ⟨o, ho, hk⟩ => (ownBlock_lt (h.own o ho).1 hk).2
set_option maxRecDepth 100000 in
set_option maxHeartbeats 16000000 in
theorem fnFlexed_walk (w : World) (a : Option Addr) (len cap : Nat) (hl0 : len ≤ 9223372036854775807) (hy : Bytes w.heap.size w a len) :
    Calls Try.prog 4 #[.slice a len cap] w fun e w' => e = .returned (.bool true) ∧ Mod (fun _ => False) w w' := by
  have hm : len ≤ maxLen := by unfold maxLen; exact hl0
  refine calls_sx Try.func4 rfl rfl (fun a h1 h2 h3 => ((Fr.nil h1 h2).arg (h3 0 _ rfl))) ?_
  by_cases hbig : 1048576 < len
  · repeat (first | refine SX.seq ?_ | refine SXl.nil ?_ | refine SX.region ?_ | refine SQ.thenNormal ?_ | refine SX.condT rfl ?_ | (refine l_call ?_; (refine SXl.v (OpW.call rfl (fun w hl => bigT a cap hm hbig _)) rfl ?_ ?_ ?_); rfl; rfl) | (refine l_move ?_; (refine SXl.v (OpW.move rfl) rfl ?_ ?_ ?_); rfl; rfl) | (refine l_assign ?_; (refine SXl.v (OpW.assign rfl) rfl ?_ ?_ ?_); rfl; rfl) | refine SX.ret ?_ | refine SQ.thenRet ?_)
    refine SQ.body1 rfl rfl (fun w' hl => ⟨rfl, hl.mod⟩)
  repeat (first | refine SX.seq ?_ | refine SXl.nil ?_ | refine SX.region ?_ | refine SQ.thenNormal ?_ | refine SX.skip ?_ | refine SX.condF rfl ?_ | (refine l_call ?_; (refine SXl.v (OpW.call rfl (fun w hl => bigF a cap hm hbig _)) rfl ?_ ?_ ?_); rfl; rfl) | (refine l_move ?_; (refine SXl.v (OpW.move rfl) rfl ?_ ?_ ?_); rfl; rfl) | (refine l_assign ?_; (refine SXl.v (OpW.assign rfl) rfl ?_ ?_ ?_); rfl; rfl))
  refine l_call ?_
  refine SXl.callO rfl rfl rfl (fun w' hl => drawFlexLine_o a len cap w' (by omega) (bytes_loc hy (fun _ _ f => f) hl)) (fun q hq => ?_)
  obtain ⟨q, gap, inner⟩ := q
  obtain ⟨⟨hf, hql⟩, hg, hi⟩ := hq
  simp only at hf hql hg hi
  simp only [FlexArgs.v, ItemsQ.v]
  change SXl _ _ _ _ _ _ [itemsO q] _ _ _ _
  have hslen := flexSizes_len q.xs gap inner
  have hcl := flexCount_le q.xs gap inner
  have hcb := flexCount_bad (l := q.xs) (gap := gap) (inner := inner)
  have hlim := fun (hok : flexOk q.xs gap inner = true) (i : Nat) (x : Item) (hx : q.xs[i]? = some x) => flex_limits hok hx
  have hok : flexOk q.xs gap inner = (itemsOk q.xs && inB gap 0 1048576 && inB inner 0 1048576) := rfl
  have hL1 := fun (S : Nat → Prop) (w' : World) (h : ItemSlice S w' q.a q.xs) (hlow : ∀ k, S k → k < w'.heap.size) => flexLine_any q.xs gap inner q.a q.c S w' (by omega) hf h hlow
  have hL2 := fun (S : Nat → Prop) (w' : World) (h : ItemSlice S w' q.a q.xs) (hlow : ∀ k, S k → k < w'.heap.size) => sflexLine_any q.xs gap inner q.a q.c S w' (by omega) hf h hlow
  have hP1 := fun (S : Nat → Prop) (w' : World) (h : ItemSlice S w' q.a q.xs) (hlow : ∀ k, S k → k < w'.heap.size) => flexPasses_any q.xs gap inner q.a q.c S w' (by omega) hf h hlow
  have hP2 := fun (S : Nat → Prop) (w' : World) (h : ItemSlice S w' q.a q.xs) (hlow : ∀ k, S k → k < w'.heap.size) => sflexPasses_any q.xs gap inner q.a q.c S w' (by omega) hf h hlow
  have hI1 := fun (S : Nat → Prop) (w' : World) (h : ItemSlice S w' q.a q.xs) => itemsOk_any q.xs q.a q.c S w' (by omega) h
  have hI2 := fun (S : Nat → Prop) (w' : World) (h : ItemSlice S w' q.a q.xs) => sitemsOk_any q.xs q.a q.c S w' (by omega) h
  have hG1 := fun (S : Nat → Prop) (w' : World) (h : ItemSlice S w' q.a q.xs) => grows_any q.xs gap inner q.a q.c S w' (by omega) hf (by omega) h
  have hG2 := fun (S : Nat → Prop) (w' : World) (h : ItemSlice S w' q.a q.xs) => sgrows_any q.xs gap inner q.a q.c S w' (by omega) hf (by omega) h
  generalize flexSizes q.xs gap inner = S at *
  generalize flexCount q.xs gap inner = N at *
  generalize growsOf q.xs gap inner = G at *
  generalize flexOk q.xs gap inner = ok at *
  repeat (first | refine SX.seq ?_ | refine SXl.nil ?_ | refine SX.region ?_ | refine SQ.thenNormal ?_ | (refine l_move ?_; (refine SXl.v (OpW.move rfl) rfl ?_ ?_ ?_); rfl; rfl) | (refine l_assign ?_; (refine SXl.v (OpW.assign rfl) rfl ?_ ?_ ?_); rfl; rfl) | (refine l_extract ?_; (refine SXl.v (OpW.extract rfl rfl) rfl ?_ ?_ ?_); rfl; rfl))
  refine l_call ?_
  refine SXl.callO rfl rfl rfl (fun w' hl => hL1 _ w' (items_at hl.owns (.head _)) (own_low hl)) (fun q1 _ => ?_)
  simp only [List.cons_append, List.nil_append]
  repeat (first | refine SX.seq ?_ | refine SXl.nil ?_ | refine SX.region ?_ | refine SQ.thenNormal ?_ | (refine l_call ?_; (refine SXl.v (OpW.call rfl (fun w hl => hP1 _ _ (items_at hl.owns (.tail _ (.head _))) (own_low hl))) rfl ?_ ?_ ?_); rfl; rfl) | (refine l_move ?_; (refine SXl.v (OpW.move rfl) rfl ?_ ?_ ?_); rfl; rfl) | (refine l_assign ?_; (refine SXl.v (OpW.assign rfl) rfl ?_ ?_ ?_); rfl; rfl))
  refine l_call ?_
  refine SXl.callO rfl rfl rfl (fun w' hl => hL2 _ w' (items_at hl.owns (.tail _ (.head _))) (own_low hl)) (fun q2 _ => ?_)
  simp only [List.cons_append, List.nil_append]
  have hS := fun (w' : World) (h1 : IntSlice (fun k => w.heap.size ≤ k) w' q1.1 S) (h2 : IntSlice (fun k => w.heap.size ≤ k) w' q2.1 S) => lsameInts_any S S q1.1 q2.1 q1.2 q2.2 _ _ w' (by omega) (by omega) h1 h2
  rw [decide_eq_true rfl] at hS
  have h3L := fun {g3 : Nat} (w' : World) (h : ItemSlice (fun k => k = g3) w' (some ⟨g3, 0, none⟩) [ten, ten, ten]) (hlt : g3 < w'.heap.size) => flexLine_any [ten, ten, ten] 0 100 (some ⟨g3, 0, none⟩) 3 (fun k => k = g3) w' (by decide) (fun x hx => by
    have : x = ten := by simpa using hx
    rw [this]
    exact ⟨by decide, by decide, by decide, by decide, by decide, by decide, by decide⟩) h (fun k e => e ▸ hlt)
  rw [flex_three] at h3L
  have h3S := fun (gf : Nat) {q3 : Option Addr × Nat} (w' : World) (h1 : IntSlice (fun k => w.heap.size ≤ k) w' q3.1 [33, 33, 34]) (h2 : IntSlice (fun _ => True) w' (some ⟨gf, 0, none⟩) [33, 33, 34]) => lsameInts_any [33, 33, 34] [33, 33, 34] q3.1 (some ⟨gf, 0, none⟩) q3.2 3 _ _ w' (by decide) (by decide) h1 h2
  rw [decide_eq_true rfl] at h3S
  have hbad : itemsOk q.xs = false ∨ gap < 0 ∨ 1048576 < gap ∨ inner < 0 ∨ 1048576 < inner ∨ ok = true := by
    cases h1 : itemsOk q.xs
    · exact .inl rfl
    · by_cases h2 : gap < 0
      · exact .inr (.inl h2)
      · by_cases h3 : 1048576 < gap
        · exact .inr (.inr (.inl h3))
        · by_cases h4 : inner < 0
          · exact .inr (.inr (.inr (.inl h4)))
          · by_cases h5 : 1048576 < inner
            · exact .inr (.inr (.inr (.inr (.inl h5))))
            · exact .inr (.inr (.inr (.inr (.inr (by rw [hok, h1, inB_true (by omega) (by omega), inB_true (by omega) (by omega)]; rfl)))))
  cases hio : itemsOk q.xs
  · have hN : N = 0 := hcb (by rw [hok, hio]; rfl)
    rw [hio] at hI1 hI2
    repeat (first | refine SX.seq ?_ | refine SXl.nil ?_ | refine SX.region ?_ | refine SQ.thenNormal ?_ | refine SX.skip ?_ | refine SX.condF rfl ?_ | (refine l_call ?_; (first | refine SXl.v (OpW.call rfl (fun w hl => hS _ (lineO_slice (p := (S, q1)) hl.owns (.tail _ (.head _))) (lineO_slice (p := (S, q2)) hl.owns (.head _)))) rfl ?_ ?_ ?_ | refine SXl.v (OpW.call rfl (fun w hl => hP2 _ _ (items_at hl.owns (.tail _ (.tail _ (.head _)))) (own_low hl))) rfl ?_ ?_ ?_ | refine SXl.v (OpW.call rfl (fun w hl => hI1 _ _ (items_at hl.owns (.tail _ (.tail _ (.head _)))))) rfl ?_ ?_ ?_ | refine SXl.v (OpW.call rfl (fun w hl => hI2 _ _ (items_at hl.owns (.tail _ (.tail _ (.head _)))))) rfl ?_ ?_ ?_ | refine SXl.v (OpW.call rfl (fun w hl => hG1 _ _ (items_at hl.owns (.tail _ (.tail _ (.head _)))))) rfl ?_ ?_ ?_ | refine SXl.v (OpW.call rfl (fun w hl => hG2 _ _ (items_at hl.owns (.tail _ (.tail _ (.head _)))))) rfl ?_ ?_ ?_); rfl; rfl) | (refine l_build ?_; (refine SXl.v ((OpW.build (vals := [(0, .int .i64 10), (2, .int .i64 (-1)), (3, .int .i64 1)]) (cells := ten.cells) rfl (by kernel_rfl))) rfl ?_ ?_ ?_); rfl; rfl) | (refine l_load ?_; (refine SXl.v (OpW.loadAll 0 rfl rfl rfl) rfl ?_ ?_ ?_); rfl; rfl) | (refine l_move ?_; (refine SXl.v (OpW.move rfl) rfl ?_ ?_ ?_); rfl; rfl) | (refine l_neq ?_; (first | refine SXl.v (OpW.neqF rfl rfl (by omega)) rfl ?_ ?_ ?_ | refine SXl.v (OpW.neqb rfl rfl) rfl ?_ ?_ ?_); rfl; rfl) | (refine l_not ?_; (refine SXl.v (OpW.not rfl) rfl ?_ ?_ ?_); rfl; rfl) | (refine l_pick ?_; (refine SXl.v (OpW.pick rfl rfl rfl) rfl ?_ ?_ ?_); rfl; rfl) | (refine l_alloc ?_; refine SXl.alloc ?_ ?_ (fun g => ?_); rfl; rfl) | (refine l_store ?_; first | (refine SXl.storeAll 0 ?_ rfl rfl rfl rfl rfl rfl rfl ?_; rfl; simp only [List.set_cons_zero, List.set_cons_succ]) | (refine SXl.storeAll 1 ?_ rfl rfl rfl rfl rfl rfl rfl ?_; rfl; simp only [List.set_cons_zero, List.set_cons_succ]) | (refine SXl.storeAll 2 ?_ rfl rfl rfl rfl rfl rfl rfl ?_; rfl; simp only [List.set_cons_zero, List.set_cons_succ]) | (refine SXl.storeRow 0 ?_ rfl rfl rfl rfl rfl rfl rfl ?_; rfl; simp only [over, List.set_cons_zero, List.set_cons_succ]) | (refine SXl.storeRow 1 ?_ rfl rfl rfl rfl rfl rfl rfl ?_; rfl; simp only [over, List.set_cons_zero, List.set_cons_succ]) | (refine SXl.storeRow 2 ?_ rfl rfl rfl rfl rfl rfl rfl ?_; rfl; simp only [over, List.set_cons_zero, List.set_cons_succ])) | (rw [bne_self_eq_false]))
    refine l_buildSlice ?_
    refine SXl.litRow (parts := [(0, _), (1, _), (2, _)]) (vals := [(0, .agg ten.cells.toArray), (1, .agg ten.cells.toArray), (2, .agg ten.cells.toArray)]) (cells := ([ten, ten, ten].map Item.cells).flatten) rfl rfl rfl (by decide) (by decide) (by kernel_rfl) (fun g3 => ?_)
    skip
    refine l_call ?_
    refine SXl.callO rfl rfl rfl (fun w' hl => h3L w' (blk_items rfl (hl.blk _ (.head _)).2) (hl.blk_lt (.head _))) (fun q3 _ => ?_)
    simp only [List.cons_append, List.nil_append]
    repeat (first | refine SX.seq ?_ | refine SXl.nil ?_ | refine SX.region ?_ | refine SQ.thenNormal ?_ | refine SX.condT rfl ?_ | (refine SXl.no rfl rfl rfl ?_) | (refine l_call ?_; (refine SXl.v (OpW.call rfl (fun w hl => hI2 _ _ (items_at hl.owns (.tail _ (.tail _ (.tail _ (.head _))))))) rfl ?_ ?_ ?_); rfl; rfl) | (refine l_move ?_; (refine SXl.v (OpW.move rfl) rfl ?_ ?_ ?_); rfl; rfl) | (refine l_assign ?_; (refine SXl.v (OpW.assign rfl) rfl ?_ ?_ ?_); rfl; rfl) | (refine l_eql ?_; (refine SXl.v (OpW.eqlT rfl rfl (by omega)) rfl ?_ ?_ ?_); rfl; rfl) | (refine l_not ?_; (refine SXl.v (OpW.not rfl) rfl ?_ ?_ ?_); rfl; rfl) | (refine l_pick ?_; (refine SXl.v (OpW.pick rfl rfl rfl) rfl ?_ ?_ ?_); rfl; rfl))
    refine l_buildSlice ?_
    refine SXl.lit (cells := ([33, 33, 34] : List Int).map (.int .i64)) (z := .int .i64 0) ?_ ?_ rfl (by decide) (by kernel_rfl) rfl (fun gf => ?_)
    rfl; rfl
    repeat (first | refine SXl.nil ?_ | refine SQ.thenNormal ?_ | (refine l_call ?_; (refine SXl.v (OpW.call rfl (fun w hl => h3S gf _ (lineO_slice (p := ([33, 33, 34], q3)) hl.owns (.head _)) (blk_ints (spare := []) (xs := [33, 33, 34]) (hl.blk _ (.head _)).2 trivial))) rfl ?_ ?_ ?_); rfl; rfl) | (refine l_assign ?_; (refine SXl.v (OpW.assign rfl) rfl ?_ ?_ ?_); rfl; rfl) | (refine l_pick ?_; (refine SXl.v (OpW.pick rfl rfl rfl) rfl ?_ ?_ ?_); rfl; rfl) | refine SX.ret ?_ | refine SQ.thenRet ?_)
    refine SQ.body1 rfl rfl (fun w' hl => ⟨rfl, hl.mod⟩)
  rw [hio] at hI1 hI2
  repeat (first | refine SX.seq ?_ | refine SXl.nil ?_ | refine SX.region ?_ | refine SQ.thenNormal ?_ | refine SX.skip ?_ | refine SX.condF rfl ?_ | (refine l_call ?_; (first | refine SXl.v (OpW.call rfl (fun w hl => hS _ (lineO_slice (p := (S, q1)) hl.owns (.tail _ (.head _))) (lineO_slice (p := (S, q2)) hl.owns (.head _)))) rfl ?_ ?_ ?_ | refine SXl.v (OpW.call rfl (fun w hl => hP2 _ _ (items_at hl.owns (.tail _ (.tail _ (.head _)))) (own_low hl))) rfl ?_ ?_ ?_ | refine SXl.v (OpW.call rfl (fun w hl => hI1 _ _ (items_at hl.owns (.tail _ (.tail _ (.head _)))))) rfl ?_ ?_ ?_ | refine SXl.v (OpW.call rfl (fun w hl => hI2 _ _ (items_at hl.owns (.tail _ (.tail _ (.head _)))))) rfl ?_ ?_ ?_ | refine SXl.v (OpW.call rfl (fun w hl => hG1 _ _ (items_at hl.owns (.tail _ (.tail _ (.head _)))))) rfl ?_ ?_ ?_ | refine SXl.v (OpW.call rfl (fun w hl => hG2 _ _ (items_at hl.owns (.tail _ (.tail _ (.head _)))))) rfl ?_ ?_ ?_); rfl; rfl) | (refine l_build ?_; (refine SXl.v ((OpW.build (vals := [(0, .int .i64 10), (2, .int .i64 (-1)), (3, .int .i64 1)]) (cells := ten.cells) rfl (by kernel_rfl))) rfl ?_ ?_ ?_); rfl; rfl) | (refine l_load ?_; (refine SXl.v (OpW.loadAll 0 rfl rfl rfl) rfl ?_ ?_ ?_); rfl; rfl) | (refine l_move ?_; (refine SXl.v (OpW.move rfl) rfl ?_ ?_ ?_); rfl; rfl) | (refine l_neq ?_; (first | refine SXl.v (OpW.neqF rfl rfl (by omega)) rfl ?_ ?_ ?_ | refine SXl.v (OpW.neqb rfl rfl) rfl ?_ ?_ ?_); rfl; rfl) | (refine l_not ?_; (refine SXl.v (OpW.not rfl) rfl ?_ ?_ ?_); rfl; rfl) | (refine l_pick ?_; (refine SXl.v (OpW.pick rfl rfl rfl) rfl ?_ ?_ ?_); rfl; rfl) | (refine l_alloc ?_; refine SXl.alloc ?_ ?_ (fun g => ?_); rfl; rfl) | (refine l_store ?_; first | (refine SXl.storeAll 0 ?_ rfl rfl rfl rfl rfl rfl rfl ?_; rfl; simp only [List.set_cons_zero, List.set_cons_succ]) | (refine SXl.storeAll 1 ?_ rfl rfl rfl rfl rfl rfl rfl ?_; rfl; simp only [List.set_cons_zero, List.set_cons_succ]) | (refine SXl.storeAll 2 ?_ rfl rfl rfl rfl rfl rfl rfl ?_; rfl; simp only [List.set_cons_zero, List.set_cons_succ]) | (refine SXl.storeRow 0 ?_ rfl rfl rfl rfl rfl rfl rfl ?_; rfl; simp only [over, List.set_cons_zero, List.set_cons_succ]) | (refine SXl.storeRow 1 ?_ rfl rfl rfl rfl rfl rfl rfl ?_; rfl; simp only [over, List.set_cons_zero, List.set_cons_succ]) | (refine SXl.storeRow 2 ?_ rfl rfl rfl rfl rfl rfl rfl ?_; rfl; simp only [over, List.set_cons_zero, List.set_cons_succ])) | (rw [bne_self_eq_false]))
  refine l_buildSlice ?_
  refine SXl.litRow (parts := [(0, _), (1, _), (2, _)]) (vals := [(0, .agg ten.cells.toArray), (1, .agg ten.cells.toArray), (2, .agg ten.cells.toArray)]) (cells := ([ten, ten, ten].map Item.cells).flatten) rfl rfl rfl (by decide) (by decide) (by kernel_rfl) (fun g3 => ?_)
  skip
  refine l_call ?_
  refine SXl.callO rfl rfl rfl (fun w' hl => h3L w' (blk_items rfl (hl.blk _ (.head _)).2) (hl.blk_lt (.head _))) (fun q3 _ => ?_)
  simp only [List.cons_append, List.nil_append]
  by_cases b1 : gap < 0
  · have hN : N = 0 := hcb (by rw [hok, hio, inB_low b1]; rfl)
    repeat (first | refine SX.seq ?_ | refine SXl.nil ?_ | refine SX.region ?_ | refine SQ.thenNormal ?_ | refine SX.condT rfl ?_ | (refine SXl.no rfl rfl rfl ?_) | (refine l_call ?_; (refine SXl.v (OpW.call rfl (fun w hl => hI2 _ _ (items_at hl.owns (.tail _ (.tail _ (.tail _ (.head _))))))) rfl ?_ ?_ ?_); rfl; rfl) | (refine l_move ?_; (refine SXl.v (OpW.move rfl) rfl ?_ ?_ ?_); rfl; rfl) | (refine l_assign ?_; (refine SXl.v (OpW.assign rfl) rfl ?_ ?_ ?_); rfl; rfl) | (refine l_eql ?_; (refine SXl.v (OpW.eqlT rfl rfl (by omega)) rfl ?_ ?_ ?_); rfl; rfl) | (refine l_lss ?_; (refine SXl.v (OpW.lssT rfl rfl (by omega)) rfl ?_ ?_ ?_); rfl; rfl) | (refine l_not ?_; (refine SXl.v (OpW.not rfl) rfl ?_ ?_ ?_); rfl; rfl) | (refine l_pick ?_; (refine SXl.v (OpW.pick rfl rfl rfl) rfl ?_ ?_ ?_); rfl; rfl))
    refine l_buildSlice ?_
    refine SXl.lit (cells := ([33, 33, 34] : List Int).map (.int .i64)) (z := .int .i64 0) ?_ ?_ rfl (by decide) (by kernel_rfl) rfl (fun gf => ?_)
    rfl; rfl
    repeat (first | refine SXl.nil ?_ | refine SQ.thenNormal ?_ | (refine l_call ?_; (refine SXl.v (OpW.call rfl (fun w hl => h3S gf _ (lineO_slice (p := ([33, 33, 34], q3)) hl.owns (.head _)) (blk_ints (spare := []) (xs := [33, 33, 34]) (hl.blk _ (.head _)).2 trivial))) rfl ?_ ?_ ?_); rfl; rfl) | (refine l_assign ?_; (refine SXl.v (OpW.assign rfl) rfl ?_ ?_ ?_); rfl; rfl) | (refine l_pick ?_; (refine SXl.v (OpW.pick rfl rfl rfl) rfl ?_ ?_ ?_); rfl; rfl) | refine SX.ret ?_ | refine SQ.thenRet ?_)
    refine SQ.body1 rfl rfl (fun w' hl => ⟨rfl, hl.mod⟩)
  by_cases b2 : 1048576 < gap
  · have hN : N = 0 := hcb (by rw [hok, hio, inB_high b2]; rfl)
    repeat (first | refine SX.seq ?_ | refine SXl.nil ?_ | refine SX.region ?_ | refine SQ.thenNormal ?_ | refine SX.condT rfl ?_ | (refine SXl.no rfl rfl rfl ?_) | (refine l_call ?_; (refine SXl.v (OpW.call rfl (fun w hl => hI2 _ _ (items_at hl.owns (.tail _ (.tail _ (.tail _ (.head _))))))) rfl ?_ ?_ ?_); rfl; rfl) | (refine l_move ?_; (refine SXl.v (OpW.move rfl) rfl ?_ ?_ ?_); rfl; rfl) | (refine l_assign ?_; (refine SXl.v (OpW.assign rfl) rfl ?_ ?_ ?_); rfl; rfl) | (refine l_eql ?_; (refine SXl.v (OpW.eqlT rfl rfl (by omega)) rfl ?_ ?_ ?_); rfl; rfl) | (refine l_gtr ?_; (refine SXl.v (OpW.gtrT rfl rfl (by omega)) rfl ?_ ?_ ?_); rfl; rfl) | (refine l_lss ?_; (refine SXl.v (OpW.lssF rfl rfl (by omega)) rfl ?_ ?_ ?_); rfl; rfl) | (refine l_not ?_; (refine SXl.v (OpW.not rfl) rfl ?_ ?_ ?_); rfl; rfl) | (refine l_pick ?_; (refine SXl.v (OpW.pick rfl rfl rfl) rfl ?_ ?_ ?_); rfl; rfl))
    refine l_buildSlice ?_
    refine SXl.lit (cells := ([33, 33, 34] : List Int).map (.int .i64)) (z := .int .i64 0) ?_ ?_ rfl (by decide) (by kernel_rfl) rfl (fun gf => ?_)
    rfl; rfl
    repeat (first | refine SXl.nil ?_ | refine SQ.thenNormal ?_ | (refine l_call ?_; (refine SXl.v (OpW.call rfl (fun w hl => h3S gf _ (lineO_slice (p := ([33, 33, 34], q3)) hl.owns (.head _)) (blk_ints (spare := []) (xs := [33, 33, 34]) (hl.blk _ (.head _)).2 trivial))) rfl ?_ ?_ ?_); rfl; rfl) | (refine l_assign ?_; (refine SXl.v (OpW.assign rfl) rfl ?_ ?_ ?_); rfl; rfl) | (refine l_pick ?_; (refine SXl.v (OpW.pick rfl rfl rfl) rfl ?_ ?_ ?_); rfl; rfl) | refine SX.ret ?_ | refine SQ.thenRet ?_)
    refine SQ.body1 rfl rfl (fun w' hl => ⟨rfl, hl.mod⟩)
  by_cases b3 : inner < 0
  · have hN : N = 0 := hcb (by rw [hok, hio, inB_low b3, Bool.and_false])
    repeat (first | refine SX.seq ?_ | refine SXl.nil ?_ | refine SX.region ?_ | refine SQ.thenNormal ?_ | refine SX.condT rfl ?_ | (refine SXl.no rfl rfl rfl ?_) | (refine l_call ?_; (refine SXl.v (OpW.call rfl (fun w hl => hI2 _ _ (items_at hl.owns (.tail _ (.tail _ (.tail _ (.head _))))))) rfl ?_ ?_ ?_); rfl; rfl) | (refine l_move ?_; (refine SXl.v (OpW.move rfl) rfl ?_ ?_ ?_); rfl; rfl) | (refine l_assign ?_; (refine SXl.v (OpW.assign rfl) rfl ?_ ?_ ?_); rfl; rfl) | (refine l_eql ?_; (refine SXl.v (OpW.eqlT rfl rfl (by omega)) rfl ?_ ?_ ?_); rfl; rfl) | (refine l_gtr ?_; (refine SXl.v (OpW.gtrF rfl rfl (by omega)) rfl ?_ ?_ ?_); rfl; rfl) | (refine l_lss ?_; (first | refine SXl.v (OpW.lssT rfl rfl (by omega)) rfl ?_ ?_ ?_ | refine SXl.v (OpW.lssF rfl rfl (by omega)) rfl ?_ ?_ ?_); rfl; rfl) | (refine l_not ?_; (refine SXl.v (OpW.not rfl) rfl ?_ ?_ ?_); rfl; rfl) | (refine l_pick ?_; (refine SXl.v (OpW.pick rfl rfl rfl) rfl ?_ ?_ ?_); rfl; rfl))
    refine l_buildSlice ?_
    refine SXl.lit (cells := ([33, 33, 34] : List Int).map (.int .i64)) (z := .int .i64 0) ?_ ?_ rfl (by decide) (by kernel_rfl) rfl (fun gf => ?_)
    rfl; rfl
    repeat (first | refine SXl.nil ?_ | refine SQ.thenNormal ?_ | (refine l_call ?_; (refine SXl.v (OpW.call rfl (fun w hl => h3S gf _ (lineO_slice (p := ([33, 33, 34], q3)) hl.owns (.head _)) (blk_ints (spare := []) (xs := [33, 33, 34]) (hl.blk _ (.head _)).2 trivial))) rfl ?_ ?_ ?_); rfl; rfl) | (refine l_assign ?_; (refine SXl.v (OpW.assign rfl) rfl ?_ ?_ ?_); rfl; rfl) | (refine l_pick ?_; (refine SXl.v (OpW.pick rfl rfl rfl) rfl ?_ ?_ ?_); rfl; rfl) | refine SX.ret ?_ | refine SQ.thenRet ?_)
    refine SQ.body1 rfl rfl (fun w' hl => ⟨rfl, hl.mod⟩)
  by_cases b4 : 1048576 < inner
  · have hN : N = 0 := hcb (by rw [hok, hio, inB_high b4, Bool.and_false])
    repeat (first | refine SX.seq ?_ | refine SXl.nil ?_ | refine SX.region ?_ | refine SQ.thenNormal ?_ | refine SX.condT rfl ?_ | (refine l_call ?_; (refine SXl.v (OpW.call rfl (fun w hl => hI2 _ _ (items_at hl.owns (.tail _ (.tail _ (.tail _ (.head _))))))) rfl ?_ ?_ ?_); rfl; rfl) | (refine l_move ?_; (refine SXl.v (OpW.move rfl) rfl ?_ ?_ ?_); rfl; rfl) | (refine l_assign ?_; (refine SXl.v (OpW.assign rfl) rfl ?_ ?_ ?_); rfl; rfl) | (refine l_eql ?_; (refine SXl.v (OpW.eqlT rfl rfl (by omega)) rfl ?_ ?_ ?_); rfl; rfl) | (refine l_gtr ?_; (first | refine SXl.v (OpW.gtrT rfl rfl (by omega)) rfl ?_ ?_ ?_ | refine SXl.v (OpW.gtrF rfl rfl (by omega)) rfl ?_ ?_ ?_); rfl; rfl) | (refine l_lss ?_; (refine SXl.v (OpW.lssF rfl rfl (by omega)) rfl ?_ ?_ ?_); rfl; rfl) | (refine l_not ?_; (refine SXl.v (OpW.not rfl) rfl ?_ ?_ ?_); rfl; rfl) | (refine l_pick ?_; (refine SXl.v (OpW.pick rfl rfl rfl) rfl ?_ ?_ ?_); rfl; rfl))
    refine l_buildSlice ?_
    refine SXl.lit (cells := ([33, 33, 34] : List Int).map (.int .i64)) (z := .int .i64 0) ?_ ?_ rfl (by decide) (by kernel_rfl) rfl (fun gf => ?_)
    rfl; rfl
    repeat (first | refine SXl.nil ?_ | refine SQ.thenNormal ?_ | (refine l_call ?_; (refine SXl.v (OpW.call rfl (fun w hl => h3S gf _ (lineO_slice (p := ([33, 33, 34], q3)) hl.owns (.head _)) (blk_ints (spare := []) (xs := [33, 33, 34]) (hl.blk _ (.head _)).2 trivial))) rfl ?_ ?_ ?_); rfl; rfl) | (refine l_assign ?_; (refine SXl.v (OpW.assign rfl) rfl ?_ ?_ ?_); rfl; rfl) | (refine l_pick ?_; (refine SXl.v (OpW.pick rfl rfl rfl) rfl ?_ ?_ ?_); rfl; rfl) | refine SX.ret ?_ | refine SQ.thenRet ?_)
    refine SQ.body1 rfl rfl (fun w' hl => ⟨rfl, hl.mod⟩)
  have hk : ok = true := by rw [hok, hio, inB_true (by omega) (by omega), inB_true (by omega) (by omega)]; rfl
  replace hlim := hlim hk
  obtain ⟨qx, qa, qc⟩ := q
  obtain ⟨q1a, q1c⟩ := q1
  simp only at *
  repeat (first | refine SX.seq ?_ | refine SXl.nil ?_ | refine SX.region ?_ | refine SQ.thenNormal ?_ | refine SX.block ?_ | refine SX.skip ?_ | refine SX.condF rfl ?_ | (refine l_call ?_; (refine SXl.v (OpW.call rfl (fun w hl => hI2 _ _ (items_at (q := ⟨qx, qa, qc⟩) hl.owns (.tail _ (.tail _ (.tail _ (.head _))))))) rfl ?_ ?_ ?_); rfl; rfl) | (refine l_move ?_; (refine SXl.v (OpW.move rfl) rfl ?_ ?_ ?_); rfl; rfl) | (refine l_assign ?_; (refine SXl.v (OpW.assign rfl) rfl ?_ ?_ ?_); rfl; rfl) | (refine l_gtr ?_; (refine SXl.v (OpW.gtrF rfl rfl (by omega)) rfl ?_ ?_ ?_); rfl; rfl) | (refine l_lss ?_; (refine SXl.v (OpW.lssF rfl rfl (by omega)) rfl ?_ ?_ ?_); rfl; rfl) | (refine l_not ?_; (refine SXl.v (OpW.not rfl) rfl ?_ ?_ ?_); rfl; rfl) | (refine l_pick ?_; (refine SXl.v (OpW.pick rfl rfl rfl) rfl ?_ ?_ ?_); rfl; rfl))
  revert g; intro gt
  refine SX.loopi (fun i : Nat => i ≤ qx.length) (fun i => qx.length - i) (fun _ => [⟨g3, ([ten, ten, ten].map Item.cells).flatten, 36⟩, ⟨gt, ten.cells, 36⟩]) (fun _ => [lineO ([33, 33, 34], q3), lineO (S, q2), lineO (S, (q1a, q1c)), itemsO ⟨qx, qa, qc⟩]) (fun _ => []) (fun i => [(3, .slice qa qx.length qc), (6, .slice q1a S.length q1c), (7, .int .i64 (N : Nat)), (9, lineV ([33, 33, 34], q3)), (10, .int .i64 i)]) 0 (Nat.zero_le _) ?_ (fun _ hl => hl) ?_
  · (repeat (first | exact subF_nil _ | (refine subF_cons rfl ?_) | (refine subF_consv rfl (by rfl) ?_)))
  intro i hin
  by_cases hil : i < qx.length
  rotate_left
  · obtain rfl : i = qx.length := by omega
    repeat (first | refine SX.seq ?_ | refine SXl.nil ?_ | refine SX.region ?_ | refine SQ.thenNormal ?_ | refine SX.condF rfl ?_ | (refine l_move ?_; (refine SXl.v (OpW.move rfl) rfl ?_ ?_ ?_); rfl; rfl) | (refine l_len ?_; (refine SXl.v (OpW.len rfl) rfl ?_ ?_ ?_); rfl; rfl) | (refine l_add ?_; (refine SXl.v (OpW.succ rfl rfl (by omega)) rfl ?_ ?_ ?_); rfl; rfl) | (refine l_leq ?_; (refine SXl.v (OpW.leqT rfl rfl (by omega)) rfl ?_ ?_ ?_); rfl; rfl) | (refine l_lss ?_; (refine SXl.v (OpW.lssF rfl rfl (by omega)) rfl ?_ ?_ ?_); rfl; rfl) | refine SX.exit ?_ | refine SQ.thenExit ?_ | refine SQ.blockExit ?_)
    refine l_buildSlice ?_
    refine SXl.lit (cells := ([33, 33, 34] : List Int).map (.int .i64)) (z := .int .i64 0) ?_ ?_ rfl (by decide) (by kernel_rfl) rfl (fun gf => ?_)
    rfl; rfl
    repeat (first | refine SXl.nil ?_ | refine SQ.thenNormal ?_ | (refine l_call ?_; (refine SXl.v (OpW.call rfl (fun w hl => h3S gf _ (lineO_slice (p := ([33, 33, 34], q3)) hl.owns (.head _)) (blk_ints (spare := []) (xs := [33, 33, 34]) (hl.blk _ (.head _)).2 trivial))) rfl ?_ ?_ ?_); rfl; rfl) | (refine l_assign ?_; (refine SXl.v (OpW.assign rfl) rfl ?_ ?_ ?_); rfl; rfl) | (refine l_pick ?_; (refine SXl.v (OpW.pick rfl rfl rfl) rfl ?_ ?_ ?_); rfl; rfl) | refine SX.ret ?_)
    refine SQ.body1 rfl rfl (fun w' hl => ⟨rfl, hl.mod⟩)
  obtain ⟨x, hx⟩ : ∃ y, qx[i]? = some y := ⟨_, List.getElem?_eq_getElem hil⟩
  obtain ⟨s, hs, hs1, hs2⟩ := hlim i x hx
  have hup : upperOf x = max x.most x.least := rfl
  rw [hup] at hs2
  refine SX.knowI (fun w' hl => own_addr (hl.own _ (.tail _ (.tail _ (.tail _ (.head _))))).1 (by show 0 < qx.length; omega)) (fun ⟨gi, e1⟩ => ?_)
  refine SX.knowI (fun w' hl => own_addr (hl.own _ (.tail _ (.tail _ (.head _)))).1 (by show 0 < S.length; omega)) (fun ⟨gs, e2⟩ => ?_)
  simp only at e1 e2
  subst e1 e2
  by_cases m0 : 0 ≤ x.most
  · replace hs2 := hs2 m0
    by_cases m1 : x.most < x.least
    · skip
      repeat (first | refine SX.seq ?_ | refine SXl.nil ?_ | refine SX.region ?_ | refine SQ.thenNormal ?_ | refine SX.block ?_ | refine SX.skip ?_ | refine SX.condT rfl ?_ | refine SX.condF rfl ?_ | (refine l_load ?_; (first | refine SXl.v (OpW.loadLoc rfl (fun w' hl => item_cellF (items_at (q := ⟨qx, some ⟨gi, 0, none⟩, qc⟩) hl.owns (.tail _ (.tail _ (.tail _ (.head _))))) hx 2 _ rfl)) rfl ?_ ?_ ?_ | refine SXl.v (OpW.loadLoc rfl (fun w' hl => item_cellF (items_at (q := ⟨qx, some ⟨gi, 0, none⟩, qc⟩) hl.owns (.tail _ (.tail _ (.tail _ (.head _))))) hx 1 _ rfl)) rfl ?_ ?_ ?_); rfl; rfl) | (refine l_fieldAddr ?_; (refine SXl.v (OpW.fieldAddr rfl) rfl ?_ ?_ ?_); rfl; rfl) | (refine l_move ?_; (refine SXl.v (OpW.move rfl) rfl ?_ ?_ ?_); rfl; rfl) | (refine l_assign ?_; (refine SXl.v (OpW.assign rfl) rfl ?_ ?_ ?_); rfl; rfl) | (refine l_len ?_; (refine SXl.v (OpW.len rfl) rfl ?_ ?_ ?_); rfl; rfl) | (refine l_add ?_; (refine SXl.v (OpW.succ rfl rfl (by omega)) rfl ?_ ?_ ?_); rfl; rfl) | (refine l_geq ?_; (refine SXl.v (OpW.geqT rfl rfl (by omega)) rfl ?_ ?_ ?_); rfl; rfl) | (refine l_lss ?_; (refine SXl.v (OpW.lssT rfl rfl (by omega)) rfl ?_ ?_ ?_); rfl; rfl) | (refine l_pick ?_; (refine SXl.v (OpW.pick rfl rfl rfl) rfl ?_ ?_ ?_); rfl; rfl) | (refine l_indexAddr ?_; (refine SXl.v (OpW.indexAddr (by omega) rfl rfl) rfl ?_ ?_ ?_); rfl; rfl) | refine SX.drawn (by kernel_rfl) (by kernel_rfl) ?_ | refine SXr.nil ?_ | (refine r_load ?_; (first | refine SXr.v (OpW.loadLoc rfl (fun w' hl => item_cellF (items_at (q := ⟨qx, some ⟨gi, 0, none⟩, qc⟩) hl.owns (.tail _ (.tail _ (.tail _ (.head _))))) hx 1 _ rfl)) rfl ?_ ?_ ?_ | refine SXr.v (OpW.loadLoc rfl (fun w' hl => line_cellF hl.owns (.tail _ (.tail _ (.head _))) hs)) rfl ?_ ?_ ?_); rfl; rfl) | (refine r_fieldAddr ?_; (refine SXr.v (OpW.fieldAddr rfl) rfl ?_ ?_ ?_); rfl; rfl) | (refine r_move ?_; (refine SXr.v (OpW.move rfl) rfl ?_ ?_ ?_); rfl; rfl) | (refine r_geq ?_; (refine SXr.v (OpW.geqT rfl rfl (by omega)) rfl ?_ ?_ ?_); rfl; rfl) | (refine r_gtr ?_; (refine SXr.v (OpW.gtrF rfl rfl (by omega)) rfl ?_ ?_ ?_); rfl; rfl) | (refine r_lss ?_; (refine SXr.v (OpW.lssF rfl rfl (by omega)) rfl ?_ ?_ ?_); rfl; rfl) | (refine r_pick ?_; (refine SXr.v (OpW.pick rfl rfl rfl) rfl ?_ ?_ ?_); rfl; rfl) | (refine r_indexAddr ?_; (first | refine SXr.v (OpW.indexAddr1 (by omega) rfl rfl) rfl ?_ ?_ ?_ | refine SXr.v (OpW.indexAddr (by omega) rfl rfl) rfl ?_ ?_ ?_); rfl; rfl) | refine SQ.blockNormal ?_)
      refine SQ.roundi (i + 1) (by omega) (by omega) ?_ (fun _ hl => hl)
      (repeat (first | exact subF_nil _ | (refine subF_cons rfl ?_) | (refine subF_consv rfl (by rfl) ?_)))
    · skip
      repeat (first | refine SX.seq ?_ | refine SXl.nil ?_ | refine SX.region ?_ | refine SQ.thenNormal ?_ | refine SX.block ?_ | refine SX.skip ?_ | refine SX.condT rfl ?_ | refine SX.condF rfl ?_ | (refine l_load ?_; (first | refine SXl.v (OpW.loadLoc rfl (fun w' hl => item_cellF (items_at (q := ⟨qx, some ⟨gi, 0, none⟩, qc⟩) hl.owns (.tail _ (.tail _ (.tail _ (.head _))))) hx 2 _ rfl)) rfl ?_ ?_ ?_ | refine SXl.v (OpW.loadLoc rfl (fun w' hl => item_cellF (items_at (q := ⟨qx, some ⟨gi, 0, none⟩, qc⟩) hl.owns (.tail _ (.tail _ (.tail _ (.head _))))) hx 1 _ rfl)) rfl ?_ ?_ ?_); rfl; rfl) | (refine l_fieldAddr ?_; (refine SXl.v (OpW.fieldAddr rfl) rfl ?_ ?_ ?_); rfl; rfl) | (refine l_move ?_; (refine SXl.v (OpW.move rfl) rfl ?_ ?_ ?_); rfl; rfl) | (refine l_assign ?_; (refine SXl.v (OpW.assign rfl) rfl ?_ ?_ ?_); rfl; rfl) | (refine l_len ?_; (refine SXl.v (OpW.len rfl) rfl ?_ ?_ ?_); rfl; rfl) | (refine l_add ?_; (refine SXl.v (OpW.succ rfl rfl (by omega)) rfl ?_ ?_ ?_); rfl; rfl) | (refine l_geq ?_; (refine SXl.v (OpW.geqT rfl rfl (by omega)) rfl ?_ ?_ ?_); rfl; rfl) | (refine l_lss ?_; (first | refine SXl.v (OpW.lssT rfl rfl (by omega)) rfl ?_ ?_ ?_ | refine SXl.v (OpW.lssF rfl rfl (by omega)) rfl ?_ ?_ ?_); rfl; rfl) | (refine l_pick ?_; (refine SXl.v (OpW.pick rfl rfl rfl) rfl ?_ ?_ ?_); rfl; rfl) | (refine l_indexAddr ?_; (refine SXl.v (OpW.indexAddr (by omega) rfl rfl) rfl ?_ ?_ ?_); rfl; rfl) | refine SX.drawn (by kernel_rfl) (by kernel_rfl) ?_ | refine SXr.nil ?_ | (refine r_load ?_; (first | refine SXr.v (OpW.loadLoc rfl (fun w' hl => item_cellF (items_at (q := ⟨qx, some ⟨gi, 0, none⟩, qc⟩) hl.owns (.tail _ (.tail _ (.tail _ (.head _))))) hx 1 _ rfl)) rfl ?_ ?_ ?_ | refine SXr.v (OpW.loadLoc rfl (fun w' hl => line_cellF hl.owns (.tail _ (.tail _ (.head _))) hs)) rfl ?_ ?_ ?_); rfl; rfl) | (refine r_fieldAddr ?_; (refine SXr.v (OpW.fieldAddr rfl) rfl ?_ ?_ ?_); rfl; rfl) | (refine r_move ?_; (refine SXr.v (OpW.move rfl) rfl ?_ ?_ ?_); rfl; rfl) | (refine r_geq ?_; (refine SXr.v (OpW.geqT rfl rfl (by omega)) rfl ?_ ?_ ?_); rfl; rfl) | (refine r_gtr ?_; (refine SXr.v (OpW.gtrF rfl rfl (by omega)) rfl ?_ ?_ ?_); rfl; rfl) | (refine r_lss ?_; (refine SXr.v (OpW.lssF rfl rfl (by omega)) rfl ?_ ?_ ?_); rfl; rfl) | (refine r_pick ?_; (refine SXr.v (OpW.pick rfl rfl rfl) rfl ?_ ?_ ?_); rfl; rfl) | (refine r_indexAddr ?_; (first | refine SXr.v (OpW.indexAddr1 (by omega) rfl rfl) rfl ?_ ?_ ?_ | refine SXr.v (OpW.indexAddr (by omega) rfl rfl) rfl ?_ ?_ ?_); rfl; rfl) | refine SQ.blockNormal ?_)
      refine SQ.roundi (i + 1) (by omega) (by omega) ?_ (fun _ hl => hl)
      (repeat (first | exact subF_nil _ | (refine subF_cons rfl ?_) | (refine subF_consv rfl (by rfl) ?_)))
  · skip
    repeat (first | refine SX.seq ?_ | refine SXl.nil ?_ | refine SX.region ?_ | refine SQ.thenNormal ?_ | refine SX.block ?_ | refine SX.skip ?_ | refine SX.condT rfl ?_ | refine SX.condF rfl ?_ | (refine SXl.no rfl rfl rfl ?_) | (refine l_load ?_; (refine SXl.v (OpW.loadLoc rfl (fun w' hl => item_cellF (items_at (q := ⟨qx, some ⟨gi, 0, none⟩, qc⟩) hl.owns (.tail _ (.tail _ (.tail _ (.head _))))) hx 2 _ rfl)) rfl ?_ ?_ ?_); rfl; rfl) | (refine l_fieldAddr ?_; (refine SXl.v (OpW.fieldAddr rfl) rfl ?_ ?_ ?_); rfl; rfl) | (refine l_move ?_; (refine SXl.v (OpW.move rfl) rfl ?_ ?_ ?_); rfl; rfl) | (refine l_assign ?_; (refine SXl.v (OpW.assign rfl) rfl ?_ ?_ ?_); rfl; rfl) | (refine l_len ?_; (refine SXl.v (OpW.len rfl) rfl ?_ ?_ ?_); rfl; rfl) | (refine l_add ?_; (refine SXl.v (OpW.succ rfl rfl (by omega)) rfl ?_ ?_ ?_); rfl; rfl) | (refine l_geq ?_; (refine SXl.v (OpW.geqF rfl rfl (by omega)) rfl ?_ ?_ ?_); rfl; rfl) | (refine l_lss ?_; (refine SXl.v (OpW.lssT rfl rfl (by omega)) rfl ?_ ?_ ?_); rfl; rfl) | (refine l_pick ?_; (refine SXl.v (OpW.pick rfl rfl rfl) rfl ?_ ?_ ?_); rfl; rfl) | (refine l_indexAddr ?_; (refine SXl.v (OpW.indexAddr (by omega) rfl rfl) rfl ?_ ?_ ?_); rfl; rfl) | refine SX.drawn (by kernel_rfl) (by kernel_rfl) ?_ | refine SXr.nil ?_ | (refine SXr.no rfl rfl rfl ?_) | (refine r_load ?_; (first | refine SXr.v (OpW.loadLoc rfl (fun w' hl => item_cellF (items_at (q := ⟨qx, some ⟨gi, 0, none⟩, qc⟩) hl.owns (.tail _ (.tail _ (.tail _ (.head _))))) hx 1 _ rfl)) rfl ?_ ?_ ?_ | refine SXr.v (OpW.loadLoc rfl (fun w' hl => line_cellF hl.owns (.tail _ (.tail _ (.head _))) hs)) rfl ?_ ?_ ?_); rfl; rfl) | (refine r_fieldAddr ?_; (refine SXr.v (OpW.fieldAddr rfl) rfl ?_ ?_ ?_); rfl; rfl) | (refine r_move ?_; (refine SXr.v (OpW.move rfl) rfl ?_ ?_ ?_); rfl; rfl) | (refine r_geq ?_; (refine SXr.v (OpW.geqF rfl rfl (by omega)) rfl ?_ ?_ ?_); rfl; rfl) | (refine r_lss ?_; (refine SXr.v (OpW.lssF rfl rfl (by omega)) rfl ?_ ?_ ?_); rfl; rfl) | (refine r_pick ?_; (refine SXr.v (OpW.pick rfl rfl rfl) rfl ?_ ?_ ?_); rfl; rfl) | (refine r_indexAddr ?_; (first | refine SXr.v (OpW.indexAddr1 (by omega) rfl rfl) rfl ?_ ?_ ?_ | refine SXr.v (OpW.indexAddr (by omega) rfl rfl) rfl ?_ ?_ ?_); rfl; rfl) | refine SQ.blockNormal ?_)
    refine SQ.roundi (i + 1) (by omega) (by omega) ?_ (fun _ hl => hl)
    (repeat (first | exact subF_nil _ | (refine subF_cons rfl ?_) | (refine subF_consv rfl (by rfl) ?_)))
/-! ### The row's frame (the kit's skeleton, turned) -/
namespace fnFlexed
open Go.ChangeShapes Go.WideShapes Go.ChangeAt Go.RowKit
set_option linter.unusedVariables false

theorem own : ownKnob Try.prog.godebug = none := by kernel_rfl
theorem laidOut : laidOutB Try.prog = true := by kernel_rfl
def IsRow (k : IntKind) (w : World) (a : Option Addr) (len cap : Nat) (zs : List Int) : Prop :=
  (a = none ∧ len = 0 ∧ cap = 0 ∧ zs = []) ∨
  ∃ x, a = some x ∧ len ≤ cap ∧ cap ≤ maxLen ∧ zs.length = cap ∧ (∀ i, i < zs.length → w.cell? (x.add i) = some (.int k (zs.getD i 0))) ∧ ∀ n ∈ zs, (Lit.int k n).wf = true

theorem walk (a0 : Option Addr) (len0 cap0 : Nat) (z0 : List Int) (w : World) (w0 : IsRow .u8 w a0 len0 cap0 z0) :
    Calls Try.prog 4 #[.slice a0 len0 cap0] w fun e w' => e = .returned (.bool true) ∧ Below w.heap.size w w' := by
  obtain ⟨h1, h2⟩ := bytes_of_row (a := a0) (len := len0) (cap := cap0) (zs := z0) w0
  exact (fnFlexed_walk w a0 len0 cap0 h1 h2).mono fun e w' ⟨he, hm⟩ => ⟨he, hm.below (Nat.le_refl _) fun _ _ h => h⟩

set_option maxRecDepth 100000 in
theorem lifted (os : Os) (started : os.Started) (H : Type) (enc : TypeId × Value → H) :
    ReturnsInHanded {} Try.checked os 4 .any (Rows.fnFlexedSpec.pre6 enc Try.prog Try.f4 Rows.fnFlexedRow.domain false) (Rows.fnFlexedSpec.post enc Try.prog Try.f4 false true false false) := by
  refine returnsInHanded_of_change (C := Try.checked) own started (by kernel_rfl) Try.func4
    (ChangeSpec.witness6 (enc := enc) (C := Try.checked) false ⟨#[], #[.slice none 0 0], []⟩ 8 (by kernel_rfl) (by kernel_rfl) (by kernel_rfl) (by kernel_rfl)) ?_
  intro W base args ds gs before hval0 hW hcnd _
  have hval : ∀ (j : Nat) t v, Try.f4.params[j]? = some t → args[j]? = some v → Value.okWide Try.prog W .any base t v := hval0
  have hW' := hW
  obtain ⟨p, q, hA0, hV, rfl, hfz, hnd⟩ := hW
  have hA : DataW.TrodAll enc Try.prog W 0 (fun _ => true) true Try.f4.params.toList args.toList ds p := hA0
  rw [Try.params4] at hA hval
  obtain ⟨v0, vs0, d0, ds0, p0, q0, hargs, rfl, rfl, h0, r0⟩ := trodAll_cons hA
  obtain ⟨rfl, rfl, rfl⟩ := trodAll_nil r0
  obtain rfl : args = #[v0] := by cases args; simp_all
  obtain ⟨rfl, rfl⟩ := trodVars_none hV
  obtain ⟨a0, len0, cap0, rfl⟩ := okWide_slice Try.underlying22 (hval 0 22 v0 rfl rfl)
  have k0 := h0
  have lt0 : ∀ x ∈ p0, x.block < W.heap.size := by obtain ⟨m, hm⟩ := k0; exact DataW.trod_lt m _ _ _ hm
  obtain ⟨z0, w0⟩ : ∃ zs, IsRow .u8 W a0 len0 cap0 zs := by
    obtain ⟨fuel, hf⟩ := h0
    rcases open_ints Try.underlying22 Try.underlying5 (by kernel_rfl) hf with ⟨hcs, _⟩ | ⟨x, l, c, zs, hcs, _, hl, hm, hz, _, hcell, hwz⟩
    · simp [Value.cells] at hcs
      obtain ⟨rfl, rfl, rfl⟩ := hcs
      exact ⟨[], .inl ⟨rfl, rfl, rfl, rfl⟩⟩
    · simp [Value.cells] at hcs
      obtain ⟨rfl, rfl, rfl⟩ := hcs
      exact ⟨zs, .inr ⟨_, rfl, hl, hm, by simpa using hz, hcell, hwz⟩⟩
  clear hA0 hval0
  refine (walk a0 len0 cap0 z0 W w0).mono fun e W' ⟨he, bel⟩ => ?_
  subst he
  exact ⟨_, rfl, _, _, _, [], _, [], hW', trodAll_mk1 (shut_bool Try.underlying4 _), (trodAll_cons_mk (Below.trod laidOut (by kernel_rfl) (of_decide_eq_true (by kernel_rfl)) k0 bel lt0) trodAll_mk0), rfl, bel.frame _, fun h => by cases h⟩

theorem over : Rows.fnFlexedRow.holds Try.pinned (OpenSpec.ofChange Rows.fnFlexedSpec) :=
  OpenClaim.holds_of_wide 4 Try.f4 rfl rfl rfl rfl rfl rfl rfl ⟨rfl, rfl, rfl, rfl, rfl⟩ rfl rfl rfl rfl rfl (by kernel_rfl) Try.func4 (by kernel_rfl)
    (of_decide_eq_true (by kernel_rfl)) (by unfold Func.isWrapper; first | (rw [if_pos (by decide +kernel)]; kernel_rfl) | (rw [if_neg (by decide +kernel)]; exact ⟨rfl, rfl⟩))
    (fun os started H enc _ => lifted os started H enc)

theorem proved : Rows.FnFlexedSaid := over
#print axioms proved
end fnFlexed


end Go.Proofs.Ytdohglcjjlmhhaa
