/-
  PROVED: contracts of functions and words on memory, several texts put together: what each says stands at its theorems. Conditions: as told there.
-/
import Derived.Test.YtkkjjhooamlljaaMBb
import Derived.Test.YtkkjjhooamlljaaChecked
import Derived.Deep.RegionHeld3
import Derived.Deep.QuietTactic
import Derived.BigQuiet
import Derived.Outline
import Derived.StillTailTactics
import Derived.WalkLawsBesides
set_option linter.unusedVariables false
set_option linter.unusedSimpArgs false
namespace Go.Proofs.Ytkkjjhooamlljaa
open Go.RowKit
attribute [local irreducible] Style.cells nodeRow

/-- A node's cells read as the node; o: its slices may be written. -/
def NodeIn (o : Bool) (R : Nat → Prop) (w : World) (cs : List Value) (x : Node) : Prop :=
  ∃ k c t c', cs = nodeRow x.up k x.kids.length c x.style x.measured t x.rules.length c' ∧ IntSlice R w k x.kids ∧ SliceAt (Flat Rule.cells) 3 R w t x.rules ∧ (o = true → Wr 3 1 R w k x.kids.length ∧ Wr 145 3 R w t x.rules.length)
theorem NodeIn.mod {o : Bool} {R S : Nat → Prop} {w w' : World} {cs : List Value} {x : Node} (h : NodeIn o R w cs x) (hm : Mod S w w') (hs : ∀ k, R k → ¬ S k) : NodeIn o R w' cs x := by
  obtain ⟨k, c, t, c', h1, h2, h3, h4⟩ := h
  exact ⟨k, c, t, c', h1, h2.flatMod hm hs, h3.flatMod hm hs, fun ho => ⟨(h4 ho).1.mod hm hs, (h4 ho).2.mod hm hs⟩⟩
theorem NodeIn.keep {o : Bool} {R : Nat → Prop} {w w' : World} {cs : List Value} {x : Node} (h : NodeIn o R w cs x) (hm : Mod (fun _ => False) w w') : NodeIn o R w' cs x := h.mod hm fun _ _ f => f
theorem NodeIn.wide {o : Bool} {R S : Nat → Prop} {w : World} {cs : List Value} {x : Node} (h : NodeIn o R w cs x) (hs : ∀ k, k < w.heap.size → R k → S k) : NodeIn o S w cs x := by
  obtain ⟨k, c, t, c', h1, h2, h3, h4⟩ := h
  exact ⟨k, c, t, c', h1, SliceAt.wide h2 hs, SliceAt.wide h3 hs, fun ho => ⟨(h4 ho).1.weaken hs, (h4 ho).2.weaken hs⟩⟩
theorem NodeIn.len {o : Bool} {R : Nat → Prop} {w : World} {cs : List Value} {x : Node} (h : NodeIn o R w cs x) : cs.length = 64 := by
  obtain ⟨k, c, t, c', rfl, _⟩ := h
  exact nodeRow_len _ _ _ _ _ _ _ _ _

set_option maxRecDepth 100000 in
set_option maxHeartbeats 4000000 in
theorem toNode_any (x : Node) (o : Bool) (cs : List Value) (R : Nat → Prop) (w : World) (hk : x.kids.length ≤ 1048576) (hr : x.rules.length ≤ 1048576) (h : NodeIn o R w cs x) :
    Calls Try.prog 53 #[.agg cs.toArray] w fun e w' => ∃ cs', e = .returned (.agg cs'.toArray) ∧ NodeIn true (fun b => w.heap.size ≤ b) w' cs' x ∧ Mod (fun _ => False) w w' := by
  obtain ⟨ka, kc, ra, rc, rfl, h1, h2, _⟩ := h
  have H1 := hid h1
  have H2 := hid h2
  clear h1 h2
  have hz := zero_as zero_node
  go_enter Try.func53, Try.ntmps53
  go_wp2_with fail
  refine (toIntS_any x.kids _ _ R _ hk (H1.out.flatKeep (by (repeat (first | with_reducible exact Mod.refl _ _ | with_reducible refine Mod.drewN ?_ _ | with_reducible refine Mod.drew ?_ | with_reducible refine Mod.alloc ?_ _ | ((with_reducible refine Mod.setNew ?_ ?_ _ _ _); (rotate_left; omega)) | with_reducible refine Mod.setAt ?_ _ _ _ ))))).mono ?_
  rintro e w1 ⟨g1, rfl, hg1, hb1, hm1⟩
  have hM1 : Mod (fun _ => False) w w1 := by (repeat (first | with_reducible exact Mod.refl _ _ | with_reducible refine Mod.drewN ?_ _ | with_reducible refine Mod.drew ?_ | with_reducible refine Mod.alloc ?_ _ | ((with_reducible refine Mod.setNew ?_ ?_ _ _ _); (rotate_left; omega)) | with_reducible refine Mod.setAt ?_ _ _ _ | with_reducible exact hm1 | with_reducible refine Mod.thenNone ?_ hm1 ))
  have hA1 : w1.heap[w.heap.size]? = some (.cells (nodeRow x.up ka x.kids.length kc x.style x.measured ra x.rules.length rc).toArray 94 (0, 0)) := hm1.blk (al3a _ _ _ _) (fun f => f)
  have hC1 : w1.heap[w.heap.size + 1]? = some (.cells (nodeRow 0 none 0 0 Style.zero false none 0 0).toArray 112 (0, 0)) := hm1.blk (al3b _ _ _ _) (fun f => f)
  have hD1 : w1.heap[w.heap.size + 1 + 1]? = some (.cells (nodeRow x.up none 0 0 Style.zero false none 0 0).toArray 112 (0, 0)) := hm1.blk (al3c _ _ _ _) (fun f => f)
  simp only [World.size_alloc] at hg1
  have hgA : w.heap.size + 1 + 1 < g1 := by omega
  obtain ⟨hr1, ho1, _⟩ := row_blk hA1 2 60 (by rw [nodeRow_len]; omega)
  rw [nodeRow_style] at ho1
  have d1 := blk_cell hD1 (nodeRow_1 _ _ _ _ _ _ _ _ _)
  have z1 := blk_free hD1 1
  have hr1_0 : w.heap.size < w1.heap.size := (Array.getElem?_eq_some_iff.1 hA1).1
  have hr1_1 : w.heap.size + 1 < w1.heap.size := (Array.getElem?_eq_some_iff.1 hC1).1
  have hr1_2 : w.heap.size + 1 + 1 < w1.heap.size := (Array.getElem?_eq_some_iff.1 hD1).1
  have hD1' := set_in (j := 1) (v := .slice (some ⟨g1, 0, none⟩) x.kids.length x.kids.length) hD1
  rw [nodeRow_set1] at hD1'
  have hA1' := set_far (c := w.heap.size + 1 + 1) (j := 1) (v := .slice (some ⟨g1, 0, none⟩) x.kids.length x.kids.length) hA1 (by omega)
  have hC1' := set_far (c := w.heap.size + 1 + 1) (j := 1) (v := .slice (some ⟨g1, 0, none⟩) x.kids.length x.kids.length) hC1 (by omega)
  have hb1' := set_far (c := w.heap.size + 1 + 1) (j := 1) (v := .slice (some ⟨g1, 0, none⟩) x.kids.length x.kids.length) hb1 (by omega)
  have hM1' : Mod (fun _ => False) w (w1.setCell ⟨w.heap.size + 1 + 1, 1, none⟩ (.slice (some ⟨g1, 0, none⟩) x.kids.length x.kids.length)) := hM1.setNew (by omega) _ _ _
  have HA := hid hA1'
  have HC := hid hC1'
  have HD := hid hD1'
  have HB := hid hb1'
  have HM := hid hM1'
  clear hm1 hg1 hA1 hC1 hD1 hb1 hM1 hA1' hC1' hD1' hb1' hM1'
  go_wp2_with fail
  rw [rowOf_setCell _ _ _ _ _ _ _ (by omega), ho1]
  refine (toStyle_row x.style _).mono ?_
  rintro e w2 ⟨rfl, hm2⟩
  have hA2 := hm2.blk HA.out (fun f => f)
  have hC2 := hm2.blk HC.out (fun f => f)
  have hD2 := hm2.blk HD.out (fun f => f)
  have hb2 := hm2.blk HB.out (fun f => f)
  have hM2 := HM.out.thenNone hm2
  clear HA HC HD HB HM hm2 hr1 ho1 d1 z1 hr1_0 hr1_1 hr1_2
  obtain ⟨hr3, _, hw3⟩ := row_blk hD2 2 60 (by rw [nodeRow_len]; omega)
  have hr2_0 : w.heap.size < w2.heap.size := (Array.getElem?_eq_some_iff.1 hA2).1
  have hr2_1 : w.heap.size + 1 < w2.heap.size := (Array.getElem?_eq_some_iff.1 hC2).1
  have hr2_2 : w.heap.size + 1 + 1 < w2.heap.size := (Array.getElem?_eq_some_iff.1 hD2).1
  have c62 := blk_cell hA2 (nodeRow_62 _ _ _ _ _ _ _ _ _)
  have c63 := blk_cell hA2 (nodeRow_63 _ _ _ _ _ _ _ _ _)
  have d62 := blk_cell hD2 (nodeRow_62 _ _ _ _ _ _ _ _ _)
  have z62 := blk_free hD2 62
  have e62 := (cell_setCells (w := w2) (w.heap.size + 1 + 1) 2 w.heap.size 62 x.style.cells (by omega)).trans c62
  have e63 := (cell_setCells (w := w2) (w.heap.size + 1 + 1) 2 w.heap.size 63 x.style.cells (by omega)).trans c63
  have f62 := (cell_style_apart w2 (w.heap.size + 1 + 1) 2 62 x.style (by omega)).trans d62
  clear c62 c63 d62
  have hD2' := set_in (j := 62) (v := .bool x.measured) (nodeRow_put (s' := x.style) hD2)
  rw [nodeRow_set62] at hD2'
  have hC2' : ((w2.setCells (w.heap.size + 1 + 1) 2 x.style.cells).setCell ⟨w.heap.size + 1 + 1, 62, none⟩ (.bool x.measured)).heap[w.heap.size + 1]? = _ := (set_far (c := w.heap.size + 1 + 1) ((setCells_far _ (by omega) _ _ _).trans hC2) (by omega))
  have hb2' : ((w2.setCells (w.heap.size + 1 + 1) 2 x.style.cells).setCell ⟨w.heap.size + 1 + 1, 62, none⟩ (.bool x.measured)).heap[g1]? = _ := (set_far (c := w.heap.size + 1 + 1) ((setCells_far _ (by omega) _ _ _).trans hb2) (by omega))
  have hM2' : Mod (fun _ => False) w ((w2.setCells (w.heap.size + 1 + 1) 2 x.style.cells).setCell ⟨w.heap.size + 1 + 1, 62, none⟩ (.bool x.measured)) := (hM2.setCellsNew (by omega) _ _).setNew (by omega) _ _ _
  have HC := hid hC2'
  have HD := hid hD2'
  have HB := hid hb2'
  have HM := hid hM2'
  clear hA2 hC2 hD2 hb2 hM2 hC2' hD2' hb2' hM2'
  go_wp2_with fail
  refine (toTable_any x.rules ra rc R _ hr (H2.out.flatKeep HM.out)).mono ?_
  rintro e w3 ⟨g2, rfl, hg2, hb3, hm3⟩
  have hC3 := hm3.blk HC.out (fun f => f)
  have hD3 := hm3.blk HD.out (fun f => f)
  have hB3 := hm3.blk HB.out (fun f => f)
  have hM3 := HM.out.thenNone hm3
  simp only [World.size_setCell, setCells_size] at hg2
  clear HC HD HB HM hm3 hr3 hw3 hr2_0 hr2_1 e62 e63 f62 z62
  obtain ⟨hq0, hq1, _⟩ := row_blk hD3 0 64 (by rw [nodeRow_len]; omega)
  rw [List.drop_zero, List.take_of_length_le (by rw [nodeRow_len]; omega)] at hq1
  obtain ⟨hq2, _, hq3⟩ := row_blk hC3 0 64 (by rw [nodeRow_len]; omega)
  have d63 := blk_cell hD3 (nodeRow_63 _ _ _ _ _ _ _ _ _)
  have z63 := blk_free hD3 63
  have HB := hid hB3
  have HB' := hid hb3
  have HM := hid hM3
  clear hC3 hD3 hB3 hb3 hM3
  dsimp only
  repeat (go_step)
  have hfin : ∀ b, b ≠ w.heap.size + 1 → b ≠ w.heap.size + 1 + 1 → (((w3.setCell ⟨w.heap.size + 1 + 1, 63, none⟩ (.slice (some ⟨g2, 0, none⟩) x.rules.length x.rules.length)).setCells (w.heap.size + 1) 0 (nodeRow x.up (some ⟨g1, 0, none⟩) x.kids.length x.kids.length x.style x.measured (some ⟨g2, 0, none⟩) x.rules.length x.rules.length))).heap[b]? = w3.heap[b]? := fun b h1 h2 =>
    (setCells_far _ h1 _ _ _).trans (Below.heap_setCell _ _ _ _ h2)
  have hB := (hfin g1 (by omega) (by omega)).trans HB.out
  have hB' := (hfin g2 (by omega) (by omega)).trans HB'.out
  refine bodyPost_ret (v := .agg (nodeRow x.up (some ⟨g1, 0, none⟩) x.kids.length x.kids.length x.style x.measured (some ⟨g2, 0, none⟩) x.rules.length x.rules.length).toArray) ?_ ?_ ?_
  · refine results_row (b := w.heap.size + 1) Try.results53 ?_ Try.underlying112 rfl (by kernel_rfl) ?_
    · rfl
    · refine range_setCells ?_
      simp only [hasRow_setCell, nodeRow_len, hq2]
  · rfl
  · refine ⟨_, rfl, ⟨_, _, _, _, rfl, ?_, ?_, fun _ => ⟨?_, ?_⟩⟩, ?_⟩
    · exact SliceAt.wide (flat_of_blk (sz := 1) hB (fun _ => rfl)) (fun k _ (hk : k = g1) => by show w.heap.size ≤ k; omega)
    · exact SliceAt.wide (flat_of_blk (sz := 3) hB' (fun _ => rfl)) (fun k _ (hk : k = g2) => by show w.heap.size ≤ k; omega)
    · exact wr_of_blk hB (icells_length _) (by show w.heap.size ≤ g1; omega)
    · exact wr_of_blk hB' (flat_length (cells := Rule.cells) (sz := 3) (fun _ => rfl) _) (by show w.heap.size ≤ g2; omega)
    · refine Mod.setCellsNew ?_ (by omega) _ _
      refine Mod.setNew ?_ (by omega) _ _ _
      exact HM.out

set_option maxRecDepth 100000 in
set_option maxHeartbeats 4000000 in
theorem eqNode_same (x : Node) (o o' : Bool) (cs cs' : List Value) (R S : Nat → Prop) (w : World) (hk : x.kids.length ≤ 1048576) (hr : x.rules.length ≤ 1048576) (h : NodeIn o R w cs x) (h' : NodeIn o' S w cs' x) :
    Calls Try.prog 59 #[.agg cs.toArray, .agg cs'.toArray] w fun e w' => e = .returned (.bool true) ∧ Mod (fun _ => False) w w' := by
  obtain ⟨ka, kc, ra, rc, rfl, h1, h2, _⟩ := h
  obtain ⟨ka', kc', ra', rc', rfl, h1', h2', _⟩ := h'
  have H1 := hid h1
  have H2 := hid h2
  have H1' := hid h1'
  have H2' := hid h2'
  clear h1 h2 h1' h2'
  go_enter Try.func59, Try.ntmps59
  go_wp2_with fail
  refine (eqIntS_any x.kids x.kids _ _ _ _ R S _ (by omega) (by omega) (H1.out.flatKeep (by (repeat (first | with_reducible exact Mod.refl _ _ | with_reducible refine Mod.drewN ?_ _ | with_reducible refine Mod.drew ?_ | with_reducible refine Mod.alloc ?_ _ | ((with_reducible refine Mod.setNew ?_ ?_ _ _ _); (rotate_left; omega)) | with_reducible refine Mod.setAt ?_ _ _ _ )))) (H1'.out.flatKeep (by (repeat (first | with_reducible exact Mod.refl _ _ | with_reducible refine Mod.drewN ?_ _ | with_reducible refine Mod.drew ?_ | with_reducible refine Mod.alloc ?_ _ | ((with_reducible refine Mod.setNew ?_ ?_ _ _ _); (rotate_left; omega)) | with_reducible refine Mod.setAt ?_ _ _ _ ))))).mono ?_
  rintro e w1 ⟨rfl, hm1⟩
  rw [decide_eq_true rfl]
  have hM1 : Mod (fun _ => False) w w1 := by (repeat (first | with_reducible exact Mod.refl _ _ | with_reducible refine Mod.drewN ?_ _ | with_reducible refine Mod.drew ?_ | with_reducible refine Mod.alloc ?_ _ | ((with_reducible refine Mod.setNew ?_ ?_ _ _ _); (rotate_left; omega)) | with_reducible refine Mod.setAt ?_ _ _ _ | with_reducible exact hm1 | with_reducible refine Mod.thenNone ?_ hm1 ))
  have hA1 : w1.heap[w.heap.size]? = some (.cells (nodeRow x.up ka x.kids.length kc x.style x.measured ra x.rules.length rc).toArray 112 (0, 0)) := hm1.blk (al2a _ _ _) (fun f => f)
  have hB1 : w1.heap[w.heap.size + 1]? = some (.cells (nodeRow x.up ka' x.kids.length kc' x.style x.measured ra' x.rules.length rc').toArray 112 (0, 0)) := hm1.blk (al2b _ _ _) (fun f => f)
  obtain ⟨hr1, ho1, _⟩ := row_blk hA1 2 60 (by rw [nodeRow_len]; omega)
  rw [nodeRow_style] at ho1
  obtain ⟨hr2, ho2, _⟩ := row_blk hB1 2 60 (by rw [nodeRow_len]; omega)
  rw [nodeRow_style] at ho2
  have HA := hid hA1
  have HB := hid hB1
  have HM := hid hM1
  clear hm1 hA1 hB1 hM1
  go_wp2_with fail
  refine (eqStyle_row x.style _).mono ?_
  rintro e w2 ⟨rfl, hm2⟩
  have hA2 := hm2.blk HA.out (fun f => f)
  have hB2 := hm2.blk HB.out (fun f => f)
  have hM2 := HM.out.thenNone hm2
  clear HA HB HM hm2 hr1 ho1 hr2 ho2
  have c62 := blk_cell hA2 (nodeRow_62 _ _ _ _ _ _ _ _ _)
  have c63 := blk_cell hA2 (nodeRow_63 _ _ _ _ _ _ _ _ _)
  have d62 := blk_cell hB2 (nodeRow_62 _ _ _ _ _ _ _ _ _)
  have d63 := blk_cell hB2 (nodeRow_63 _ _ _ _ _ _ _ _ _)
  have HM := hid hM2
  clear hA2 hB2 hM2
  go_wp2_with fail
  refine (eqTable_any x.rules x.rules _ _ _ _ R S _ (by omega) (by omega) (H2.out.flatKeep HM.out) (H2'.out.flatKeep HM.out)).mono ?_
  rintro e w3 ⟨rfl, hm3⟩
  rw [decide_eq_true rfl]
  go_wp2
  go_ret
  exact ⟨rfl, HM.out.thenNone hm3⟩

/-- What a node counts besides itself. -/
def Node.cost (x : Node) : Nat := x.kids.length + x.rules.length
set_option maxRecDepth 100000 in
set_option maxHeartbeats 4000000 in
theorem szNode_any (x : Node) (o : Bool) (cs : List Value) (R : Nat → Prop) (left : Int) (w : World) (h0 : 0 ≤ left) (h1 : left ≤ 1048576) (hk : x.kids.length ≤ 9223372036854775807) (hr : x.rules.length ≤ 9223372036854775807) (h : NodeIn o R w cs x) :
    Calls Try.prog 50 #[.agg cs.toArray, .int .i64 left] w fun e w' => e = .returned (.int .i64 (szRes left x.cost)) ∧ Mod (fun _ => False) w w' := by
  obtain ⟨ka, kc, ra, rc, rfl, _, _, _⟩ := h
  go_enter Try.func50, Try.ntmps50
  go_wp2_with fail
  refine (szIntS_any _ _ _ _ h0 h1 hk _).mono ?_
  rintro e w1 ⟨rfl, hw1⟩
  have hA : w1.heap[w.heap.size]? = some (.cells (nodeRow x.up ka x.kids.length kc x.style x.measured ra x.rules.length rc).toArray 94 (0, 0)) := by
    rw [← hw1]
    exact heap_alloc_new _ _
  have hM : Mod (fun _ => False) w w1 := by
    rw [← hw1]
    (repeat (first | with_reducible exact Mod.refl _ _ | with_reducible refine Mod.drewN ?_ _ | with_reducible refine Mod.drew ?_ | with_reducible refine Mod.alloc ?_ _ | ((with_reducible refine Mod.setNew ?_ ?_ _ _ _); (rotate_left; omega)) | with_reducible refine Mod.setAt ?_ _ _ _ ))
  have c63 := blk_cell hA (nodeRow_63 _ _ _ _ _ _ _ _ _)
  clear hA hw1
  by_cases hs : left < x.kids.length
  · rw [if_pos hs]
    have hc := hid (szRes_less (left := left) (n := x.cost) (by unfold Node.cost; omega))
    go_wp2
    go_ret
    exact ⟨ret_int hc.out.symm, hM⟩
  · rw [if_neg hs]
    have h2 : 0 ≤ left - x.kids.length := by omega
    go_wp2_with fail
    refine (szTable_any _ _ _ _ h2 (by omega) hr _).mono ?_
    rintro e w2 ⟨rfl, hm2⟩
    by_cases hs2 : left - x.kids.length < x.rules.length
    · rw [if_pos hs2]
      have hc := hid (szRes_less (left := left) (n := x.cost) (by unfold Node.cost; omega))
      go_wp2
      go_ret
      exact ⟨ret_int hc.out.symm, hM.thenNone hm2⟩
    · rw [if_neg hs2]
      have h3 : 0 ≤ left - x.kids.length - x.rules.length := by omega
      have hc := hid (show left - x.kids.length - x.rules.length = szRes left x.cost by rw [szRes_more (by unfold Node.cost; omega)]; unfold Node.cost; omega)
      go_wp2
      go_ret
      exact ⟨ret_int hc.out, hM.thenNone hm2⟩

end Go.Proofs.Ytkkjjhooamlljaa
namespace Go.Proofs.Ytkkjjhooamlljaa
open Go.RowKit
attribute [local irreducible] Style.cells nodeRow

abbrev NodeSlice (o : Bool) (R : Nat → Prop) (w : World) (a : Option Addr) (l : List Node) : Prop := SliceAt (NodeIn o R) 64 R w a l
theorem NodeSlice.mod {o : Bool} {R S : Nat → Prop} {w w' : World} {a : Option Addr} {l : List Node} (h : NodeSlice o R w a l) (hm : Mod S w w') (hs : ∀ k, R k → ¬ S k) : NodeSlice o R w' a l := SliceAt.mod h hm hs fun _ _ hx => hx.mod hm hs
theorem NodeSlice.keep {o : Bool} {R : Nat → Prop} {w w' : World} {a : Option Addr} {l : List Node} (h : NodeSlice o R w a l) (hm : Mod (fun _ => False) w w') : NodeSlice o R w' a l := h.mod hm fun _ _ f => f
/-- Lengths that a walk can bear. -/
def Node.fits (n : Nat) (x : Node) : Prop := x.kids.length ≤ n ∧ x.rules.length ≤ n

theorem info_Node : (Try.prog.info? 112).map (fun i => (i.zero, i.size, i.bytes)) = some (some (.agg (nodeRow 0 none 0 0 Style.zero false none 0 0).toArray), 64, 536) := by kernel_rfl
/-- A row of a slice, as the walk loads it. -/
theorem row_of_get {w : World} {b p : Nat} {r : List Value} {n : Nat} (hn : r.length = n) (h0 : 0 < n) (h : ∀ j v, r[j]? = some v → w.cell? ⟨b, p + j, none⟩ = some v) : hasRow w b p n = true ∧ rowOf w b p n = r.toArray := by
  subst hn
  exact rowOf_told h0 h

set_option maxRecDepth 100000 in
set_option maxHeartbeats 4000000 in
theorem toNodeS_any (l : List Node) (o : Bool) (a : Option Addr) (c : Nat) (R : Nat → Prop) (w : World) (hl : l.length ≤ 1048576) (hf : ∀ x ∈ l, x.fits 1048576) (h : NodeSlice o R w a l) :
    Calls Try.prog 33 #[.slice a l.length c] w (NewNest (NodeIn true) 112 64 w l) := by
  have H := hid h
  have HF := hid hf
  clear h hf
  obtain ⟨i0, hi, hz0, hz1, hz2⟩ := info_parts info_Node
  have hmk : ∀ W : World, (Instr.makeSlice 33 (.int .i64 (l.length : Int)) (.int .i64 (l.length : Int))).run Try.prog W = .ok (.slice (some ⟨W.heap.size, 0, none⟩) l.length l.length) (W.alloc (.cells (madeCells (Value.cells (.agg (nodeRow 0 none 0 0 Style.zero false none 0 0).toArray)) (l.length * 64)) 112)) := by
    intro W
    have := run_make (P := Try.prog) W 33 112 i0 _ Try.underlying33 hi hz0 .i64 .i64 l.length l.length (by omega) (by omega) (by rw [hz2]; omega) (by omega)
    simpa [hz1] using this
  clear hz0 hz1 hz2 hi
  go_enter Try.func33, Try.ntmps33
  go_wp2
  go_loopw [4] (fun i wr => ∃ (k : Nat) (rows : List (List Value)), k ≤ l.length ∧ i = .int .i64 k ∧ Hid (rows.length = k ∧ (∀ r ∈ rows, r.length = 64) ∧ (∀ (i : Nat) (r : List Value) (x : Node), rows[i]? = some r → l[i]? = some x → NodeIn true (fun b => w.heap.size < b) wr r x)) ∧ Filled w.heap.size 112 (l.length * 64) wr rows.flatten ∧ Mod (fun _ => False) w wr) (fun i _ => l.length - (intOf i).toNat)
  case atStart => exact ⟨0, [], by omega, rfl, hid ⟨rfl, (fun _ h => by simp at h), (fun _ _ _ h => by simp at h)⟩, Filled.made w _ _ _ (size_madeCells _ _), (Mod.refl _ w).alloc _⟩
  case round =>
    obtain ⟨k, rows, hk, rfl, HR, hF, hM⟩ := hrel
    clear hmk
    by_cases hlt : k < l.length
    · obtain ⟨b, o', x, r, rfl, hb, hbw, hx, hin, hrl', hc⟩ := (H.out.keep hM).get hlt
      obtain ⟨hxk, hxr⟩ := HF.out x (List.mem_of_getElem? hx.out)
      obtain ⟨q0, q1⟩ := row_of_get hrl' (by omega) hc
      have Hin := hid hin
      have hF0 := hF.size
      have HFl := hid hF
      have HM := hid hM
      clear hc hrl' hin hF hM
      go_wp2_with fail
      refine (toNode_any x o r R _ hxk hxr (Hin.out.keep (by (repeat (first | with_reducible exact Mod.refl _ _ | with_reducible refine Mod.drewN ?_ _ | with_reducible refine Mod.drew ?_ | with_reducible refine Mod.alloc ?_ _ | ((with_reducible refine Mod.setNew ?_ ?_ _ _ _); (rotate_left; omega)) | with_reducible refine Mod.setAt ?_ _ _ _ ))))).mono ?_
      rintro e w1 ⟨cs1, rfl, ⟨k1, c1, t1, c1', rfl, n1, n2, n3⟩, hm1⟩
      have HN := hid (show NodeIn true (fun b => wr.heap.size ≤ b) w1 (nodeRow x.up k1 x.kids.length c1 x.style x.measured t1 x.rules.length c1') x from ⟨k1, c1, t1, c1', rfl, n1, n2, n3⟩)
      have hF1 := HFl.out.mod hm1 (fun f => f)
      have q2 := hF1.row (k * 64) 64 (by omega)
      have q3 := hF1.open
      have HF1 := hid hF1
      have Hm1 := hid hm1
      clear n1 n2 n3 hF1 hm1 q0 q1
      go_wp2
      go_roundw
      case rel =>
        obtain ⟨hrl, hrs, hrep⟩ := HR.out
        have hmr : Mod (fun k => k = w.heap.size) wr (w1.setCells w.heap.size (k * 64) (nodeRow x.up k1 x.kids.length c1 x.style x.measured t1 x.rules.length c1')) := Mod.setCells (R := fun k => k = w.heap.size) (Hm1.out.mono (fun _ _ f => f.elim)) (fun _ => .inl rfl) _ _
        have hms : Mod (fun k => k = w.heap.size) w1 (w1.setCells w.heap.size (k * 64) (nodeRow x.up k1 x.kids.length c1 x.style x.measured t1 x.rules.length c1')) := Mod.setCells (R := fun k => k = w.heap.size) (Mod.refl _ _) (fun _ => .inl rfl) _ _
        refine ⟨k + 1, rows ++ [nodeRow x.up k1 x.kids.length c1 x.style x.measured t1 x.rules.length c1'], by omega, by go_num, hid ⟨by simp [hrl], lens_succ hrs (nodeRow_len _ _ _ _ _ _ _ _ _), ?_⟩, ?_, ?_⟩
        · refine rows_succ hx hrl (rows_map hrep fun r x hq => hq.mod hmr (fun k hk e => by omega)) ?_
          exact (HN.out.mod hms (fun k hk (e : k = w.heap.size) => by omega)).wide (fun k _ hk => by show w.heap.size < k; omega)
        · have hl0 := flatten_length hrs
          rw [hrl] at hl0
          rw [List.flatten_append, List.flatten_singleton]
          exact HF1.out.pushRow _ hl0.symm (by rw [nodeRow_len]; omega)
        · exact (HM.out.thenNone Hm1.out).setCellsNew (Nat.le_refl _) _ _
      case measure => simp [intOf]; omega
    · have hk' : k = l.length := by omega
      subst hk'
      obtain ⟨hrl, hrs, hrep⟩ := HR.out
      go_wp2
      go_ret
      refine ⟨w.heap.size, rows, rfl, Nat.le_refl _, ?_, hrl, hrs, rows_map hrep fun r x hq => hq.wide fun _ _ hk => Nat.le_of_lt hk, hM⟩
      exact hF.full (by rw [flatten_length hrs, hrl])

set_option maxRecDepth 100000 in
set_option maxHeartbeats 4000000 in
theorem eqNodeS_same (l : List Node) (o o' : Bool) (a a' : Option Addr) (c c' : Nat) (R S : Nat → Prop) (w : World) (hl : l.length ≤ 1048576) (hf : ∀ x ∈ l, x.fits 1048576) (h : NodeSlice o R w a l) (h' : NodeSlice o' S w a' l) :
    Calls Try.prog 40 #[.slice a l.length c, .slice a' l.length c'] w fun e w' => e = .returned (.bool true) ∧ Mod (fun _ => False) w w' := by
  have H := hid h
  have H' := hid h'
  have HF := hid hf
  clear h h' hf
  have hn0 : ((l.length : Int) != (l.length : Int)) = false := by simp
  go_enter Try.func40, Try.ntmps40
  go_wp2
  go_loopw [5] (fun i wr => ∃ k : Nat, k ≤ l.length ∧ i = .int .i64 k ∧ Mod (fun _ => False) w wr) (fun i _ => l.length - (intOf i).toNat)
  case atStart => exact ⟨0, by omega, rfl, Mod.refl _ _⟩
  case round =>
    obtain ⟨k, hk, rfl, hM⟩ := hrel
    by_cases hlt : k < l.length
    · obtain ⟨b, o1, x, r, rfl, hb, hbw, hx, hin, hrl, hc⟩ := (H.out.keep hM).get hlt
      obtain ⟨b', o2, y, r', rfl, hb', hbw', hy, hin', hrl', hd⟩ := (H'.out.keep hM).get hlt
      obtain rfl : x = y := Option.some.inj (hx.out.symm.trans hy.out)
      obtain ⟨hxk, hxr⟩ := HF.out x (List.mem_of_getElem? hx.out)
      obtain ⟨q0, q1⟩ := row_of_get hrl (by omega) hc
      obtain ⟨q2, q3⟩ := row_of_get hrl' (by omega) hd
      have Hin := hid hin
      have Hin' := hid hin'
      have HM := hid hM
      clear hc hd hrl hrl' hin hin' hM
      go_wp2
      go_still_tail 8, (by kernel_rfl)
      go_wp2_with fail
      try rw [q1]
      try rw [q3]
      refine (eqNode_same x o o' r r' R S _ hxk hxr (Hin.out.keep (by (repeat (first | with_reducible exact Mod.refl _ _ | with_reducible refine Mod.drewN ?_ _ | with_reducible refine Mod.drew ?_ | with_reducible refine Mod.alloc ?_ _ | ((with_reducible refine Mod.setNew ?_ ?_ _ _ _); (rotate_left; omega)) | with_reducible refine Mod.setAt ?_ _ _ _ )))) (Hin'.out.keep (by (repeat (first | with_reducible exact Mod.refl _ _ | with_reducible refine Mod.drewN ?_ _ | with_reducible refine Mod.drew ?_ | with_reducible refine Mod.alloc ?_ _ | ((with_reducible refine Mod.setNew ?_ ?_ _ _ _); (rotate_left; omega)) | with_reducible refine Mod.setAt ?_ _ _ _ ))))).mono ?_
      rintro e w1 ⟨rfl, hm1⟩
      go_wp2
      go_roundw
      case rel => exact ⟨k + 1, by omega, by go_num, HM.out.drew.thenNone hm1⟩
      case measure => simp [intOf]; omega
    · go_wp2
      go_ret
      exact ⟨rfl, hM⟩

set_option maxRecDepth 100000 in
set_option maxHeartbeats 4000000 in
theorem szNodeS_any (l : List Node) (o : Bool) (a : Option Addr) (c : Nat) (R : Nat → Prop) (left : Int) (w : World) (h0 : 0 ≤ left) (h1 : left ≤ 1048576) (hl : l.length ≤ 9223372036854775807) (hf : ∀ x ∈ l, x.fits 9223372036854775807) (h : NodeSlice o R w a l) :
    Calls Try.prog 28 #[.slice a l.length c, .int .i64 left] w fun e w' => e = .returned (.int .i64 (szRes left (l.length + costs Node.cost l))) ∧ Mod (fun _ => False) w w' := by
  have H := hid h
  have HF := hid hf
  clear h hf
  by_cases hs : left < l.length
  · rw [szRes_less (by omega)]
    have h2 : left - l.length < 0 := by omega
    have h3 : -9223372036854775807 ≤ left - l.length := by omega
    go_enter Try.func28, Try.ntmps28
    go_wp2
    go_ret
    exact ⟨rfl, Mod.refl _ _⟩
  · have h2 : 0 ≤ left - l.length := by omega
    go_enter Try.func28, Try.ntmps28
    go_wp2
    go_loopw [1, 5] (fun z i wr => ∃ (k : Nat) (q : Int), k ≤ l.length ∧ z = .int .i64 q ∧ Hid (q = left - l.length - costs Node.cost (l.take k)) ∧ 0 ≤ q ∧ q ≤ 1048576 ∧ i = .int .i64 k ∧ Mod (fun _ => False) w wr) (fun _ i _ => l.length - (intOf i).toNat)
    case atStart => exact ⟨0, _, by omega, rfl, hid (by simp [costs]), h2, by omega, rfl, Mod.refl _ _⟩
    case round =>
      obtain ⟨k, q, hk, rfl, hq, q1, q2, rfl, hM⟩ := hrel
      by_cases hlt : k < l.length
      · obtain ⟨b, o', x, r, rfl, hb, hbw, hx, hin, hrl', hc⟩ := (H.out.keep hM).get hlt
        obtain ⟨hxk, hxr⟩ := HF.out x (List.mem_of_getElem? hx.out)
        obtain ⟨p0, p1⟩ := row_of_get hrl' (by omega) hc
        have Hin := hid hin
        have HM := hid hM
        clear hc hrl' hin hM
        have hs1 := hid (costs_succ Node.cost hx)
        have hs2 := hid (costs_take Node.cost l (k + 1))
        go_wp2_with fail
        refine (szNode_any x o r R q _ q1 q2 hxk hxr (Hin.out.keep (by (repeat (first | with_reducible exact Mod.refl _ _ | with_reducible refine Mod.drewN ?_ _ | with_reducible refine Mod.drew ?_ | with_reducible refine Mod.alloc ?_ _ | ((with_reducible refine Mod.setNew ?_ ?_ _ _ _); (rotate_left; omega)) | with_reducible refine Mod.setAt ?_ _ _ _ ))))).mono ?_
        rintro e w1 ⟨rfl, hm1⟩
        have HM1 := hid (HM.out.thenNone hm1)
        clear hm1
        by_cases hsx : q < x.cost
        · rw [szRes_less hsx]
          have hlast := hid (szRes_less (left := left) (n := l.length + costs Node.cost l) (by have := hs1.out; have := hs2.out; have := hq.out; omega))
          go_wp2
          go_ret
          exact ⟨ret_int hlast.out.symm, HM1.out⟩
        · rw [szRes_more (by omega)]
          have q3 : 0 ≤ q - x.cost := by omega
          have hq2 := hid (show q - x.cost = left - l.length - costs Node.cost (l.take (k + 1)) by have := hs1.out; have := hq.out; omega)
          go_wp2
          go_roundw
          case rel => exact ⟨k + 1, _, by omega, rfl, hq2, q3, by omega, by go_num, HM1.out⟩
          case measure => simp [intOf]; omega
      · have hk' : k = l.length := by omega
        subst hk'
        have hlast := hid (show q = szRes left (l.length + costs Node.cost l) by have h5 := hq.out; rw [List.take_length] at h5; rw [szRes_more (by omega)]; omega)
        go_wp2
        go_ret
        exact ⟨ret_int hlast.out, hM⟩

end Go.Proofs.Ytkkjjhooamlljaa
namespace Go.Proofs.Ytkkjjhooamlljaa
open Go.RowKit
set_option linter.unusedVariables false
set_option linter.unusedSimpArgs false




instance : TFv Try.prog 112 0 0 := ⟨_, _, _, Try.underlying112, rfl, rfl, Try.underlying3, rfl⟩
end Go.Proofs.Ytkkjjhooamlljaa
namespace Go.Proofs.Ytkkjjhooamlljaa
open Go.RowKit
set_option linter.unusedVariables false
set_option linter.unusedSimpArgs false

/-- Where a node's slices lie. -/
structure NodeP where
  ka : Option Addr
  kc : Nat
  ra : Option Addr
  rc : Nat
abbrev PNode := Node × NodeP
def rowP (x : PNode) : List Value := nodeRow x.1.up x.2.ka x.1.kids.length x.2.kc x.1.style x.1.measured x.2.ra x.1.rules.length x.2.rc
theorem rowP_len (x : PNode) : (rowP x).length = 64 := rfl
theorem rowP_one (x : PNode) : ∀ u ∈ rowP x, u.oneCell' = true := by
  have := nodeRow_ones x.1.up x.2.ka x.1.kids.length x.2.kc x.1.style x.1.measured x.2.ra x.1.rules.length x.2.rc
  simpa [rowP] using this
def kidsO (x : PNode) : Own := ⟨.slice x.2.ka x.1.kids.length x.2.kc, 3, 1, x.1.kids.length, (x.1.kids.map icell).flatten⟩
def rulesO (x : PNode) : Own := ⟨.slice x.2.ra x.1.rules.length x.2.rc, 145, 3, x.1.rules.length, (x.1.rules.map Rule.cells).flatten⟩
def partsO : List PNode → List Own
  | [] => []
  | x :: l => kidsO x :: rulesO x :: partsO l
def nodesO (l : List PNode) (a : Option Addr) (c : Nat) : Own := ⟨.slice a l.length c, 112, 64, l.length, (l.map rowP).flatten⟩
def treeO (l : List PNode) (a : Option Addr) (c : Nat) : List Own := nodesO l a c :: partsO l
abbrev bare (l : List PNode) : List Node := l.map Prod.fst
theorem partsO_cons (x : PNode) (l : List PNode) : partsO (x :: l) = kidsO x :: rulesO x :: partsO l := rfl
theorem partsO_append (l m : List PNode) : partsO (l ++ m) = partsO l ++ partsO m := by
  induction l with
  | nil => rfl
  | cons x l ih => rw [List.cons_append, partsO_cons, partsO_cons, ih, List.cons_append, List.cons_append]
theorem partsO_mem {l : List PNode} {x : PNode} (h : x ∈ l) : kidsO x ∈ partsO l ∧ rulesO x ∈ partsO l := by
  induction l with
  | nil => exact (List.not_mem_nil h).elim
  | cons y l ih =>
    rw [partsO_cons]
    rcases List.mem_cons.1 h with rfl | h
    · exact ⟨.head _, .tail _ (.head _)⟩
    · have := ih h
      exact ⟨.tail _ (.tail _ this.1), .tail _ (.tail _ this.2)⟩
/-- A tree of the call's own reads as a tree. -/
theorem tree_in {base : Nat} {w : World} {l : List PNode} {a : Option Addr} {c : Nat} (h : Owns base w (treeO l a c)) : NodeSlice false (fun k => base ≤ k) w a (bare l) := by
  have h1 := h.row (nodesO l a c) List.mem_cons_self
  simp only [nodesO] at h1
  refine ⟨l.map rowP, rowsAt_of_own h1 (by intro r hr; obtain ⟨x, _, rfl⟩ := List.mem_map.1 hr; rfl) (by decide), by simp, fun i r x hr hx => ?_⟩
  rw [List.getElem?_map] at hr hx
  cases hp : l[i]? with
  | none => rw [hp] at hr; cases hr
  | some p =>
    rw [hp] at hr hx
    obtain rfl := Option.some.inj hr
    obtain rfl := Option.some.inj hx
    obtain ⟨m1, m2⟩ := partsO_mem (List.mem_of_getElem? hp)
    have k1 := h.row _ (List.mem_cons_of_mem _ m1)
    have k2 := h.row _ (List.mem_cons_of_mem _ m2)
    simp only [kidsO, rulesO] at k1 k2
    exact ⟨_, _, _, _, rfl, own_slice k1 (fun _ => rfl) (by decide), own_slice k2 (fun _ => rfl) (by decide), fun e => by cases e⟩
theorem bare_len (l : List PNode) : (bare l).length = l.length := List.length_map _
end Go.Proofs.Ytkkjjhooamlljaa
namespace Go.Proofs.Ytkkjjhooamlljaa
open Go.RowKit

theorem info_Frame : (Try.prog.info? 69).map (fun i => (i.zero, i.size, i.bytes)) = some (some (.agg #[.int .i64 0, .int .i64 0, .int .i64 0, .int .i64 0, .int .i64 0]), 5, 40) := by kernel_rfl
set_option maxRecDepth 100000 in
theorem toFrame_any (x : Frame) (w : World) :
    Calls Try.prog 36 #[.agg #[.int .i64 x.node, .int .i64 x.x, .int .i64 x.y, .int .i64 x.wide, .int .i64 x.high]] w fun e w' => e = .returned (.agg #[.int .i64 x.node, .int .i64 x.x, .int .i64 x.y, .int .i64 x.wide, .int .i64 x.high]) ∧ Mod (fun _ => False) w w' := by
  go_enter Try.func36, Try.ntmps36
  go_wp2
  exact bodyPost_ret (v := .agg #[.int .i64 x.node, .int .i64 x.x, .int .i64 x.y, .int .i64 x.wide, .int .i64 x.high]) (by simp [results, Try.results36, go_sem]) rfl ⟨rfl, by (repeat (first | with_reducible exact Mod.refl _ _ | with_reducible refine Mod.drewN ?_ _ | with_reducible refine Mod.drew ?_ | with_reducible refine Mod.alloc ?_ _ | ((with_reducible refine Mod.setNew ?_ ?_ _ _ _); (rotate_left; omega)) | with_reducible refine Mod.setAt ?_ _ _ _ ))⟩

set_option maxHeartbeats 1000000 in
theorem eqFrame_any (x y : Frame) (w : World) : Calls Try.prog 43 #[.agg #[.int .i64 x.node, .int .i64 x.x, .int .i64 x.y, .int .i64 x.wide, .int .i64 x.high], .agg #[.int .i64 y.node, .int .i64 y.x, .int .i64 y.y, .int .i64 y.wide, .int .i64 y.high]] w fun e w' => e = .returned (.bool (decide (x = y))) ∧ Mod (fun _ => False) w w' := by
  obtain ⟨x0, x1, x2, x3, x4⟩ := x
  obtain ⟨y0, y1, y2, y3, y4⟩ := y
  go_enter Try.func43, Try.ntmps43
  go_wp2
  all_goals
    go_ret
    refine ⟨ret_bool ?_, by (repeat (first | with_reducible exact Mod.refl _ _ | with_reducible refine Mod.drewN ?_ _ | with_reducible refine Mod.drew ?_ | with_reducible refine Mod.alloc ?_ _ | ((with_reducible refine Mod.setNew ?_ ?_ _ _ _); (rotate_left; omega)) | with_reducible refine Mod.setAt ?_ _ _ _ ))⟩
    simp_all

/-- A frame of machine numbers. -/
def Frame.ok (x : Frame) : Prop := I64 x.node ∧ I64 x.x ∧ I64 x.y ∧ I64 x.wide ∧ I64 x.high
set_option maxRecDepth 100000 in
theorem rd_Frame {w : World} {cs : List Value} (h : Rd Try.prog w 71 cs) : ∃ x : Frame, cs = x.cells ∧ x.ok := by
  obtain ⟨hl, hf⟩ := h.struct Try.underlying71
  have hl2 : cs.length = 5 := hl.trans (by kernel_rfl)
  have c1 : Try.prog.cellsOf 3 = 1 := by kernel_rfl
  match cs, hl2 with
  | [q0, q1, q2, q3, q4], _ =>
    obtain ⟨n0, e0, w0⟩ := (hf 0 _ rfl).int Try.underlying3
    obtain ⟨n1, e1, w1⟩ := (hf 1 _ rfl).int Try.underlying3
    obtain ⟨n2, e2, w2⟩ := (hf 2 _ rfl).int Try.underlying3
    obtain ⟨n3, e3, w3⟩ := (hf 3 _ rfl).int Try.underlying3
    obtain ⟨n4, e4, w4⟩ := (hf 4 _ rfl).int Try.underlying3
    simp [c1] at e0 e1 e2 e3 e4
    exact ⟨⟨n0, n1, n2, n3, n4⟩, by simp [Frame.cells, e0, e1, e2, e3, e4], wf_i64 w0, wf_i64 w1, wf_i64 w2, wf_i64 w3, wf_i64 w4⟩

end Go.Proofs.Ytkkjjhooamlljaa
namespace Go.Proofs.Ytkkjjhooamlljaa
open Go.RowKit

theorem szFrameS_any (n c : Nat) (a : Option Addr) (left : Int) (h0 : 0 ≤ left) (h1 : left ≤ 1048576) (hn : n ≤ 9223372036854775807) (w : World) : Calls Try.prog 13 #[.slice a n c, .int .i64 left] w fun e w' => e = .returned (.int .i64 (if left < n then -1 else left - n)) ∧ w = w' := by
  by_cases h : left < n
  · rw [if_pos h]
    have h2 : left - n < 0 := by omega
    have h3 : -9223372036854775807 ≤ left - n := by omega
    go_enter Try.func13, Try.ntmps13
    go_wp2
    go_ret
    exact ⟨rfl, rfl⟩
  · rw [if_neg h]
    have h2 : 0 ≤ left - n := by omega
    go_enter Try.func13, Try.ntmps13
    go_wp2
    go_ret
    exact ⟨rfl, rfl⟩

set_option maxRecDepth 100000 in
set_option maxHeartbeats 1000000 in
theorem toFrameS_any (l : List Frame) (a : Option Addr) (c : Nat) (R : Nat → Prop) (w : World) (hl : l.length ≤ 1048576) (h : SliceAt (Flat Frame.cells) 5 R w a l) :
    Calls Try.prog 17 #[.slice a l.length c] w (NewRows 69 w l.length (l.map Frame.cells).flatten) := by
  have H := hid h
  clear h
  obtain ⟨i0, hi, hz0, hz1, hz2⟩ := info_parts info_Frame
  have hmk : ∀ W : World, (Instr.makeSlice 40 (.int .i64 (l.length : Int)) (.int .i64 (l.length : Int))).run Try.prog W = .ok (.slice (some ⟨W.heap.size, 0, none⟩) l.length l.length) (W.alloc (.cells (madeCells (Value.cells (.agg #[.int .i64 0, .int .i64 0, .int .i64 0, .int .i64 0, .int .i64 0])) (l.length * 5)) 69)) := by
    intro W
    have := run_make (P := Try.prog) W 40 69 i0 _ Try.underlying40 hi hz0 .i64 .i64 l.length l.length (by omega) (by omega) (by rw [hz2]; omega) (by omega)
    simpa [hz1] using this
  clear hz0 hz1 hz2 hi
  go_enter Try.func17, Try.ntmps17
  go_wp2
  go_loopw [4] (fun i wr => ∃ k : Nat, k ≤ l.length ∧ i = .int .i64 k ∧ Filled w.heap.size 69 (l.length * 5) wr ((l.take k).map Frame.cells).flatten ∧ Mod (fun _ => False) w wr) (fun i _ => l.length - (intOf i).toNat)
  case atStart => exact ⟨0, by omega, rfl, Filled.made w _ _ _ (size_madeCells _ _), (Mod.refl _ w).alloc _⟩
  case round =>
    obtain ⟨k, hk, rfl, hF, hM⟩ := hrel
    clear hmk
    by_cases hlt : k < l.length
    · obtain ⟨b, o, x, r, rfl, hb, hbw, hx, hr, hrl, hc⟩ := (H.out.mod hM (fun _ _ f => f) (fun _ _ h => h)).get hlt
      obtain rfl : r = x.cells := hr
      have c0 : wr.cell? ⟨b, o + k * 5, none⟩ = _ := hc 0 _ rfl
      have c1 : wr.cell? ⟨b, o + k * 5 + 1, none⟩ = _ := hc 1 _ rfl
      have c2 : wr.cell? ⟨b, o + k * 5 + 2, none⟩ = _ := hc 2 _ rfl
      have c3 : wr.cell? ⟨b, o + k * 5 + 3, none⟩ = _ := hc 3 _ rfl
      have c4 : wr.cell? ⟨b, o + k * 5 + 4, none⟩ = _ := hc 4 _ rfl
      clear hc hrl
      go_wp2_with fail
      refine (toFrame_any x _).mono ?_
      rintro e w1 ⟨rfl, hm1⟩
      have hF1 := hF.mod hm1 (fun f => f)
      obtain ⟨v0, d0⟩ := hF1.cell (off := k * 5) (by omega)
      obtain ⟨v1, d1⟩ := hF1.cell (off := k * 5 + 1) (by omega)
      obtain ⟨v2, d2⟩ := hF1.cell (off := k * 5 + 2) (by omega)
      obtain ⟨v3, d3⟩ := hF1.cell (off := k * 5 + 3) (by omega)
      obtain ⟨v4, d4⟩ := hF1.cell (off := k * 5 + 4) (by omega)
      have z0 := hF1.free (k * 5)
      have z1 := hF1.free (k * 5 + 1)
      have z2 := hF1.free (k * 5 + 2)
      have z3 := hF1.free (k * 5 + 3)
      have z4 := hF1.free (k * 5 + 4)
      go_wp2
      go_roundw
      case rel =>
        refine ⟨k + 1, by omega, by go_num, ?_, ?_⟩
        · have hl0 := flat_length (cells := Frame.cells) (sz := 5) (fun _ => rfl) (l.take k)
          rw [take_length_of_lt hk] at hl0
          rw [flat_succ hx]
          have e : ∀ s : List Value, s ++ x.cells = s ++ [.int .i64 x.node] ++ [.int .i64 x.x] ++ [.int .i64 x.y] ++ [.int .i64 x.wide] ++ [.int .i64 x.high] := by intro s; simp [Frame.cells]
          rw [e]
          generalize ((l.take k).map Frame.cells).flatten = s at hF1 hl0
          exact (((((hF1.push (off := k * 5) (by simp [hl0]) (by omega) _).push (off := k * 5 + 1) (by simp [hl0]) (by omega) _).push (off := k * 5 + 2) (by simp [hl0]) (by omega) _).push (off := k * 5 + 3) (by simp [hl0]) (by omega) _).push (off := k * 5 + 4) (by simp [hl0]) (by omega) _)
        · have hM1 := hM.thenNone hm1
          (repeat (first | with_reducible exact Mod.refl _ _ | with_reducible refine Mod.drewN ?_ _ | with_reducible refine Mod.drew ?_ | with_reducible refine Mod.alloc ?_ _ | ((with_reducible refine Mod.setNew ?_ ?_ _ _ _); (rotate_left; omega)) | with_reducible refine Mod.setAt ?_ _ _ _ | with_reducible exact hM1 | with_reducible refine Mod.thenNone ?_ hM1 ))
      case measure => simp [intOf]; omega
    · have hk' : k = l.length := by omega
      subst hk'
      go_wp2
      go_ret
      refine ⟨w.heap.size, rfl, Nat.le_refl _, ?_, hM⟩
      rw [List.take_length] at hF
      exact hF.full (flat_length (cells := Frame.cells) (sz := 5) (fun _ => rfl) l)

set_option maxRecDepth 100000 in
set_option maxHeartbeats 1000000 in
theorem eqFrameS_any (l m : List Frame) (a a' : Option Addr) (c c' : Nat) (R S : Nat → Prop) (w : World) (hl : l.length ≤ 9223372036854775807) (_hm : m.length ≤ 9223372036854775807) (h : SliceAt (Flat Frame.cells) 5 R w a l) (h' : SliceAt (Flat Frame.cells) 5 S w a' m) :
    Calls Try.prog 21 #[.slice a l.length c, .slice a' m.length c'] w fun e w' => e = .returned (.bool (decide (l = m))) ∧ Mod (fun _ => False) w w' := by
  have H := hid h
  have H' := hid h'
  clear h h'
  by_cases hlen : l.length = m.length
  · have hn0 : ((l.length : Int) != (m.length : Int)) = false := by simp [hlen]
    have hn1 : l.length ≤ m.length := by omega
    have hn2 : m.length ≤ l.length := by omega
    clear hlen
    go_enter Try.func21, Try.ntmps21
    go_wp2
    go_loopw [5] (fun i wr => ∃ k : Nat, k ≤ l.length ∧ i = .int .i64 k ∧ SameTo l m k ∧ Mod (fun _ => False) w wr) (fun i _ => l.length - (intOf i).toNat)
    case atStart => exact ⟨0, by omega, rfl, rfl, Mod.refl _ _⟩
    case round =>
      obtain ⟨k, hk, rfl, hsame, hmod⟩ := hrel
      by_cases hlt : k < l.length
      · obtain ⟨b, o, x, r, rfl, hb, hbw, hx, hr, hrl, hc⟩ := (H.out.mod hmod (fun _ _ f => f) (fun _ _ h => h)).get hlt
        obtain rfl : r = x.cells := hr
        obtain ⟨b', o', y, r', rfl, hb', hbw', hy, hr', hrl', hd⟩ := (H'.out.mod hmod (fun _ _ f => f) (fun _ _ h => h)).get (show k < m.length by omega)
        obtain rfl : r' = y.cells := hr'
        have hlt2 : k < m.length := by omega
        have c0 : wr.cell? ⟨b, o + k * 5, none⟩ = _ := hc 0 _ rfl
        have d0 : wr.cell? ⟨b', o' + k * 5, none⟩ = _ := hd 0 _ rfl
        have c1 : wr.cell? ⟨b, o + k * 5 + 1, none⟩ = _ := hc 1 _ rfl
        have d1 : wr.cell? ⟨b', o' + k * 5 + 1, none⟩ = _ := hd 1 _ rfl
        have c2 : wr.cell? ⟨b, o + k * 5 + 2, none⟩ = _ := hc 2 _ rfl
        have d2 : wr.cell? ⟨b', o' + k * 5 + 2, none⟩ = _ := hd 2 _ rfl
        have c3 : wr.cell? ⟨b, o + k * 5 + 3, none⟩ = _ := hc 3 _ rfl
        have d3 : wr.cell? ⟨b', o' + k * 5 + 3, none⟩ = _ := hd 3 _ rfl
        have c4 : wr.cell? ⟨b, o + k * 5 + 4, none⟩ = _ := hc 4 _ rfl
        have d4 : wr.cell? ⟨b', o' + k * 5 + 4, none⟩ = _ := hd 4 _ rfl
        clear hc hd hrl hrl'
        by_cases hxy : x = y
        · have hd : decide (x = y) = true := decide_eq_true hxy
          have Hxy := hid hxy
          clear hxy
          go_wp2
          go_still_tail 8, (by kernel_rfl)
          go_wp2_with fail
          refine (eqFrame_any x y _).mono ?_
          rintro e w1 ⟨rfl, hm1⟩
          go_wp2
          go_roundw
          case rel => exact ⟨k + 1, by omega, by go_num, hsame.succ hx (Hxy.out ▸ hy), hmod.drew.thenNone hm1⟩
          case measure => simp [intOf]; omega
        · have hd : decide (x = y) = false := decide_eq_false hxy
          go_wp2
          go_still_tail 8, (by kernel_rfl)
          go_wp2_with fail
          refine (eqFrame_any x y _).mono ?_
          rintro e w1 ⟨rfl, hm1⟩
          go_wp2
          go_ret
          exact ⟨ret_bool (decide_eq_false (ne_at hx hy hxy)).symm, hmod.drew.thenNone hm1⟩
      · go_wp2
        go_ret
        exact ⟨ret_bool (decide_eq_true (hsame.all (by omega) (by omega))).symm, hmod⟩
  · have hn0 : ((l.length : Int) != (m.length : Int)) = true := by simp; omega
    have hne : l ≠ m := fun h => hlen (by rw [h])
    clear hlen
    go_enter Try.func21, Try.ntmps21
    go_wp2
    go_ret
    exact ⟨ret_bool (decide_eq_false hne).symm, Mod.refl _ _⟩

/-- A marked element's cells, its first mark q. -/
def Frame.marked (q : Int) : List Value := [.int .i64 (q), .int .i64 (q + 1), .int .i64 (q + 1 + 1), .int .i64 (q + 1 + 1 + 1), .int .i64 (q + 1 + 1 + 1 + 1)]
def Frame.marks (q : Int) : Nat → List Value
  | 0 => []
  | k + 1 => Frame.marks q k ++ Frame.marked (q + k * 5)
theorem Frame.marks_length (q : Int) (k : Nat) : (Frame.marks q k).length = k * 5 := by
  induction k with
  | zero => simp [Frame.marks]
  | succ k ih => simp [Frame.marks, Frame.marked, ih]; omega

set_option maxRecDepth 100000 in
set_option maxHeartbeats 1000000 in
theorem markFrameS_any (n c : Nat) (a : Option Addr) (g N : Nat) (w : World) (q0 : Int) (hq0 : 0 ≤ q0) (hq1 : q0 ≤ 1000000000000000) (hn : n ≤ 1048576) (h : n = 0 ∨ a = some ⟨g, 0, none⟩ ∧ n * 5 ≤ N ∧ Filled g 69 N w []) :
    Calls Try.prog 24 #[.slice a n c, .int .i64 q0] w fun e w' => e = .returned (.int .i64 (q0 + n * 5)) ∧ Mod (fun k => k = g) w w' ∧ (n = 0 ∨ Filled g 69 N w' (Frame.marks q0 n)) := by
  have H := hid h
  clear h
  go_enter Try.func24, Try.ntmps24
  go_wp2
  go_loopw [1, 5] (fun z i wr => ∃ (k : Nat) (q : Int), k ≤ n ∧ z = .int .i64 q ∧ Hid (q = q0 + k * 5) ∧ 0 ≤ q ∧ q ≤ 10000000000000000 ∧ i = .int .i64 k ∧ Mod (fun k => k = g) w wr ∧ (n = 0 ∨ Filled g 69 N wr (Frame.marks q0 k))) (fun _ i _ => n - (intOf i).toNat)
  case atStart =>
    refine ⟨0, q0, by omega, rfl, by show q0 = q0 + _; omega, by omega, by omega, rfl, Mod.refl _ _, ?_⟩
    rcases H.out with h | ⟨_, _, h⟩
    · exact .inl h
    · exact .inr h
  case round =>
    obtain ⟨k, q, hk, rfl, hq, q1, q2, rfl, hM, hF0⟩ := hrel
    by_cases hlt : k < n
    · rcases H.out with h | ⟨rfl, hN, _⟩
      · omega
      have hF := hF0.resolve_left (by omega)
      have hl0 := Frame.marks_length q0 k
      clear hF0
      obtain ⟨v0, d0⟩ := hF.cell (off := k * 5) (by omega)
      have z0 := hF.free (k * 5)
      obtain ⟨v1, d1⟩ := hF.cell (off := k * 5 + 1) (by omega)
      have z1 := hF.free (k * 5 + 1)
      obtain ⟨v2, d2⟩ := hF.cell (off := k * 5 + 2) (by omega)
      have z2 := hF.free (k * 5 + 2)
      obtain ⟨v3, d3⟩ := hF.cell (off := k * 5 + 3) (by omega)
      have z3 := hF.free (k * 5 + 3)
      obtain ⟨v4, d4⟩ := hF.cell (off := k * 5 + 4) (by omega)
      have z4 := hF.free (k * 5 + 4)
      have HF := hid hF
      have Hl0 := hid hl0
      clear hF hl0
      go_wp2
      go_roundw
      case rel =>
        have hF := HF.out
        have hl0 := Hl0.out
        have hq' := hq.out
        refine ⟨k + 1, q + 1 + 1 + 1 + 1 + 1, by omega, rfl, by show q + 1 + 1 + 1 + 1 + 1 = _; omega, by omega, by omega, by go_num, by (repeat (first | with_reducible exact Mod.refl _ _ | with_reducible refine Mod.drewN ?_ _ | with_reducible refine Mod.drew ?_ | with_reducible refine Mod.alloc ?_ _ | ((with_reducible refine Mod.setNew ?_ ?_ _ _ _); (rotate_left; omega)) | with_reducible refine Mod.setAt ?_ _ _ _ | with_reducible exact hM | with_reducible refine Mod.thenNone ?_ hM )), .inr ?_⟩
        have e : Frame.marks q0 (k + 1) = Frame.marks q0 k ++ [.int .i64 (q)] ++ [.int .i64 (q + 1)] ++ [.int .i64 (q + 1 + 1)] ++ [.int .i64 (q + 1 + 1 + 1)] ++ [.int .i64 (q + 1 + 1 + 1 + 1)] := by
          simp [Frame.marks, Frame.marked, ← hq']
        rw [e]
        exact (((((hF.push (off := k * 5) (by simp [hl0]) (by omega) _).push (off := k * 5 + 1) (by simp [hl0]) (by omega) _).push (off := k * 5 + 2) (by simp [hl0]) (by omega) _).push (off := k * 5 + 3) (by simp [hl0]) (by omega) _).push (off := k * 5 + 4) (by simp [hl0]) (by omega) _)
      case measure => simp [intOf]; omega
    · have hk' : k = n := by omega
      subst hk'
      go_wp2
      go_ret
      exact ⟨ret_int hq.out, hM, hF0⟩

theorem Frame.marks_at (q0 : Int) (n k j : Nat) (v : Value) (hk : k < n) (hj : (Frame.marked (q0 + k * 5))[j]? = some v) : (Frame.marks q0 n)[k * 5 + j]? = some v := by
  have hjl : j < 5 := by
    have := (List.getElem?_eq_some_iff.1 hj).1
    simpa [Frame.marked] using this
  induction n with
  | zero => omega
  | succ n ih =>
    have hl := Frame.marks_length q0 n
    unfold Frame.marks
    by_cases e : k = n
    · subst e
      rw [List.getElem?_append_right (by omega), hl, Nat.add_sub_cancel_left]
      exact hj
    · rw [List.getElem?_append_left (by rw [hl]; omega)]
      exact ih (by omega)
theorem Frame.marks_cell {g e N n k : Nat} {w : World} {q0 q : Int} (hF : Filled g e N w (Frame.marks q0 n)) (hk : k < n) (hq : Hid (q = q0 + k * 5)) (j : Nat) (v : Value) (hj : (Frame.marked q)[j]? = some v) : w.cell? ⟨g, k * 5 + j, none⟩ = some v :=
  hF.read (Frame.marks_at q0 n k j v hk (by rw [← hq.out]; exact hj))

set_option maxRecDepth 100000 in
set_option maxHeartbeats 1000000 in
theorem heldFrameS_any (n c : Nat) (a : Option Addr) (g N : Nat) (w : World) (q0 : Int) (hq0 : 0 ≤ q0) (hq1 : q0 ≤ 1000000000000000) (hn : n ≤ 1048576) (h : n = 0 ∨ a = some ⟨g, 0, none⟩ ∧ n * 5 ≤ N ∧ Filled g 69 N w (Frame.marks q0 n)) :
    Calls Try.prog 27 #[.slice a n c, .int .i64 q0] w fun e w' => e = .returned (.int .i64 (q0 + n * 5)) ∧ Mod (fun _ => False) w w' := by
  have H := hid h
  clear h
  go_enter Try.func27, Try.ntmps27
  go_wp2
  go_loop [1, 5] (fun z i => ∃ (k : Nat) (q : Int), k ≤ n ∧ z = .int .i64 q ∧ Hid (q = q0 + k * 5) ∧ 0 ≤ q ∧ q ≤ 10000000000000000 ∧ i = .int .i64 k) (fun _ i => n - (intOf i).toNat)
  case atStart => exact ⟨0, q0, by omega, rfl, by show q0 = q0 + _; omega, by omega, by omega, rfl⟩
  case round =>
    obtain ⟨k, q, hk, rfl, hq, q1, q2, rfl⟩ := hrel
    by_cases hlt : k < n
    · rcases H.out with h | ⟨rfl, hN, hF⟩
      · omega
      have hc := Frame.marks_cell hF hlt hq
      have c0 := hc 0 _ rfl
      have c1 := hc 1 _ rfl
      have c2 := hc 2 _ rfl
      have c3 := hc 3 _ rfl
      have c4 := hc 4 _ rfl
      simp only [Nat.add_zero] at c0
      clear hc hF
      go_wp2
      go_round
      case rel => exact ⟨k + 1, q + 1 + 1 + 1 + 1 + 1, by omega, rfl, by have := hq.out; show q + 1 + 1 + 1 + 1 + 1 = _; omega, by have := hq.out; omega, by have := hq.out; omega, by go_num⟩
      case measure => simp [intOf]; omega
    · have hk' : k = n := by omega
      subst hk'
      go_wp2
      go_ret
      exact ⟨ret_int hq.out, Mod.refl _ _⟩

end Go.Proofs.Ytkkjjhooamlljaa
namespace Go.Proofs.Ytkkjjhooamlljaa
open Go.RowKit
set_option linter.unusedVariables false
set_option linter.unusedSimpArgs false

/-- Operation k comes up: not before; whom it waits for have come; who has come up had its own behind it. -/
structure Adm (ops : Array Oper) (d : Nat → Bool) (k : Nat) : Prop where
  not : d k = false
  pre : ∀ i ∈ reach ops ops.size k, d i = true
  clo : ∀ j, d j = true → ∀ i ∈ reach ops ops.size j, d i = true
def upd (d : Nat → Bool) (k : Nat) : Nat → Bool := fun j => Nat.beq j k || d j
def upx (x : Nat → Value) (k : Nat) (v : Value) : Nat → Value := fun j => bif Nat.beq j k then v else x j
theorem Adm.done {ops : Array Oper} {d : Nat → Bool} {k : Nat} (h : Adm ops d k) (i : Nat) (hi : (reach ops ops.size k).contains i = true) : d i = true := h.pre i (by simpa using hi)
/-- Who waits for k has not come up. -/
theorem Adm.later {ops : Array Oper} {d : Nat → Bool} {k : Nat} (h : Adm ops d k) (j : Nat) (hj : (reach ops ops.size j).contains k = true) : d j = false := by
  cases hq : d j with
  | false => rfl
  | true =>
    have := h.clo j hq k (by simpa using hj)
    rw [h.not] at this
    cases this

/-- The walk in the text's order. d: who has come up; x: what the operations gave, by their number. -/
inductive RG (P : Program) (ops : Array Oper) (S : (Nat → Bool) → (Nat → Value) → World → Prop) (Q : Exit → Act → World → Prop) : Nat → List Oper → ((Nat → Value) → Act) → Prop
  | done {k : Nat} {F : (Nat → Value) → Act} (h : ∀ x w, S (fun i => Nat.blt i k) x w → Q .normal (F x) w) : RG P ops S Q k [] F
  | skip {k : Nat} {o : Oper} {rest : List Oper} {F : (Nat → Value) → Act} (hw : ∀ x, Region.wanted o (yielded ops (F x).tmps) = false) (hs : ∀ d x w, S d x w → S (upd d k) x w)
      (h : RG P ops S Q (k + 1) rest (fun x => (F x).put o.dst undef)) : RG P ops S Q k (o :: rest) F
  | val {k : Nat} {o : Oper} {rest : List Oper} {F : (Nat → Value) → Act} (us : List Nat) (g : (Nat → Value) → Value)
      (hus : (us.all fun i => (reach ops ops.size k).contains i) = true) (hg : ∀ x y, (∀ i ∈ us, x i = y i) → g x = g y)
      (hw : ∀ x, Region.wanted o (yielded ops (F x).tmps) = true)
      (ho : ∀ d x w, Adm ops d k → S d x w → o.wp P (F x) w (fun a' w' => a' = (F x).put o.dst (g x) ∧ S (upd d k) x w') never)
      (h : RG P ops S Q (k + 1) rest (fun x => (F x).put o.dst (g x))) : RG P ops S Q k (o :: rest) F
  | new {k : Nat} {o : Oper} {rest : List Oper} {F : (Nat → Value) → Act}
      (hw : ∀ x, Region.wanted o (yielded ops (F x).tmps) = true)
      (ho : ∀ d x w, Adm ops d k → S d x w → o.wp P (F x) w (fun a' w' => ∃ v, a' = (F x).put o.dst v ∧ S (upd d k) (upx x k v) w') never)
      (h : RG P ops S Q (k + 1) rest (fun x => (F x).put o.dst (x k))) : RG P ops S Q k (o :: rest) F

section
variable {P : Program} {ops : Array Oper} {S : (Nat → Bool) → (Nat → Value) → World → Prop} {Q : Exit → Act → World → Prop}
/-- What the walk says of one operation. -/
def SpecG (P : Program) (ops : Array Oper) (S : (Nat → Bool) → (Nat → Value) → World → Prop) (k : Nat) (o : Oper) (A : (Nat → Value) → Act) (g : (Nat → Value) → Value) : Prop :=
  ((∀ x, Region.wanted o (yielded ops (A x).tmps) = false) ∧ g = (fun _ => undef) ∧ ∀ d x w, S d x w → S (upd d k) x w) ∨
  (∃ us : List Nat, (∀ i ∈ us, i ∈ reach ops ops.size k) ∧ (∀ x y, (∀ i ∈ us, x i = y i) → g x = g y) ∧ (∀ x, Region.wanted o (yielded ops (A x).tmps) = true) ∧
    ∀ d x w, Adm ops d k → S d x w → o.wp P (A x) w (fun a' w' => a' = (A x).put o.dst (g x) ∧ S (upd d k) x w') never) ∨
  (g = (fun x => x k) ∧ (∀ x, Region.wanted o (yielded ops (A x).tmps) = true) ∧
    ∀ d x w, Adm ops d k → S d x w → o.wp P (A x) w (fun a' w' => ∃ v, a' = (A x).put o.dst v ∧ S (upd d k) (upx x k v) w') never)

theorem RG.out {k : Nat} {rest : List Oper} {F : (Nat → Value) → Act} (h : RG P ops S Q k rest F) :
    ∀ (a0 : Act) (G0 : Nat → (Nat → Value) → Value), (∀ j, j < rest.length → rest[j]? = ops[k + j]?) → F = (fun x => frm ops a0 G0 x k) →
    ∃ (G : Nat → (Nat → Value) → Value), (∀ i, i < k → G i = G0 i) ∧
      (∀ i o, k ≤ i → i < k + rest.length → ops[i]? = some o → SpecG P ops S i o (fun x => frm ops a0 G x i) (G i)) ∧
      (∀ x w, S (fun i => Nat.blt i (k + rest.length)) x w → Q .normal (frm ops a0 G x (k + rest.length)) w) := by
  have frmEq : ∀ (a0 : Act) (G G' : Nat → (Nat → Value) → Value) (m : Nat), (∀ i, i < m → G i = G' i) → ∀ x, frm ops a0 G x m = frm ops a0 G' x m := by
    intro a0 G G' m
    induction m with
    | zero => intro _ _; rfl
    | succ m ih => intro hG x; simp only [frm]; rw [ih (fun i hi => hG i (by omega)) x, hG m (by omega)]
  have more : ∀ (k : Nat) (o : Oper) (rest : List Oper) (g : (Nat → Value) → Value) (a0 : Act) (G0 : Nat → (Nat → Value) → Value),
      (∀ j, j < (o :: rest).length → (o :: rest)[j]? = ops[k + j]?) → SpecG P ops S k o (fun x => frm ops a0 G0 x k) g →
      (∀ (a1 : Act) (G1 : Nat → (Nat → Value) → Value), (∀ j, j < rest.length → rest[j]? = ops[k + 1 + j]?) → (fun x => (frm ops a0 G0 x k).put o.dst (g x)) = (fun x => frm ops a1 G1 x (k + 1)) →
        ∃ (G : Nat → (Nat → Value) → Value), (∀ i, i < k + 1 → G i = G1 i) ∧
          (∀ i o, k + 1 ≤ i → i < k + 1 + rest.length → ops[i]? = some o → SpecG P ops S i o (fun x => frm ops a1 G x i) (G i)) ∧
          (∀ x w, S (fun i => Nat.blt i (k + 1 + rest.length)) x w → Q .normal (frm ops a1 G x (k + 1 + rest.length)) w)) →
      ∃ (G : Nat → (Nat → Value) → Value), (∀ i, i < k → G i = G0 i) ∧
        (∀ i o', k ≤ i → i < k + (o :: rest).length → ops[i]? = some o' → SpecG P ops S i o' (fun x => frm ops a0 G x i) (G i)) ∧
        (∀ x w, S (fun i => Nat.blt i (k + (o :: rest).length)) x w → Q .normal (frm ops a0 G x (k + (o :: rest).length)) w) := by
    intro k o rest g a0 G0 hr hsp ih
    have ho : ops[k]? = some o := by simpa using (hr 0 (by simp)).symm
    have hd : dstOf ops k = o.dst := by simp [dstOf, ho]
    let G1 : Nat → (Nat → Value) → Value := fun i => if i = k then g else G0 i
    have g1 : ∀ i, i < k → G1 i = G0 i := fun i hi => if_neg (by omega)
    have gk : G1 k = g := if_pos rfl
    obtain ⟨G, e1, e2, e3⟩ := ih a0 G1 (fun j hj => by have := hr (j + 1) (by simp; omega); simpa [Nat.add_assoc, Nat.add_comm 1 j] using this)
      (by funext x; simp only [frm, gk, hd]; rw [frmEq a0 G1 G0 k g1 x])
    refine ⟨G, fun i hi => (e1 i (by omega)).trans (g1 i hi), fun i o' hi hlt ho' => ?_, by simpa [Nat.add_assoc, Nat.add_comm 1] using e3⟩
    by_cases e : i = k
    · subst e
      obtain rfl : o = o' := by rw [ho] at ho'; simpa using ho'
      have fe := frmEq a0 G G0 i (fun j hj => (e1 j (by omega)).trans (g1 j hj))
      have ge : G i = g := (e1 i (by omega)).trans gk
      rw [ge, show (fun x => frm ops a0 G x i) = fun x => frm ops a0 G0 x i from funext fe]
      exact hsp
    · exact e2 i o' (by omega) (by simp only [List.length_cons] at hlt; omega) ho'
  induction h with
  | @done k F h =>
    intro a0 G0 hr hF
    subst hF
    exact ⟨G0, fun i _ => rfl, fun i o hi hlt ho => by simp at hlt; omega, h⟩
  | @skip k o rest F hw hs h ih =>
    intro a0 G0 hr hF
    subst hF
    exact more k o rest (fun _ => undef) a0 G0 hr (.inl ⟨hw, rfl, hs⟩) ih
  | @val k o rest F us g hus hg hw hop h ih =>
    intro a0 G0 hr hF
    subst hF
    exact more k o rest g a0 G0 hr (.inr (.inl ⟨us, contains_all hus, hg, hw, hop⟩)) ih
  | @new k o rest F hw hop h ih =>
    intro a0 G0 hr hF
    subst hF
    exact more k o rest (fun x => x k) a0 G0 hr (.inr (.inr ⟨rfl, hw, hop⟩)) ih

/-- WHATEVER ORDER of the first n: the walk in the text's order serves; behind them the rest goes in its own order. -/
theorem RG.any {n : Nat} {a0 : Act} {w0 : World} (hc : regOkTo n ops = true) (ht : n = ops.size ∨ tailOk ops n = true) (h : RG P ops S (fun _ a w => wpList P ops Q (ops.toList.drop n) a w) 0 (ops.toList.take n) (fun _ => a0)) (hS : S (fun _ => false) (fun _ => undef) w0) :
    wpAny P .any ops Q ops.size (Array.replicate ops.size false) a0 w0 := by
  obtain ⟨c1, c2, c3, c4⟩ := regOk_spec hc
  have hnle : n ≤ ops.size := by
    rcases ht with rfl | ht
    · exact Nat.le_refl _
    · simp only [tailOk, Bool.and_eq_true, decide_eq_true_eq] at ht
      omega
  have htn : 0 + (ops.toList.take n).length = n := by simp; omega
  obtain ⟨G, _, hspec, hfin⟩ := h.out a0 (fun _ _ => undef) (fun j hj => by
    have hj' : j < n := by omega
    simp [hj']) rfl
  rw [htn] at hfin
  have gdep : ∀ i o, i < n → ops[i]? = some o → ∀ x y, (∀ j, (j ∈ reach ops ops.size i ∨ j = i) → x j = y j) → G i x = G i y := fun i o hin ho x y hxy => by
    have hs := hspec i o (Nat.zero_le _) (by rw [htn]; exact hin) ho
    rcases hs with ⟨_, hg, _⟩ | ⟨us, hus, hg, _⟩ | ⟨hg, _⟩
    · rw [hg]
    · exact hg x y fun j hj => hxy j (.inl (hus j hj))
    · rw [hg]; show x i = y i; rw [hxy i (.inr rfl)]
  have main : ∀ (fuel : Nat) (listed : Array Bool) (a : Act) (w : World) (x : Nat → Value), listed.size = ops.size → (unlistedTo n listed).length = fuel →
      (∀ i, listed.getD i false = true → ∀ o, ops[i]? = some o → ∀ e ∈ o.after, Region.binds .any e = true → listed.getD e.on false = true) →
      (∀ t, n ≤ t → t < ops.size → listed.getD t true = false) →
      Laid ops a0 G x (fun i => listed.getD i false = true) a → S (fun i => listed.getD i false) x w → wpAny P .any ops Q (fuel + (ops.size - n)) listed a w := by
    intro fuel
    induction fuel with
    | zero =>
      intro listed a w x hsz hfu hcl htl hla hSw
      have hall : ∀ i, i < n → listed.getD i false = true := fun i hi => by
        have h0 : unlistedTo n listed = [] := List.eq_nil_of_length_eq_zero hfu
        by_cases hn' : listed.getD i false = true
        · exact hn'
        · have : i ∈ unlistedTo n listed := by
            unfold unlistedTo
            rw [List.mem_filter, List.mem_range]
            have hi' : i < listed.size := by omega
            simp only [Array.getD_eq_getD_getElem?, Array.getElem?_eq_getElem hi', Option.getD_some, Bool.not_eq_true] at hn' ⊢
            exact ⟨hi, by rw [hn']; rfl⟩
          rw [h0] at this; simp at this
      have hon : ∀ i, listed.getD i false = true → i < n := fun i hi => by
        by_cases h : i < n
        · exact h
        · by_cases h2 : i < ops.size
          · have := getD_both (htl i (Nat.le_of_not_lt h) h2)
            rw [this] at hi; cases hi
          · rw [Array.getD_eq_getD_getElem?, Array.getElem?_eq_none (by omega)] at hi; cases hi
      have eL : listed = headDone n ops.size := by
        have hds : (headDone n ops.size).size = ops.size := by simp [headDone]; omega
        apply Array.ext (by rw [hds, hsz])
        intro i h1 h2
        have e1 : listed.getD i false = listed[i] := by simp [h1]
        by_cases hi : i < n
        · have := hall i hi
          rw [e1] at this
          rw [this]
          simp [headDone, hi]
        · have := getD_both (htl i (Nat.le_of_not_lt hi) (by omega))
          rw [e1] at this
          rw [this]
          simp [headDone, Array.getElem_append, hi]
      have e : a = frm ops a0 G x n := by
        have hb := laid_frm hc a0 G x n (by omega)
        have ht : a.tmps = (frm ops a0 G x n).tmps := by
          apply Array.ext_getElem?
          intro t
          by_cases hs : t < a0.tmps.size
          · by_cases he : ∃ i, i < n ∧ dstOf ops i = some t
            · obtain ⟨i, hin, hi⟩ := he
              rw [hla.on i t (hall i hin) hi hs, hb.on i t hin hi hs]
            · rw [hla.off t (fun i hli hi => he ⟨i, hon i hli, hi⟩), hb.off t (fun i hin hi => he ⟨i, hin, hi⟩)]
          · rw [Array.getElem?_eq_none (by rw [hla.size]; exact Nat.le_of_not_lt hs), Array.getElem?_eq_none (by rw [hb.size]; exact Nat.le_of_not_lt hs)]
        have hd : a.defers = (frm ops a0 G x n).defers := hla.defers.trans hb.defers.symm
        cases a; cases hf : frm ops a0 G x n
        rw [hf] at ht hd
        simp only at ht hd
        rw [ht, hd]
      have hlen : (ops.toList.drop n).length = ops.size - n := by simp
      have ed : (fun i => listed.getD i false) = fun i => Nat.blt i n := by
        funext i
        by_cases hi : i < n
        · rw [hall i hi]
          exact (show Nat.blt i n = true by simpa using hi).symm
        · have h1 : listed.getD i false = false := by
            cases hq : listed.getD i false with
            | false => rfl
            | true => exact (hi (hon i hq)).elim
          rw [h1]
          cases hq : Nat.blt i n with
          | false => rfl
          | true => exact (hi (by simpa using hq)).elim
      have hw := hfin x w (ed ▸ hSw)
      rw [← e] at hw
      rcases ht with rfl | ht
      · have e0 : ops.toList.drop ops.size = [] := List.drop_eq_nil_of_le (by simp)
        rw [e0] at hw
        rw [Nat.zero_add, Nat.sub_self]
        refine ⟨?_, hw⟩
        cases hr : Region.ready .any ops listed with
        | nil => rfl
        | cons i rest =>
          have hi : i ∈ Region.ready .any ops listed := by rw [hr]; exact List.mem_cons_self
          obtain ⟨h1, o, ho, _⟩ := mem_ready.1 hi
          have hlt := (Array.getElem?_eq_some_iff.1 ho).1
          have h2 := hall i hlt
          have hi' : i < listed.size := by omega
          simp only [Array.getD_eq_getD_getElem?, Array.getElem?_eq_getElem hi', Option.getD_some] at h1 h2
          rw [h1] at h2; cases h2
      · simp only [tailOk, Bool.and_eq_true, decide_eq_true_eq] at ht
        obtain ⟨⟨⟨hn, hs1⟩, hs2⟩, hs3⟩ := ht
        have := wpAny_of_seq (md := .any) (ops.toList.drop n) n listed a w (fun j => by simp [List.getElem?_drop]) (by rw [hlen, eL]; exact hs3) hw
        rw [hlen] at this
        rw [Nat.zero_add]
        exact this
    | succ fuel ih =>
      intro listed a w x hsz hfu hcl htl hla hSw
      have inv : HeadInv .any ops n listed := ⟨hsz, fun j oj hj hl e he hb => hcl j hl oj hj e he hb, htl⟩
      obtain ⟨j0, hj0⟩ : ∃ j0, j0 < n ∧ listed.getD j0 true = false := by
        cases hu : unlistedTo n listed with
        | nil => rw [hu] at hfu; cases hfu
        | cons j r =>
          have : j ∈ unlistedTo n listed := by rw [hu]; exact List.mem_cons_self
          unfold unlistedTo at this
          rw [List.mem_filter, List.mem_range] at this
          exact ⟨j, this.1, by simpa using this.2⟩
      have lt_of_listed : ∀ j, listed.getD j false = true → j < n := fun i hi => by
        by_cases h : i < n
        · exact h
        · by_cases h2 : i < ops.size
          · have := getD_both (htl i (Nat.le_of_not_lt h) h2)
            rw [this] at hi; cases hi
          · rw [Array.getD_eq_getD_getElem?, Array.getElem?_eq_none (by omega)] at hi; cases hi
      -- an operation that comes up
      have step : ∀ i ∈ Region.ready .any ops listed, wpOp P ops Q i (wpAny P .any ops Q (fuel + (ops.size - n)) (listed.setIfInBounds i true)) a w := by
        intro i hi
        have hin : i < n := by
          by_cases h : i < n
          · exact h
          · rcases ht with rfl | ht
            · obtain ⟨_, o, ho, _⟩ := mem_ready.1 hi
              exact (Array.getElem?_eq_some_iff.1 ho).1
            · simp only [tailOk, Bool.and_eq_true, decide_eq_true_eq] at ht
              obtain ⟨⟨⟨hn, hs1⟩, hs2⟩, hs3⟩ := ht
              exact (tail_waits hs1 hs2 hn inv (n - j0) j0 rfl hj0.1 hj0.2 i (Nat.le_of_not_lt h) hi).elim
        obtain ⟨h1, o, ho, h2⟩ := mem_ready.1 hi
        have hlt := (Array.getElem?_eq_some_iff.1 ho).1
        have hli : i < listed.size := by omega
        have hun : listed.getD i false = false := by
          simp only [Array.getD_eq_getD_getElem?, Array.getElem?_eq_getElem hli, Option.getD_some] at h1 ⊢
          exact h1
        have hd : dstOf ops i = o.dst := by simp [dstOf, ho]
        have hset : ∀ j, (listed.setIfInBounds i true).getD j false = true ↔ listed.getD j false = true ∨ j = i := fun j => by
          by_cases e : i = j
          · subst e; simp [hli]
          · rw [getD_set_ne false e]
            exact ⟨.inl, fun h => h.elim id fun h => (e h.symm).elim⟩
        have hcl' : ∀ j, (listed.setIfInBounds i true).getD j false = true → ∀ p, ops[j]? = some p → ∀ e ∈ p.after, Region.binds .any e = true → (listed.setIfInBounds i true).getD e.on false = true := fun j hj p hp e he hb => by
          rw [hset] at hj ⊢
          rcases hj with hj | rfl
          · exact .inl (hcl j hj p hp e he hb)
          · obtain rfl : o = p := by rw [ho] at hp; simpa using hp
            exact .inl (h2 e he hb)
        have hsz' : (listed.setIfInBounds i true).size = ops.size := by simpa using hsz
        have hfu' : (unlistedTo n (listed.setIfInBounds i true)).length = fuel := by
          have e : unlistedTo n (listed.setIfInBounds i true) = (unlistedTo n listed).erase i := by
            unfold unlistedTo
            rw [List.Nodup.erase_eq_filter (List.nodup_range.filter _), List.filter_filter]
            refine List.filter_congr fun j _ => ?_
            by_cases hj : i = j
            · subst hj; simp [hli]
            · rw [getD_set_ne true hj]; simp [Ne.symm hj]
          rw [e, List.length_erase_of_mem, hfu]
          · rfl
          · unfold unlistedTo
            rw [List.mem_filter, List.mem_range]
            exact ⟨hin, by rw [h1]; rfl⟩
        have htl' : ∀ t, n ≤ t → t < ops.size → (listed.setIfInBounds i true).getD t true = false := fun t ht ht' => by rw [getD_set_ne true (by omega)]; exact htl t ht ht'
        have hself : ∀ t ∈ o.looksAt ops, (∃ j, dstOf ops j = some t ∧ listed.getD j false = true ∧ j < i) ∨ ∀ j, dstOf ops j = some t → ¬ listed.getD j false = true ∧ ¬ j < i := fun t ht => by
          by_cases hex : ∃ j, j < n ∧ dstOf ops j = some t
          · obtain ⟨j, hjn, hj⟩ := hex
            obtain ⟨p, hp, hpt⟩ := Option.bind_eq_some_iff.1 hj
            obtain ⟨e, he, hb, rfl⟩ := c4 i j o p t hin hjn ho hp hpt ht
            exact .inl ⟨e.on, hj, h2 e he hb, c2 i o ho e he hb⟩
          · exact .inr fun j hj => ⟨fun hl => hex ⟨j, lt_of_listed j hl, hj⟩, fun hl => hex ⟨j, by omega, hj⟩⟩
        have hreach : ∀ j ∈ reach ops ops.size i, listed.getD j false = true :=
          reach_listed (L := fun j => listed.getD j false = true) hcl ops.size i (fun p hp e he hb => by
            obtain rfl : o = p := by rw [ho] at hp; simpa using hp
            exact h2 e he hb)
        have hdist : ∀ j t, listed.getD j false = true → dstOf ops j = some t → dstOf ops i = some t → j = i := fun j t _ hj hi' => by
          obtain ⟨p, hp, hpt⟩ := Option.bind_eq_some_iff.1 hj
          obtain ⟨q, hq, hqt⟩ := Option.bind_eq_some_iff.1 hi'
          exact c3 j i p q t (lt_of_listed j ‹_›) hin hp hq hqt hpt
        have hsel : ∀ cs c, o.op ≠ .select cs c := fun cs c => Region.noSelect_spec c1 i o cs c ho
        have hfr := laid_frm hc a0 G x i (by omega)
        obtain ⟨he, hwa⟩ := Laid.same hla hfr hsel hself
        have hlaid' : Laid ops a0 G x (fun j => (listed.setIfInBounds i true).getD j false = true) (a.put o.dst (G i x)) := by
          have := hla.put i hdist
          rw [hd] at this
          have e : (fun j => listed.getD j false = true ∨ j = i) = fun j => (listed.setIfInBounds i true).getD j false = true := funext fun j => propext (hset j).symm
          rwa [e] at this
        have hs := hspec i o (Nat.zero_le _) (by rw [htn]; omega) ho
        have adm : Adm ops (fun j => listed.getD j false) i := ⟨hun, hreach, fun j hj => reach_listed (L := fun j => listed.getD j false = true) hcl ops.size j (fun q hq e he hb => hcl j hj q hq e he hb)⟩
        have hupd : (fun j => (listed.setIfInBounds i true).getD j false) = upd (fun j => listed.getD j false) i := by
          funext j
          by_cases e : j = i
          · subst e
            rw [(hset j).2 (.inr rfl)]
            simp [upd]
          · rw [getD_set_ne false (fun h => e h.symm)]
            have e' : Nat.beq j i = false := Bool.eq_false_iff.2 fun h => e (Nat.eq_of_beq_eq_true h)
            simp [upd, e']
        unfold wpOp
        simp only [ho]
        rcases hs with ⟨hw, hg, hsk⟩ | ⟨us, hus, _, hw, hop⟩ | ⟨hg, hw, hop⟩
        · rw [hwa, hw x]
          simp only [Bool.false_eq_true, if_false]
          have hgu : G i x = undef := by rw [hg]
          rw [hgu] at hlaid'
          exact ih _ _ w x hsz' hfu' hcl' htl' hlaid' (by rw [hupd]; exact hsk _ _ _ hSw)
        · rw [hwa, hw x]
          simp only [if_true]
          refine .inl (Oper.wp_mono ?_ (upon_transfer (R := fun v w' => v = G i x ∧ S (upd (fun j => listed.getD j false) i) x w') (b := frm ops a0 G x i) (by rw [hla.size, hfr.size]) he ?_))
          · rintro a' w' ⟨v, rfl, rfl, hS'⟩
            exact ih _ _ w' x hsz' hfu' hcl' htl' hlaid' (by rw [hupd]; exact hS')
          · refine Oper.wp_mono ?_ (hop _ x w adm hSw)
            rintro a' w' ⟨h1, h2⟩
            exact ⟨_, h1, rfl, h2⟩
        · rw [hwa, hw x]
          simp only [if_true]
          refine .inl (Oper.wp_mono ?_ (upon_transfer (R := fun v w' => S (upd (fun j => listed.getD j false) i) (upx x i v) w') (b := frm ops a0 G x i) (by rw [hla.size, hfr.size]) he ?_))
          · rintro a' w' ⟨v, rfl, hS'⟩
            have yi : upx x i v i = v := by simp [upx]
            have yo : ∀ j, j ≠ i → upx x i v j = x j := fun j hj => by
              have e' : Nat.beq j i = false := Bool.eq_false_iff.2 fun h => hj (Nat.eq_of_beq_eq_true h)
              simp [upx, e']
            have hGy : ∀ j, listed.getD j false = true → ∀ p, ops[j]? = some p → G j (upx x i v) = G j x := fun j hj p hp => by
              refine gdep j p (lt_of_listed j hj) hp (upx x i v) x fun m hm => yo m fun e => ?_
              subst e
              rcases hm with hm | rfl
              · have := reach_listed (L := fun j => listed.getD j false = true) hcl ops.size j (fun q hq e he hb => hcl j hj q hq e he hb) m hm
                rw [this] at hun; cases hun
              · rw [hj] at hun; cases hun
            have hla' : Laid ops a0 G (upx x i v) (fun j => listed.getD j false = true) a := by
              refine ⟨hla.defers, hla.size, fun j t hj ht hs => ?_, hla.off⟩
              obtain ⟨p, hp, _⟩ := Option.bind_eq_some_iff.1 ht
              rw [hGy j hj p hp]
              exact hla.on j t hj ht hs
            have hlaid2 : Laid ops a0 G (upx x i v) (fun j => (listed.setIfInBounds i true).getD j false = true) (a.put o.dst v) := by
              have := hla'.put i hdist
              rw [hd, show G i (upx x i v) = v by rw [hg]; exact yi] at this
              have e : (fun j => listed.getD j false = true ∨ j = i) = fun j => (listed.setIfInBounds i true).getD j false = true := funext fun j => propext (hset j).symm
              rwa [e] at this
            exact ih _ _ w' (upx x i v) hsz' hfu' hcl' htl' hlaid2 (by rw [hupd]; exact hS')
          · refine Oper.wp_mono ?_ (hop _ x w adm hSw)
            rintro a' w' ⟨v, h1, h2⟩
            exact ⟨v, h1, h2⟩
      rw [show fuel + 1 + (ops.size - n) = (fuel + (ops.size - n)) + 1 by omega]
      refine ⟨fun hr => ?_, step⟩
      exfalso
      have hall : ∀ i, i < ops.size → listed.getD i false = true := by
        intro i
        induction i using Nat.strongRecOn with
        | _ i ihi =>
          intro hi
          by_cases hn : listed.getD i false = true
          · exact hn
          · have hli : i < listed.size := by omega
            have : i ∈ Region.ready .any ops listed := mem_ready.2 ⟨by
                simp only [Array.getD_eq_getD_getElem?, Array.getElem?_eq_getElem hli, Option.getD_some, Bool.not_eq_true] at hn ⊢
                exact hn, ops[i], Array.getElem?_eq_getElem hi, fun e he hb => ihi e.on (c2 i _ (Array.getElem?_eq_getElem hi) e he hb) (by have := c2 i _ (Array.getElem?_eq_getElem hi) e he hb; omega)⟩
            rw [hr] at this; simp at this
      have h1 := hall j0 (by omega)
      rw [getD_both hj0.2] at h1
      cases h1
  have hcount : (unlistedTo n (Array.replicate ops.size false)).length = n := by
    unfold unlistedTo
    rw [List.filter_eq_self.2, List.length_range]
    intro i hi
    have hi' : i < ops.size := by have := List.mem_range.1 hi; omega
    simp [hi']
  have := main n _ a0 w0 (fun _ => undef) (by simp) hcount (fun i hi => ?_) (fun t _ ht => getD_in (by simpa using ht) (getD_replicate_false _ _)) ⟨rfl, rfl, fun i t hi => ?_, fun _ _ => rfl⟩ (by rw [show (fun i => (Array.replicate ops.size false).getD i false) = fun _ => false from funext fun i => getD_replicate_false _ _]; exact hS)
  · rwa [show n + (ops.size - n) = ops.size by omega] at this
  all_goals
    exfalso
    rw [getD_replicate_false] at hi
    cases hi

end
end Go.Proofs.Ytkkjjhooamlljaa
namespace Go.Proofs.Ytkkjjhooamlljaa
open Go.RowKit
set_option linter.unusedVariables false
set_option linter.unusedSimpArgs false

/-- The number of an int. -/
def intOf : Value → Int
  | .int _ n => n
  | _ => 0
/-- What is known of the values of operations that have come up. -/
def Kall {ζ : Type} : List (Nat × (ζ → Value → Prop)) → (Nat → Bool) → (Nat → Value) → ζ → Prop
  | [], _, _, _ => True
  | e :: l, d, x, p => (d e.1 = true → e.2 p (x e.1)) ∧ Kall l d x p
def Sg {ζ : Type} (W : World) (R : Rg W) (Ld : (Nat → Bool) → ζ → List Blk) (Od : (Nat → Bool) → ζ → List Own) (Ed : (Nat → Bool) → ζ → List Res) (Ks : List (Nat × (ζ → Value → Prop))) (d : Nat → Bool) (x : Nat → Value) (w : World) : Prop :=
  ∃ p, Loc W R (Ld d p) (Od d p) (Ed d p) w ∧ Kall Ks d x p
theorem kall_other {ζ : Type} {d : Nat → Bool} {x : Nat → Value} {p : ζ} {k : Nat} : ∀ {Ks : List (Nat × (ζ → Value → Prop))}, (Ks.all fun e => !Nat.beq e.1 k) = true → Kall Ks d x p → Kall Ks (upd d k) x p
  | [], _, _ => trivial
  | e :: l, h, hk => by
    rw [List.all_cons, Bool.and_eq_true] at h
    refine ⟨fun hd => hk.1 ?_, kall_other h.2 hk.2⟩
    have h1 : Nat.beq e.1 k = false := by simpa using h.1
    unfold upd at hd
    rw [h1] at hd
    simpa using hd
structure SXg {ζ : Type} (P : Program) (n : Nat) (W : World) (R : Rg W) (ops : Array Oper) (Ld : (Nat → Bool) → ζ → List Blk) (Od : (Nat → Bool) → ζ → List Own) (Ed : (Nat → Bool) → ζ → List Res) (Ks : List (Nat × (ζ → Value → Prop))) (k : Nat) (f : (Nat → Value) → List (Nat × Value)) (l : List Oper) (Q : Exit → Act → World → Prop) : Prop where
  run : ∀ F : (Nat → Value) → Act, (∀ x, Fr n (f x) (F x)) → RG P ops (Sg W R Ld Od Ed Ks) Q k l F
/-- What an operation leaves. -/
def PostG {ζ : Type} (W : World) (R : Rg W) (Ld : (Nat → Bool) → ζ → List Blk) (Od : (Nat → Bool) → ζ → List Own) (Ed : (Nat → Bool) → ζ → List Res) (Ks : List (Nat × (ζ → Value → Prop))) (d : Nat → Bool) (k : Nat) (x : Nat → Value) (dst : Option Tmp) (e : Exit) (a : Act) (w : World) : Prop :=
  e = .normal ∧ a.defers = [] ∧ ∃ (p : ζ) (v : Value), (∀ dd, dst = some dd → a.tmps[dd]? = some v) ∧ Loc W R (Ld (upd d k) p) (Od (upd d k) p) (Ed (upd d k) p) w ∧ Kall Ks (upd d k) (upx x k v) p

theorem wp_of_list {P : Program} {ops : Array Oper} {o : Oper} {a : Act} {w : World} {K : Act → World → Prop} (hd : a.defers = []) (hw : Region.wanted o (yielded ops a.tmps) = true)
    (h : wpList P ops (fun e a' w' => e = .normal ∧ a'.defers = [] ∧ K a' w') [o] a w) : o.wp P a w (fun a' w' => ∃ v, a' = a.put o.dst v ∧ K a' w') never := by
  unfold wpList at h
  rw [if_pos hw] at h
  rcases h with h | ⟨_, _, _, h, _⟩
  · unfold Oper.wp at *
    generalize (execOp a.eval o).run P w = r at *
    cases r with
    | ok n w' =>
      cases n <;> simp only [Oper.upon, wpList] at h ⊢
      case value v => exact ⟨v, rfl, h.2.2⟩
      case skip => exact ⟨undef, rfl, h.2.2⟩
      case defer d =>
        have h1 := h.2.1
        rw [put_defers'] at h1
        cases h1
      case enter f args =>
        refine Calls.mono h fun e w'' he => ?_
        cases e with
        | returned u => exact ⟨u, rfl, he.2.2⟩
        | panicked c => exact absurd he.1 (by simp)
        | outgrown => obtain ⟨_, _, hf, _⟩ := he; exact absurd hf (by simp)
      case row row args => exact Rows.mono h fun u w'' he => ⟨u, rfl, he.2.2⟩
    | halt x w' =>
      cases x <;> simp only [Oper.upon, never] at h ⊢
      exact absurd h.1 (by simp)
  · exact absurd h (by simp)

section
variable {ζ : Type} {P : Program} {n : Nat} {W : World} {R : Rg W} {L L' : List Blk} {O O' : List Own} {E E' : List Res} {Ld : (Nat → Bool) → ζ → List Blk} {Od : (Nat → Bool) → ζ → List Own} {Ed : (Nat → Bool) → ζ → List Res} {Ks : List (Nat × (ζ → Value → Prop))} {f : (Nat → Value) → List (Nat × Value)} {f0 : List (Nat × Value)} {Q : Exit → Act → World → Prop} {ops : Array Oper} {rest : List Oper} {k : Nat}
theorem SXg.v {o : Oper} {d : Nat} (us : List Nat) (v : (Nat → Value) → Value) (hus : (us.all fun i => (reach ops ops.size k).contains i) = true) (hv : ∀ x y : Nat → Value, (∀ i ∈ us, x i = y i) → v x = v y)
    (hr : ∀ dn x p, Adm ops dn k → Kall Ks dn x p → OpW P n W R (Ld dn p) (Od dn p) (Ed dn p) (f x) o (v x)) (hdst : o.dst = some d) (hw : ∀ x, wantO ops (f x) o = some true) (hd : Nat.blt d n = true)
    (hs : ∀ dn p, Ld (upd dn k) p = Ld dn p ∧ Od (upd dn k) p = Od dn p ∧ Ed (upd dn k) p = Ed dn p) (hk : (Ks.all fun e => !Nat.beq e.1 k) = true)
    (h : SXg P n W R ops Ld Od Ed Ks (k + 1) (fun x => (d, v x) :: f x) rest Q) : SXg P n W R ops Ld Od Ed Ks k f (o :: rest) Q := ⟨fun F hF =>
  RG.val us v hus hv (fun x => wanted_of (hF x) (hw x)) (fun dn x w ha ⟨p, hl, hK⟩ => wp_never ((hr dn x p ha hK).run _ w (hF x) hl) fun _ _ ⟨h1, h2⟩ => ⟨h1, p, by rw [(hs dn p).1, (hs dn p).2.1, (hs dn p).2.2]; exact hl.keep h2, kall_other hk hK⟩)
    (by rw [hdst]; exact h.run _ fun x => (hF x).put hd (v x))⟩
/-- A value that hangs on no other. -/
theorem SXg.v0 {o : Oper} {d : Nat} {v : Value} (hr : ∀ dn x p, Adm ops dn k → Kall Ks dn x p → OpW P n W R (Ld dn p) (Od dn p) (Ed dn p) (f x) o v) (hdst : o.dst = some d) (hw : ∀ x, wantO ops (f x) o = some true) (hd : Nat.blt d n = true)
    (hs : ∀ dn p, Ld (upd dn k) p = Ld dn p ∧ Od (upd dn k) p = Od dn p ∧ Ed (upd dn k) p = Ed dn p) (hk : (Ks.all fun e => !Nat.beq e.1 k) = true)
    (h : SXg P n W R ops Ld Od Ed Ks (k + 1) (fun x => (d, v) :: f x) rest Q) : SXg P n W R ops Ld Od Ed Ks k f (o :: rest) Q :=
  SXg.v [] (fun _ => v) rfl (fun _ _ _ => rfl) hr hdst hw hd hs hk h
theorem SXg.no {o : Oper} {d : Nat} (hw : ∀ x, wantO ops (f x) o = some false) (hdst : o.dst = some d) (hd : Nat.blt d n = true)
    (hs : ∀ dn p, Ld (upd dn k) p = Ld dn p ∧ Od (upd dn k) p = Od dn p ∧ Ed (upd dn k) p = Ed dn p) (hk : (Ks.all fun e => !Nat.beq e.1 k) = true)
    (h : SXg P n W R ops Ld Od Ed Ks (k + 1) (fun x => (d, undef) :: f x) rest Q) : SXg P n W R ops Ld Od Ed Ks k f (o :: rest) Q := ⟨fun F hF =>
  RG.skip (fun x => wanted_of (hF x) (hw x)) (fun dn x w ⟨p, hl, hK⟩ => ⟨p, by rw [(hs dn p).1, (hs dn p).2.1, (hs dn p).2.2]; exact hl, kall_other hk hK⟩) (by rw [hdst]; exact h.run _ fun x => (hF x).put hd undef)⟩
/-- Any operation, by its rule outside regions. -/
theorem SXg.l {o : Oper} {d : Nat} (hdst : o.dst = some d) (hw : ∀ x, wantO ops (f x) o = some true) (hd : Nat.blt d n = true)
    (hr : ∀ dn x p, Adm ops dn k → Kall Ks dn x p → SXl P n W R ops (Ld dn p) (Od dn p) (Ed dn p) (f x) [o] (PostG W R Ld Od Ed Ks dn k x (some d)))
    (h : SXg P n W R ops Ld Od Ed Ks (k + 1) (fun x => (d, x k) :: f x) rest Q) : SXg P n W R ops Ld Od Ed Ks k f (o :: rest) Q := ⟨fun F hF =>
  RG.new (fun x => wanted_of (hF x) (hw x)) (fun dn x w ha ⟨p, hl, hK⟩ => by
    have h1 := wp_of_list (hF x).defers (wanted_of (hF x) (hw x)) ((hr dn x p ha hK).run _ w (hF x) hl)
    refine Oper.wp_mono ?_ h1
    rintro a' w' ⟨v, rfl, p', v', hv, h2, h3⟩
    have e := hv d rfl
    rw [hdst] at e
    rw [put_at _ d v (Nat.lt_of_lt_of_le (by simpa using hd) (hF x).size)] at e
    obtain rfl := Option.some.inj e
    exact ⟨v, rfl, p', h2, h3⟩) (by rw [hdst]; exact h.run _ fun x => (hF x).put hd _)⟩
/-- An operation that nobody takes a value from. -/
theorem SXg.s {o : Oper} (hdst : o.dst = none) (hw : ∀ x, wantO ops (f x) o = some true)
    (hr : ∀ dn x p, Adm ops dn k → Kall Ks dn x p → SXl P n W R ops (Ld dn p) (Od dn p) (Ed dn p) (f x) [o] (PostG W R Ld Od Ed Ks dn k x none)) (hk : (Ks.all fun e => !Nat.beq e.1 k) = true)
    (h : SXg P n W R ops Ld Od Ed Ks (k + 1) f rest Q) : SXg P n W R ops Ld Od Ed Ks k f (o :: rest) Q := ⟨fun F hF =>
  RG.new (fun x => wanted_of (hF x) (hw x)) (fun dn x w ha ⟨p, hl, hK⟩ => by
    have h1 := wp_of_list (hF x).defers (wanted_of (hF x) (hw x)) ((hr dn x p ha hK).run _ w (hF x) hl)
    refine Oper.wp_mono ?_ h1
    rintro a' w' ⟨v, rfl, p', v', _, h2, h3⟩
    refine ⟨v, rfl, p', h2, ?_⟩
    have other : ∀ (Ks : List (Nat × (ζ → Value → Prop))) (v v' : Value), (Ks.all fun e => !Nat.beq e.1 k) = true → Kall Ks (upd dn k) (upx x k v) p' → Kall Ks (upd dn k) (upx x k v') p' := by
      intro Ks v v'
      induction Ks with
      | nil => intro _ _; trivial
      | cons e l ih =>
        intro hk hK
        rw [List.all_cons, Bool.and_eq_true] at hk
        have h1 : Nat.beq e.1 k = false := by simpa using hk.1
        have e1 : ∀ v, upx x k v e.1 = x e.1 := fun v => by unfold upx; rw [h1]; rfl
        exact ⟨fun hd => by have := hK.1 hd; rw [e1] at this ⊢; exact this, ih hk.2 hK.2⟩
    exact other Ks v' v hk h3) (by rw [hdst]; exact h.run _ fun x => (hF x).puto _)⟩
theorem SQ.g {f' : List (Nat × Value)} {dn : Nat → Bool} {x : Nat → Value} {d : Nat} (p : ζ) (v : Value) (hv : look f' d = some v) (hL : ∀ w, Loc W R L O E w → Loc W R (Ld (upd dn k) p) (Od (upd dn k) p) (Ed (upd dn k) p) w) (hk : Kall Ks (upd dn k) (upx x k v) p) :
    SQ n W R L O E f' .normal (PostG W R Ld Od Ed Ks dn k x (some d)) := ⟨fun a w hf hl => ⟨rfl, hf.defers, p, v, fun dd hd => (Option.some.inj hd) ▸ hf.at_ _ _ hv, hL w hl, hk⟩⟩
theorem SQ.gs {f' : List (Nat × Value)} {dn : Nat → Bool} {x : Nat → Value} (p : ζ) (hL : ∀ w, Loc W R L O E w → Loc W R (Ld (upd dn k) p) (Od (upd dn k) p) (Ed (upd dn k) p) w) (hk : Kall Ks (upd dn k) (upx x k undef) p) :
    SQ n W R L O E f' .normal (PostG W R Ld Od Ed Ks dn k x none) := ⟨fun a w hf hl => ⟨rfl, hf.defers, p, undef, fun dd hd => (nomatch hd), hL w hl, hk⟩⟩
theorem SXg.nil (h : ∀ x p, Kall Ks (fun i => Nat.blt i k) x p → SQ n W R (Ld (fun i => Nat.blt i k) p) (Od (fun i => Nat.blt i k) p) (Ed (fun i => Nat.blt i k) p) (f x) .normal Q) : SXg P n W R ops Ld Od Ed Ks k f [] Q := ⟨fun F hF =>
  RG.done fun x w ⟨p, hl, hK⟩ => (h x p hK).run (F x) w (hF x) hl⟩
theorem SXg.tail (h : ∀ x p, Kall Ks (fun i => Nat.blt i k) x p → SXl P n W R ops (Ld (fun i => Nat.blt i k) p) (Od (fun i => Nat.blt i k) p) (Ed (fun i => Nat.blt i k) p) (f x) rest Q) : SXg P n W R ops Ld Od Ed Ks k f [] (fun _ a w => wpList P ops Q rest a w) := ⟨fun F hF =>
  RG.done fun x w ⟨p, hl, hK⟩ => (h x p hK).run (F x) w (hF x) hl⟩
end
end Go.Proofs.Ytkkjjhooamlljaa
namespace Go.Proofs.Ytkkjjhooamlljaa
open Go.RowKit
set_option linter.unusedVariables false
set_option linter.unusedSimpArgs false

section
variable {P : Program} {n : Nat} {W : World} {R : Rg W} {L : List Blk} {O : List Own} {E : List Res} {f : List (Nat × Value)} {Q : Exit → Act → World → Prop} {ops : Array Oper} {rest : List Oper} {d : Option Tmp} {ty T : TypeId} {pos : String} {af : Array Edge} {gd : Option (Nat × Bool)} {dn : Nat} {x y : Operand}
/-- A function walked in its caller's memory. -/
theorem calls_sxW {fid : FuncId} {fn : Func} {c : Code} {args : List Value} {w : World} (hl : Loc W R L O E w) {R' : Ending → World → Prop} {f : List (Nat × Value)} (hf : P.funcs[fid]? = some fn) (hb : fn.body = some c) (hn : fn.ntmps = n)
    (hfr : ∀ a : Act, a.defers = [] → n ≤ a.tmps.size → (∀ (t : Nat) (v : Value), args[t]? = some v → a.tmps[t]? = some v) → Fr n f a)
    (h : SX P n W R L O E f c (bodyPost P fn R')) : Calls P fid args.toArray w R' := by
  refine calls_of_wp hf hb (h.run _ w (hfr _ rfl ?_ ?_) hl)
  · simp; omega
  · intro t v ht
    have hlt := (List.getElem?_eq_some_iff.1 ht).1
    obtain ⟨_, e⟩ := List.getElem?_eq_some_iff.1 ht
    simp [Array.getElem?_append, hlt, e]
/-- A call that is told in the caller's memory. -/
theorem SXl.callW {v : Value} {L' : List Blk} {O' : List Own} {E' : List Res} {fn : FuncId} {ars : List Operand} {args : List Value} {aT : Array TypeId} [TFun P fn] (hw : wantO ops f ⟨some dn, .call ⟨.value (.func fn), ars.toArray, aT⟩, ty, pos, af, gd⟩ = some true) (hd : Nat.blt dn n = true) (ha : evL f ars = some args)
    (hc : ∀ w, Loc W R L O E w → Calls P fn args.toArray w fun e w' => e = .returned v ∧ Loc W R L' O' E' w')
    (h : SXl P n W R ops L' O' E' ((dn, v) :: f) rest Q) : SXl P n W R ops L O E f (⟨some dn, .call ⟨.value (.func fn), ars.toArray, aT⟩, ty, pos, af, gd⟩ :: rest) Q := ⟨fun a w hf hl => by
  unfold wpList
  rw [if_pos (wanted_of hf hw)]
  refine .inl ?_
  unfold Oper.wp
  rw [run_callop hf ha w _ _, Oper.upon_enter]
  refine (hc w hl).mono ?_
  rintro e w' ⟨rfl, hl'⟩
  exact h.run _ _ (hf.put hd _) hl'⟩
/-- A call that turns one slice of the call's own. -/
theorem SXl.callR2 {v : Value} {o o' : Own} {O' : List Own} {fn : FuncId} {ars : List Operand} {args : List Value} {aT : Array TypeId} [TFun P fn] (i : Nat) (hw : wantO ops f ⟨some dn, .call ⟨.value (.func fn), ars.toArray, aT⟩, ty, pos, af, gd⟩ = some true) (hd : Nat.blt dn n = true) (ha : evL f ars = some args) (hi : O[i]? = some o)
    (hc : ∀ w, Loc W R L O E w → Calls P fn args.toArray w fun e w' => e = .returned v ∧ Mod (fun k => o.v.ownBlock = some k) w w' ∧ w'.ownsRow W.heap.size o'.e o'.sz o'.v o'.n o'.xs) (hv : o'.v = o.v) (hO : O.set i o' = O')
    (h : SXl P n W R ops L O' E ((dn, v) :: f) rest Q) : SXl P n W R ops L O E f (⟨some dn, .call ⟨.value (.func fn), ars.toArray, aT⟩, ty, pos, af, gd⟩ :: rest) Q := ⟨fun a w hf hl => by
  unfold wpList
  rw [if_pos (wanted_of hf hw)]
  refine .inl ?_
  unfold Oper.wp
  rw [run_callop hf ha w _ _, Oper.upon_enter]
  refine (hc w hl).mono ?_
  rintro e w' ⟨rfl, hm, ho⟩
  exact h.run _ _ (hf.put hd _) (hO ▸ hl.ownTurned hi hm ho (.inl (by rw [hv])))⟩
theorem SX.knowW {φ : Prop} {co : Code} (hφ : ∀ w, Loc W R L O E w → φ) (h : φ → SX P n W R L O E f co Q) : SX P n W R L O E f co Q := ⟨fun a w hf hl => (h (hφ w hl)).run a w hf hl⟩
theorem set_mid {α : Type} (x : α) (A C : List α) (u v u' : α) : (x :: (A ++ (u :: v :: C)))[A.length + 1]? = some u ∧ (x :: (A ++ (u :: v :: C))).set (A.length + 1) u' = x :: (A ++ (u' :: v :: C)) ∧ (x :: (A ++ (u :: v :: C)))[A.length + 2]? = some v ∧ (x :: (A ++ (u :: v :: C))).set (A.length + 2) u' = x :: (A ++ (u :: u' :: C)) := by
  refine ⟨?_, ?_, ?_, ?_⟩
  · rw [List.getElem?_cons_succ, List.getElem?_append_right (Nat.le_refl _), Nat.sub_self]; rfl
  · rw [List.set_cons_succ, List.set_append_right _ _ (Nat.le_refl _), Nat.sub_self]; rfl
  · rw [List.getElem?_cons_succ, List.getElem?_append_right (Nat.le_succ _), show A.length.succ - A.length = 1 by omega]; rfl
  · rw [List.set_cons_succ, List.set_append_right _ _ (Nat.le_succ _), show A.length.succ - A.length = 1 by omega]; rfl
theorem mark_step {pre M row post : List Value} {j : Nat} {v : Value} (hM : M[j]? = some v) (hr : M.length = row.length) : (pre ++ (M.take j ++ (row.drop j ++ post))).set (pre.length + j) v = pre ++ (M.take (j + 1) ++ (row.drop (j + 1) ++ post)) := by
  have hj := (List.getElem?_eq_some_iff.1 hM).1
  rw [List.set_append_right _ _ (by omega), Nat.add_sub_cancel_left, List.set_append_right _ _ (by rw [List.length_take]; omega), List.length_take, Nat.min_eq_left (by omega), Nat.sub_self]
  obtain ⟨u, hu⟩ : ∃ u, row[j]? = some u := ⟨_, List.getElem?_eq_getElem (by omega)⟩
  rw [List.drop_eq_getElem_cons (by omega), List.cons_append, List.set_cons_zero, List.take_add_one, hM]
  simp
theorem mark_skip {pre M row post : List Value} {j : Nat} {v : Value} (hM : M[j]? = some v) (hr : row[j]? = some v) : pre ++ (M.take j ++ (row.drop j ++ post)) = pre ++ (M.take (j + 1) ++ (row.drop (j + 1) ++ post)) := by
  obtain ⟨h1, h2⟩ := List.getElem?_eq_some_iff.1 hr
  rw [List.drop_eq_getElem_cons h1, List.take_add_one, hM, h2]
  simp
/-- One cell of a row is marked. -/
theorem SXl.mark {v : Value} {g o m c e : Nat} {sz : Nat} {pre M row post : List Value} {O0 : List Own} (j : Nat) [TOne P T] (hw : wantO ops f ⟨none, .store T x y, ty, pos, af, gd⟩ = some true) (hx : evO f x = some (.pointer (some ⟨g, o, none⟩))) (hy : evO f y = some v)
    (ho : o = pre.length + j) (hM : M[j]? = some v) (hr : M.length = row.length) (hv : v.oneCell' = true)
    (h : SXl P n W R ops L (⟨.slice (some ⟨g, 0, none⟩) m c, e, sz, m, pre ++ (M.take (j + 1) ++ (row.drop (j + 1) ++ post))⟩ :: O0) E f rest Q) : SXl P n W R ops L (⟨.slice (some ⟨g, 0, none⟩) m c, e, sz, m, pre ++ (M.take j ++ (row.drop j ++ post))⟩ :: O0) E f (⟨none, .store T x y, ty, pos, af, gd⟩ :: rest) Q := by
  have hj := (List.getElem?_eq_some_iff.1 hM).1
  refine SXl.storeOwn 0 hw hx hy rfl (by rw [ho, List.length_append, List.length_append, List.length_append, List.length_take, List.length_drop]; omega) hv ?_ h
  rw [ho, mark_step hM hr]
  rfl
/-- The slices of a row are read. -/
theorem row_cell {pre A B : List Value} {i : Nat} {v : Value} (j : Nat) (hi : i = pre.length + j) (hv : (A ++ B)[j]? = some v) : (pre ++ (A ++ B))[i]? = some v := by
  rw [hi, List.getElem?_append_right (by omega), Nat.add_sub_cancel_left]
  exact hv
end
/-- A slice of the call's own, told as a block that is filled. -/
theorem own_full {w : World} {base e sz m c : Nat} {a : Option Addr} {xs : List Value} (h : w.ownsRow base e sz (.slice a m c) m xs) : m = 0 ∨ ∃ g, a = some ⟨g, 0, none⟩ ∧ base ≤ g ∧ m * sz ≤ c * sz ∧ c ≤ maxLen ∧ Filled g e (c * sz) w xs := by
  rcases h.2 with ⟨_, hn⟩ | ⟨g, cap, cur, hv, hb, hh, hnc, hcm, hcs, ht⟩
  · exact .inl hn
  · injection hv with ha _ hc
    subst ha hc
    have hx : xs.length = m * sz := h.1
    exact .inr ⟨g, rfl, hb, Nat.mul_le_mul_right _ hnc, hcm, cur, hh, hcs, by rw [hx]; exact ht⟩
theorem ownW_addr {w : World} {base e sz m c : Nat} {a : Option Addr} {xs : List Value} (h : w.ownsRow base e sz (.slice a m c) m xs) (h0 : 0 < m) : ∃ g, a = some ⟨g, 0, none⟩ := by
  rcases own_full h with h1 | ⟨g, h1, _⟩
  · omega
  · exact ⟨g, h1⟩
theorem full_own {w : World} {base e sz m c g : Nat} {xs : List Value} (h : Filled g e (c * sz) w xs) (hb : base ≤ g) (hx : xs.length = m * sz) (hm : m ≤ c) (hc : c ≤ maxLen) : w.ownsRow base e sz (.slice (some ⟨g, 0, none⟩) m c) m xs := by
  obtain ⟨cur, h1, h2, h3⟩ := h
  exact ⟨hx, .inr ⟨g, c, cur, rfl, hb, h1, hm, hc, h2, by rw [← hx]; exact h3⟩⟩
theorem Filled.bare {g e n : Nat} {w : World} {xs : List Value} (h : Filled g e n w xs) : Filled g e n w [] := by
  obtain ⟨cur, h1, h2, _⟩ := h
  exact ⟨cur, h1, h2, rfl⟩
theorem own_len {w : World} {base e sz m c g : Nat} {xs : List Value} (h : w.ownsRow base e sz (.slice (some ⟨g, 0, none⟩) m c) m xs) : m ≤ c := by
  rcases h.2 with ⟨hv, _⟩ | ⟨g', cap, cur, hv, _, _, hnc, _⟩
  · cases hv
  · injection hv with _ _ hc
    omega
theorem mark_o {P : Program} {fid : FuncId} {w : World} {base e sz m c : Nat} {a : Option Addr} {xs mk : List Value} {q0 ret : Int} (hmk : mk.length = m * sz)
    (H : ∀ g N, (m = 0 ∨ a = some ⟨g, 0, none⟩ ∧ m * sz ≤ N ∧ Filled g e N w []) → Calls P fid #[.slice a m c, .int .i64 q0] w fun en w' => en = .returned (.int .i64 ret) ∧ Mod (fun k => k = g) w w' ∧ (m = 0 ∨ Filled g e N w' mk))
    (h : w.ownsRow base e sz (.slice a m c) m xs) :
    Calls P fid #[.slice a m c, .int .i64 q0] w fun en w' => en = .returned (.int .i64 ret) ∧ Mod (fun k => (Value.slice a m c).ownBlock = some k) w w' ∧ w'.ownsRow base e sz (.slice a m c) m mk := by
  by_cases h0 : m = 0
  · subst h0
    refine (H w.heap.size 0 (.inl rfl)).mono ?_
    rintro en w' ⟨he, hm, _⟩
    have hm' := hm.mono fun k hk (e : k = w.heap.size) => (by omega : False)
    have hx : xs = mk := by rw [List.eq_nil_of_length_eq_zero (l := xs) (by rw [h.1]; omega), List.eq_nil_of_length_eq_zero (l := mk) (by rw [hmk]; omega)]
    subst hx
    exact ⟨he, hm'.mono fun _ _ f => f.elim, ownsRow_keep h hm' fun _ _ f => f⟩
  · obtain ⟨g, rfl, hb, hN, hc, hF⟩ := (own_full h).resolve_left h0
    refine (H g _ (.inr ⟨rfl, hN, hF.bare⟩)).mono ?_
    rintro en w' ⟨he, hm, hf⟩
    exact ⟨he, hm.mono fun k _ (e : k = g) => by subst e; rfl, full_own (hf.resolve_left h0) hb hmk (own_len h) hc⟩
theorem held_full {w : World} {base e sz m c : Nat} {a : Option Addr} {mk : List Value} (h : w.ownsRow base e sz (.slice a m c) m mk) : ∃ g N, m = 0 ∨ a = some ⟨g, 0, none⟩ ∧ m * sz ≤ N ∧ Filled g e N w mk := by
  rcases own_full h with h0 | ⟨g, h1, _, h2, _, h3⟩
  · exact ⟨0, 0, .inl h0⟩
  · exact ⟨g, _, .inr ⟨h1, h2, h3⟩⟩
theorem markInt_o {w : World} {base m c : Nat} {a : Option Addr} {xs : List Value} (q0 : Int) (hq0 : 1 ≤ q0) (hq1 : q0 ≤ 1000000000000000) (hn : m ≤ 1048576) (h : w.ownsRow base 3 1 (.slice a m c) m xs) :
    Calls Try.prog 62 #[.slice a m c, .int .i64 q0] w fun e w' => e = .returned (.int .i64 (q0 + m)) ∧ Mod (fun k => (Value.slice a m c).ownBlock = some k) w w' ∧ w'.ownsRow base 3 1 (.slice a m c) m (IntM.marks q0 m) :=
  mark_o (by rw [IntM.marks_length]; omega) (fun g N hh => markIntS_any m c a g N w q0 hq0 hq1 (by omega) hh) h
theorem markRule_o {w : World} {base m c : Nat} {a : Option Addr} {xs : List Value} (q0 : Int) (hq0 : 0 ≤ q0) (hq1 : q0 ≤ 1000000000000000) (hn : m ≤ 1048576) (h : w.ownsRow base 145 3 (.slice a m c) m xs) :
    Calls Try.prog 63 #[.slice a m c, .int .i64 q0] w fun e w' => e = .returned (.int .i64 (q0 + m * 3)) ∧ Mod (fun k => (Value.slice a m c).ownBlock = some k) w w' ∧ w'.ownsRow base 145 3 (.slice a m c) m (Rule.marks q0 m) :=
  mark_o (Rule.marks_length q0 m) (fun g N hh => markRuleS_any m c a g N w q0 hq0 hq1 hn hh) h
theorem markFrame_o {w : World} {base m c : Nat} {a : Option Addr} {xs : List Value} (q0 : Int) (hq0 : 0 ≤ q0) (hq1 : q0 ≤ 1000000000000000) (hn : m ≤ 1048576) (h : w.ownsRow base 69 5 (.slice a m c) m xs) :
    Calls Try.prog 24 #[.slice a m c, .int .i64 q0] w fun e w' => e = .returned (.int .i64 (q0 + m * 5)) ∧ Mod (fun k => (Value.slice a m c).ownBlock = some k) w w' ∧ w'.ownsRow base 69 5 (.slice a m c) m (Frame.marks q0 m) :=
  mark_o (Frame.marks_length q0 m) (fun g N hh => markFrameS_any m c a g N w q0 hq0 hq1 hn hh) h
theorem heldInt_o {w : World} {base m c : Nat} {a : Option Addr} (q0 : Int) (hq0 : 1 ≤ q0) (hq1 : q0 ≤ 1000000000000000) (hn : m ≤ 1048576) (h : w.ownsRow base 3 1 (.slice a m c) m (IntM.marks q0 m)) :
    Calls Try.prog 64 #[.slice a m c, .int .i64 q0] w fun e w' => e = .returned (.int .i64 (q0 + m)) ∧ Mod (fun _ => False) w w' := by
  obtain ⟨g, N, hh⟩ := held_full h
  exact heldIntS_any m c a g N w q0 hq0 hq1 (by omega) hh
theorem heldRule_o {w : World} {base m c : Nat} {a : Option Addr} (q0 : Int) (hq0 : 0 ≤ q0) (hq1 : q0 ≤ 1000000000000000) (hn : m ≤ 1048576) (h : w.ownsRow base 145 3 (.slice a m c) m (Rule.marks q0 m)) :
    Calls Try.prog 65 #[.slice a m c, .int .i64 q0] w fun e w' => e = .returned (.int .i64 (q0 + m * 3)) ∧ Mod (fun _ => False) w w' := by
  obtain ⟨g, N, hh⟩ := held_full h
  exact heldRuleS_any m c a g N w q0 hq0 hq1 hn hh
theorem heldFrame_o {w : World} {base m c : Nat} {a : Option Addr} (q0 : Int) (hq0 : 0 ≤ q0) (hq1 : q0 ≤ 1000000000000000) (hn : m ≤ 1048576) (h : w.ownsRow base 69 5 (.slice a m c) m (Frame.marks q0 m)) :
    Calls Try.prog 27 #[.slice a m c, .int .i64 q0] w fun e w' => e = .returned (.int .i64 (q0 + m * 5)) ∧ Mod (fun _ => False) w w' := by
  obtain ⟨g, N, hh⟩ := held_full h
  exact heldFrameS_any m c a g N w q0 hq0 hq1 hn hh
/-- The marks of a style. -/
def markStyle (b : Int) : List Value := [.int .i64 (b + 0), .int .i64 (b + 1), .int .i64 (b + 2), .int .i64 (b + 3), .int .i64 (b + 4), .int .i64 (b + 5), .bool (decide (Int.tmod (b + 6) 3 = 0)), .bool (decide (Int.tmod (b + 7) 3 = 0)), .int .i64 (b + 8), .int .i64 (b + 9), .int .i64 (b + 10), .int .i64 (b + 11), .int .i64 (b + 12), .int .i64 (b + 13), .int .i64 (b + 14), .int .i64 (b + 15), .int .i64 (b + 16), .int .i64 (b + 17), .int .i64 (b + 18), .int .i64 (b + 19), .int .i64 (b + 20), .int .i64 (b + 21), .int .i64 (b + 22), .int .i64 (b + 23), .int .i64 (b + 24), .int .i64 (b + 25), .int .i64 (b + 26), .int .i64 (b + 27), .int .i64 (b + 28), .int .i64 (b + 29), .int .i64 (b + 30), .int .i64 (b + 31), .int .i64 (b + 32), .int .i64 (b + 33), .int .i64 (b + 34), .int .i64 (b + 35), .int .i64 (b + 36), .int .i64 (b + 37), .int .i64 (b + 38), .int .i64 (b + 39), .int .i64 (b + 40), .int .i64 (b + 41), .int .i64 (b + 42), .int .i64 (b + 43), .int .i64 (b + 44), .int .i64 (b + 45), .int .i64 (b + 46), .int .i64 (b + 47), .int .i64 (b + 48), .int .i64 (b + 49), .int .i64 (b + 50), .int .i64 (b + 51), .int .i64 (b + 52), .int .i64 (b + 53), .int .i64 (b + 54), .int .i64 (b + 55), .int .i64 (b + 56), .int .i64 (b + 57), .int .i64 (b + 58), .int .i64 (b + 59)]
/-- The marks of a node's row. -/
def markRow (q : Int) (kv : Value) (nk : Nat) (rv : Value) : List Value := .int .i64 q :: kv :: (markStyle (q + 1 + nk) ++ [.bool (decide (Int.tmod (q + 1 + nk + 60) 3 = 0)), rv])
end Go.Proofs.Ytkkjjhooamlljaa
namespace Go.Proofs.Ytkkjjhooamlljaa
open Go.RowKit
set_option linter.unusedVariables false
set_option linter.unusedSimpArgs false

/-- How many marks a node takes. -/
def costN (x : PNode) : Nat := 62 + x.1.kids.length + x.1.rules.length * 3
def costTo (l : List PNode) : Nat → Nat
  | 0 => 0
  | k + 1 => costTo l k + match l[k]? with | some x => costN x | none => 0
theorem costTo_next {l : List PNode} {k : Nat} {x : PNode} (h : l[k]? = some x) : costTo l (k + 1) = costTo l k + costN x := by
  show costTo l k + (match l[k]? with | some x => costN x | none => 0) = _
  rw [h]
theorem costTo_mono (l : List PNode) {k m : Nat} (h : k ≤ m) : costTo l k ≤ costTo l m := by
  induction h with
  | refl => exact Nat.le_refl _
  | step _ ih => exact Nat.le_trans ih (Nat.le_add_right _ _)
def markedRow (x : PNode) (q : Int) : List Value := markRow q (.slice x.2.ka x.1.kids.length x.2.kc) x.1.kids.length (.slice x.2.ra x.1.rules.length x.2.rc)
def kidsM (x : PNode) (q : Int) : Own := ⟨.slice x.2.ka x.1.kids.length x.2.kc, 3, 1, x.1.kids.length, IntM.marks (q + 1) x.1.kids.length⟩
def rulesM (x : PNode) (q : Int) : Own := ⟨.slice x.2.ra x.1.rules.length x.2.rc, 145, 3, x.1.rules.length, Rule.marks (q + 62 + x.1.kids.length) x.1.rules.length⟩
/-- The first k rows, marked. -/
def rowsM (l : List PNode) (q : Int) : Nat → List Value
  | 0 => []
  | k + 1 => rowsM l q k ++ match l[k]? with | some x => markedRow x (q + costTo l k) | none => []
def partsM (l : List PNode) (q : Int) : Nat → List Own
  | 0 => []
  | k + 1 => partsM l q k ++ match l[k]? with | some x => [kidsM x (q + costTo l k), rulesM x (q + costTo l k)] | none => []
theorem rowsM_next {l : List PNode} {q : Int} {k : Nat} {x : PNode} (h : l[k]? = some x) : rowsM l q (k + 1) = rowsM l q k ++ markedRow x (q + costTo l k) := by
  show rowsM l q k ++ (match l[k]? with | some x => markedRow x (q + costTo l k) | none => []) = _
  rw [h]
theorem partsM_next {l : List PNode} {q : Int} {k : Nat} {x : PNode} (h : l[k]? = some x) : partsM l q (k + 1) = partsM l q k ++ [kidsM x (q + costTo l k), rulesM x (q + costTo l k)] := by
  show partsM l q k ++ (match l[k]? with | some x => [kidsM x (q + costTo l k), rulesM x (q + costTo l k)] | none => []) = _
  rw [h]
theorem rowsM_len {l : List PNode} {q : Int} : ∀ {k : Nat}, k ≤ l.length → (rowsM l q k).length = k * 64
  | 0, _ => rfl
  | k + 1, h => by
    rw [rowsM_next (List.getElem?_eq_getElem (by omega : k < l.length)), List.length_append, rowsM_len (k := k) (by omega)]
    show k * 64 + 64 = _
    omega
theorem partsM_len {l : List PNode} {q : Int} : ∀ {k : Nat}, k ≤ l.length → (partsM l q k).length = 2 * k
  | 0, _ => rfl
  | k + 1, h => by
    rw [partsM_next (List.getElem?_eq_getElem (by omega : k < l.length)), List.length_append, partsM_len (k := k) (by omega)]
    rfl
/-- The tree's own slices when the first k nodes bear marks. -/
def treeM (l : List PNode) (a : Option Addr) (c : Nat) (q : Int) (k : Nat) : List Own := ⟨.slice a l.length c, 112, 64, l.length, rowsM l q k ++ ((l.drop k).map rowP).flatten⟩ :: (partsM l q k ++ partsO (l.drop k))
theorem rowP_1 (x : PNode) : (rowP x)[1]? = some (.slice x.2.ka x.1.kids.length x.2.kc) := rfl
theorem rowP_63 (x : PNode) : (rowP x)[63]? = some (.slice x.2.ra x.1.rules.length x.2.rc) := rfl
theorem markedRow_1 (x : PNode) (q : Int) : (markedRow x q)[1]? = some (.slice x.2.ka x.1.kids.length x.2.kc) := rfl
theorem markedRow_63 (x : PNode) (q : Int) : (markedRow x q)[63]? = some (.slice x.2.ra x.1.rules.length x.2.rc) := rfl
theorem markedRow_len (x : PNode) (q : Int) : (markedRow x q).length = (rowP x).length := rfl
theorem treeM_open {l : List PNode} {a : Option Addr} {c : Nat} {q : Int} {k : Nat} {x : PNode} (h : l[k]? = some x) (Q : Int) (O : List Own) : treeM l a c q k ++ O = ⟨.slice a l.length c, 112, 64, l.length, rowsM l q k ++ ((markedRow x Q).take 0 ++ ((rowP x).drop 0 ++ ((l.drop (k + 1)).map rowP).flatten))⟩ :: (partsM l q k ++ (kidsO x :: rulesO x :: (partsO (l.drop (k + 1)) ++ O))) := by
  obtain ⟨hk, hx⟩ := List.getElem?_eq_some_iff.1 h
  have e : l.drop k = x :: l.drop (k + 1) := by rw [List.drop_eq_getElem_cons hk, hx]
  unfold treeM
  rw [e, List.map_cons, List.flatten_cons, partsO_cons]
  simp
theorem treeM_close {l : List PNode} {a : Option Addr} {c : Nat} {q : Int} {k : Nat} {x : PNode} (h : l[k]? = some x) (O : List Own) : (⟨.slice a l.length c, 112, 64, l.length, rowsM l q k ++ ((markedRow x (q + costTo l k)).take 64 ++ ((rowP x).drop 64 ++ ((l.drop (k + 1)).map rowP).flatten))⟩ :: (partsM l q k ++ (kidsM x (q + costTo l k) :: rulesM x (q + costTo l k) :: (partsO (l.drop (k + 1)) ++ O))) : List Own) = treeM l a c q (k + 1) ++ O := by
  unfold treeM
  rw [rowsM_next h, partsM_next h, List.drop_of_length_le (by rw [rowP_len]; omega), List.take_of_length_le (by rw [markedRow_len, rowP_len]; omega)]
  simp
section
variable {W : World} {R : Rg W} {L : List Blk} {O : List Own} {E : List Res}
set_option maxRecDepth 100000 in
set_option maxHeartbeats 16000000 in
theorem markNodeS_o (l : List PNode) (a : Option Addr) (c : Nat) (w : World) (q0 : Int) (hq0 : 1 ≤ q0) (hq1 : q0 ≤ 100000000000) (hlen : l.length ≤ 1048576) (hfit : ∀ x ∈ bare l, x.fits 1048576) (hcost : costTo l l.length ≤ 100000000) (hl : Loc W R L (treeO l a c ++ O) E w) :
    Calls Try.prog 44 #[.slice a l.length c, .int .i64 q0] w fun e w' => e = .returned (.int .i64 (q0 + costTo l l.length)) ∧ Loc W R L (treeM l a c q0 l.length ++ O) E w' := by
  refine calls_sxW hl Try.func44 rfl rfl (fun a h1 h2 h3 => ((Fr.nil h1 h2).arg (h3 1 _ rfl)).arg (h3 0 _ rfl)) ?_
  repeat (first | refine SX.seq ?_ | refine SXl.nil ?_ | refine SX.region ?_ | refine SQ.thenNormal ?_ | refine SX.block ?_ | (refine l_assign ?_; (refine SXl.v (OpW.assign rfl) rfl ?_ ?_ ?_); rfl; rfl))
  refine SX.loopi (fun k : Nat => k ≤ l.length) (fun k => l.length - k) (fun _ => L) (fun k => treeM l a c q0 k ++ O) (fun _ => E) (fun k => [(0, .slice a l.length c), (1, .int .i64 (q0 + costTo l k)), (5, .int .i64 k)]) 0 (Nat.zero_le _) ?_ (fun _ hl => hl) ?_
  · (repeat (first | exact subF_nil _ | (refine subF_cons rfl ?_) | (refine subF_consv rfl (by simp [costTo]) ?_)))
  intro k hk
  by_cases hlt : k < l.length
  rotate_left
  · obtain rfl : k = l.length := by omega
    repeat (first | refine SX.seq ?_ | refine SXl.nil ?_ | refine SX.region ?_ | refine SQ.thenNormal ?_ | refine SX.condF rfl ?_ | (refine l_move ?_; (refine SXl.v (OpW.move rfl) rfl ?_ ?_ ?_); rfl; rfl) | (refine l_assign ?_; (refine SXl.v (OpW.assign rfl) rfl ?_ ?_ ?_); rfl; rfl) | (refine l_len ?_; (refine SXl.v (OpW.len rfl) rfl ?_ ?_ ?_); rfl; rfl) | (refine l_lss ?_; (refine SXl.v (OpW.lssF rfl rfl (by omega)) rfl ?_ ?_ ?_); rfl; rfl) | refine SX.ret ?_ | refine SX.exit ?_ | refine SQ.thenExit ?_ | refine SQ.blockExit ?_)
    refine SQ.body1 rfl rfl (fun w' hl => ⟨rfl, hl⟩)
  obtain ⟨x, hx⟩ : ∃ x, l[k]? = some x := ⟨_, List.getElem?_eq_getElem hlt⟩
  have hfx := hfit x.1 (List.mem_map.2 ⟨x, List.mem_of_getElem? hx, rfl⟩)
  obtain ⟨hf1, hf2⟩ := hfx
  have hcn := costTo_next hx
  have hcm := costTo_mono l (show k + 1 ≤ l.length by omega)
  have hcl := treeM_close (a := a) (c := c) (q := q0) hx O
  have hpl := rowsM_len (q := q0) (show k ≤ l.length by omega)
  have hA := partsM_len (q := q0) (show k ≤ l.length by omega)
  unfold costN at hcn
  rw [treeM_open hx (q0 + costTo l k)]
  refine SX.knowW (fun w' hl => ownW_addr (hl.own _ (.head _)).1 (by omega)) (fun ⟨g, eg⟩ => ?_)
  subst eg
  generalize hQ : q0 + (costTo l k : Int) = Q at *
  generalize rowsM l q0 k = pre at *
  generalize ((l.drop (k + 1)).map rowP).flatten = post at *
  generalize partsM l q0 k = A at *
  generalize partsO (l.drop (k + 1)) ++ O = C at *
  repeat (first | refine SX.seq ?_ | refine SXl.nil ?_ | refine SX.region ?_ | refine SQ.thenNormal ?_ | refine SX.block ?_ | refine SX.skip ?_ | refine SX.condT rfl ?_ | (refine l_load ?_; (refine SXl.v (OpW.loadOwn (xs := pre ++ ((markedRow x Q).take 1 ++ ((rowP x).drop 1 ++ post))) 0 rfl rfl (row_cell 1 (by omega) rfl)) rfl ?_ ?_ ?_); rfl; rfl) | (refine l_fieldAddr ?_; (refine SXl.v (OpW.fieldAddr rfl) rfl ?_ ?_ ?_); rfl; rfl) | (refine l_move ?_; (refine SXl.v (OpW.move rfl) rfl ?_ ?_ ?_); rfl; rfl) | (refine l_assign ?_; (refine SXl.v (OpW.assign rfl) rfl ?_ ?_ ?_); rfl; rfl) | (refine l_len ?_; (refine SXl.v (OpW.len rfl) rfl ?_ ?_ ?_); rfl; rfl) | (refine l_add ?_; (refine SXl.v (OpW.addi rfl rfl (by omega) (by omega)) rfl ?_ ?_ ?_); rfl; rfl) | (refine l_lss ?_; (refine SXl.v (OpW.lssT rfl rfl (by omega)) rfl ?_ ?_ ?_); rfl; rfl) | (refine l_indexAddr ?_; (refine SXl.v (OpW.indexAddr (by omega) rfl rfl) rfl ?_ ?_ ?_); rfl; rfl) | ((refine l_store ?_; refine SXl.mark (pre := pre) (M := markedRow x Q) (row := rowP x) (post := post) _ rfl rfl rfl (by omega) (by first | exact congrArg (fun e : Int => some (Value.int .i64 e)) (by omega) | exact congrArg (fun e : Int => some (Value.bool (decide (Int.tmod e 3 = 0)))) (by omega)) rfl rfl ?_)))
  refine l_call ?_
  refine SXl.callR2 (o := kidsO x) (o' := kidsM x Q) (A.length + 1) rfl rfl rfl (set_mid _ A C (kidsO x) (rulesO x) (kidsM x Q)).1 (fun w' hl => markInt_o (Q + 1) (by omega) (by omega) (by omega) (hl.own (kidsO x) (by simp)).1) rfl (set_mid _ A C (kidsO x) (rulesO x) (kidsM x Q)).2.1 ?_
  rw [mark_skip (pre := pre) (post := post) (j := 0 + 1) (markedRow_1 x Q) (rowP_1 x)]
  repeat (first | refine SX.seq ?_ | refine SXl.nil ?_ | refine SX.region ?_ | refine SQ.thenNormal ?_ | (refine l_load ?_; (refine SXl.v (OpW.loadOwn 0 rfl rfl (row_cell (pre := pre) 63 (by omega) rfl)) rfl ?_ ?_ ?_); rfl; rfl) | (refine l_fieldAddr ?_; (refine SXl.v (OpW.fieldAddr rfl) rfl ?_ ?_ ?_); rfl; rfl) | (refine l_move ?_; (refine SXl.v (OpW.move rfl) rfl ?_ ?_ ?_); rfl; rfl) | (refine l_assign ?_; (refine SXl.v (OpW.assign rfl) rfl ?_ ?_ ?_); rfl; rfl) | (refine l_add ?_; (refine SXl.v (OpW.addi rfl rfl (by omega) (by omega)) rfl ?_ ?_ ?_); rfl; rfl) | (refine l_eql ?_; (refine SXl.v (OpW.eql rfl rfl) rfl ?_ ?_ ?_); rfl; rfl) | (refine l_rem ?_; (refine SXl.v (OpW.rem (by omega) rfl rfl) rfl ?_ ?_ ?_); rfl; rfl) | (refine l_indexAddr ?_; (refine SXl.v (OpW.indexAddr (by omega) rfl rfl) rfl ?_ ?_ ?_); rfl; rfl) | ((refine l_store ?_; refine SXl.mark (pre := pre) (M := markedRow x Q) (row := rowP x) (post := post) _ rfl rfl rfl (by omega) (by first | exact congrArg (fun e : Int => some (Value.int .i64 e)) (by omega) | exact congrArg (fun e : Int => some (Value.bool (decide (Int.tmod e 3 = 0)))) (by omega)) rfl rfl ?_)))
  refine l_call ?_
  refine SXl.callR2 (v := .int .i64 (Q + 62 + x.1.kids.length + x.1.rules.length * 3)) (args := [.slice x.2.ra x.1.rules.length x.2.rc, .int .i64 (Q + 62 + x.1.kids.length)]) (o := rulesO x) (o' := rulesM x Q) (A.length + 2) rfl rfl (congrArg (fun e : Int => some [Value.slice x.2.ra x.1.rules.length x.2.rc, Value.int .i64 e]) (by omega)) (set_mid _ A C (kidsM x Q) (rulesO x) (rulesM x Q)).2.2.1 (fun w' hl => markRule_o (Q + 62 + x.1.kids.length) (by omega) (by omega) (by omega) (hl.own (rulesO x) (by simp)).1) rfl (set_mid _ A C (kidsM x Q) (rulesO x) (rulesM x Q)).2.2.2 ?_
  repeat (first | refine SXl.nil ?_ | refine SX.region ?_ | refine SQ.thenNormal ?_ | (refine l_move ?_; (refine SXl.v (OpW.move rfl) rfl ?_ ?_ ?_); rfl; rfl) | (refine l_assign ?_; (refine SXl.v (OpW.assign rfl) rfl ?_ ?_ ?_); rfl; rfl) | (refine l_add ?_; (refine SXl.v (OpW.succ rfl rfl (by omega)) rfl ?_ ?_ ?_); rfl; rfl) | refine SQ.blockNormal ?_)
  refine SQ.roundi (k + 1) (by omega) (by omega) ?_ (fun w' hl => by
    rw [← hcl]
    have e := mark_skip (pre := pre) (post := post) (j := 63) (markedRow_63 x Q) (rowP_63 x)
    have hl2 : Loc W R L (⟨.slice (some ⟨g, 0, none⟩) l.length c, 112, 64, l.length, pre ++ ((markedRow x Q).take 63 ++ ((rowP x).drop 63 ++ post))⟩ :: (A ++ (kidsM x Q :: rulesM x Q :: C))) E w' := hl
    rw [e] at hl2
    exact hl2)
  (repeat (first | exact subF_nil _ | (refine subF_cons rfl ?_) | (refine subF_consv rfl (by congr 1; omega) ?_)))
end
end Go.Proofs.Ytkkjjhooamlljaa
namespace Go.Proofs.Ytkkjjhooamlljaa
open Go.RowKit
set_option linter.unusedVariables false
set_option linter.unusedSimpArgs false

theorem OpW.neqMod {P : Program} {n : Nat} {W : World} {R : Rg W} {L : List Blk} {O : List Own} {E : List Res} {f : List (Nat × Value)} {d : Option Tmp} {T T' ty : TypeId} {pos : String} {af : Array Edge} {gd : Option (Nat × Bool)} {x y : Operand} {e1 e2 : Int} [t : TBool P T] (hx : evO f x = some (.bool (decide (e1.tmod 3 = 0)))) (hy : evO f y = some (.bool (decide (e2.tmod 3 = 0)))) (h : e1 = e2) : OpW P n W R L O E f ⟨d, .binOp .neq T x y T', ty, pos, af, gd⟩ (.bool false) := by
  subst h
  have := OpW.neqb (P := P) (n := n) (W := W) (R := R) (L := L) (O := O) (E := E) (d := d) (T := T) (T' := T') (ty := ty) (pos := pos) (af := af) (gd := gd) hx hy
  simpa using this
theorem rowsM_at {l : List PNode} {q : Int} {k : Nat} {x : PNode} (h : l[k]? = some x) : ∀ {m : Nat}, k < m → m ≤ l.length → ∀ (post : List Value) (j : Nat) (v : Value), (markedRow x (q + costTo l k))[j]? = some v → (rowsM l q m ++ post)[0 + k * 64 + j]? = some v
  | 0, hk, _, _, _, _, _ => by omega
  | m + 1, hk, hm, post, j, v, hv => by
    by_cases e : k = m
    · subst e
      rw [rowsM_next h, List.append_assoc, List.getElem?_append_right (by rw [rowsM_len (by omega)]; omega), rowsM_len (by omega), show 0 + k * 64 + j - k * 64 = j by omega]
      rw [List.getElem?_append_left (List.getElem?_eq_some_iff.1 hv).1]
      exact hv
    · rw [rowsM_next (List.getElem?_eq_getElem (by omega : m < l.length)), List.append_assoc]
      exact rowsM_at h (m := m) (by omega) (by omega) _ j v hv
theorem partsM_mem {l : List PNode} {q : Int} {k : Nat} {x : PNode} (h : l[k]? = some x) : ∀ {m : Nat}, k < m → m ≤ l.length → kidsM x (q + costTo l k) ∈ partsM l q m ∧ rulesM x (q + costTo l k) ∈ partsM l q m
  | 0, hk, _ => by omega
  | m + 1, hk, hm => by
    by_cases e : k = m
    · subst e
      rw [partsM_next h]
      exact ⟨by simp, by simp⟩
    · obtain ⟨h1, h2⟩ := partsM_mem h (m := m) (by omega) (by omega)
      rw [partsM_next (List.getElem?_eq_getElem (by omega : m < l.length))]
      exact ⟨List.mem_append_left _ h1, List.mem_append_left _ h2⟩
theorem heldRule_o2 {w : World} {base m c : Nat} {a : Option Addr} (q0 q1 : Int) (he : q1 = q0) (hq0 : 0 ≤ q0) (hq1 : q0 ≤ 1000000000000000) (hn : m ≤ 1048576) (h : w.ownsRow base 145 3 (.slice a m c) m (Rule.marks q0 m)) :
    Calls Try.prog 65 #[.slice a m c, .int .i64 q1] w fun e w' => e = .returned (.int .i64 (q0 + m * 3)) ∧ Mod (fun _ => False) w w' := by
  subst he
  exact heldRule_o _ hq0 hq1 hn h
section
variable {W : World} {R : Rg W} {L : List Blk} {O : List Own} {E : List Res}
set_option maxRecDepth 100000 in
set_option maxHeartbeats 32000000 in
theorem heldNodeS_o (l : List PNode) (a : Option Addr) (c : Nat) (w : World) (q0 : Int) (hq0 : 1 ≤ q0) (hq1 : q0 ≤ 100000000000) (hlen : l.length ≤ 1048576) (hfit : ∀ x ∈ bare l, x.fits 1048576) (hcost : costTo l l.length ≤ 100000000) (hl : Loc W R L (treeM l a c q0 l.length ++ O) E w) :
    Calls Try.prog 47 #[.slice a l.length c, .int .i64 q0] w fun e w' => e = .returned (.int .i64 (q0 + costTo l l.length)) ∧ Loc W R L (treeM l a c q0 l.length ++ O) E w' := by
  have hrw := fun (k : Nat) (x : PNode) (hx : l[k]? = some x) (hk : k < l.length) => rowsM_at (q := q0) hx hk (Nat.le_refl _) ((l.drop l.length).map rowP).flatten
  have hpm := fun (k : Nat) (x : PNode) (hx : l[k]? = some x) (hk : k < l.length) => partsM_mem (q := q0) hx hk (Nat.le_refl _)
  unfold treeM at *
  rw [List.cons_append] at *
  generalize rowsM l q0 l.length ++ ((l.drop l.length).map rowP).flatten = X at *
  generalize hY : partsM l q0 l.length ++ partsO (l.drop l.length) ++ O = Y at *
  have hin := fun (o : Own) (ho : o ∈ partsM l q0 l.length) => (hY ▸ List.mem_append_left _ (List.mem_append_left _ ho) : o ∈ Y)
  clear hY
  refine calls_sxW hl Try.func47 rfl rfl (fun a h1 h2 h3 => ((Fr.nil h1 h2).arg (h3 1 _ rfl)).arg (h3 0 _ rfl)) ?_
  repeat (first | refine SX.seq ?_ | refine SXl.nil ?_ | refine SX.region ?_ | refine SQ.thenNormal ?_ | refine SX.block ?_ | (refine l_assign ?_; (refine SXl.v (OpW.assign rfl) rfl ?_ ?_ ?_); rfl; rfl))
  refine SX.loopi (fun k : Nat => k ≤ l.length) (fun k => l.length - k) (fun _ => L) (fun k => ⟨.slice a l.length c, 112, 64, l.length, X⟩ :: Y) (fun _ => E) (fun k => [(0, .slice a l.length c), (1, .int .i64 (q0 + costTo l k)), (5, .int .i64 k)]) 0 (Nat.zero_le _) ?_ (fun _ hl => hl) ?_
  · (repeat (first | exact subF_nil _ | (refine subF_cons rfl ?_) | (refine subF_consv rfl (by simp [costTo]) ?_)))
  intro k hk
  by_cases hlt : k < l.length
  rotate_left
  · obtain rfl : k = l.length := by omega
    repeat (first | refine SX.seq ?_ | refine SXl.nil ?_ | refine SX.region ?_ | refine SQ.thenNormal ?_ | refine SX.condF rfl ?_ | (refine l_move ?_; (refine SXl.v (OpW.move rfl) rfl ?_ ?_ ?_); rfl; rfl) | (refine l_assign ?_; (refine SXl.v (OpW.assign rfl) rfl ?_ ?_ ?_); rfl; rfl) | (refine l_len ?_; (refine SXl.v (OpW.len rfl) rfl ?_ ?_ ?_); rfl; rfl) | (refine l_lss ?_; (refine SXl.v (OpW.lssF rfl rfl (by omega)) rfl ?_ ?_ ?_); rfl; rfl) | refine SX.ret ?_ | refine SX.exit ?_ | refine SQ.thenExit ?_ | refine SQ.blockExit ?_)
    refine SQ.body1 rfl rfl (fun w' hl => ⟨rfl, hl⟩)
  obtain ⟨x, hx⟩ : ∃ x, l[k]? = some x := ⟨_, List.getElem?_eq_getElem hlt⟩
  have hfx := hfit x.1 (List.mem_map.2 ⟨x, List.mem_of_getElem? hx, rfl⟩)
  obtain ⟨hf1, hf2⟩ := hfx
  have hcn := costTo_next hx
  have hcm := costTo_mono l (show k + 1 ≤ l.length by omega)
  have hrow := hrw k x hx hlt
  obtain ⟨hm1, hm2⟩ := hpm k x hx hlt
  replace hm1 := hin _ hm1
  replace hm2 := hin _ hm2
  unfold costN at hcn
  refine SX.knowW (fun w' hl => ownW_addr (hl.own _ (.head _)).1 (by omega)) (fun ⟨g, eg⟩ => ?_)
  subst eg
  generalize hQ : q0 + (costTo l k : Int) = Q at *
  clear hrw hpm hin
  repeat (first | refine SX.seq ?_ | refine SXl.nil ?_ | refine SX.region ?_ | refine SQ.thenNormal ?_ | refine SX.block ?_ | refine SX.skip ?_ | refine SX.condT rfl ?_ | refine SX.condF rfl ?_ | (refine l_neq ?_; (first | refine SXl.v ((OpW.neqMod rfl rfl (by omega))) rfl ?_ ?_ ?_ | refine SXl.v (OpW.neqF rfl rfl (by omega)) rfl ?_ ?_ ?_); rfl; rfl) | (refine l_call ?_; (first | refine SXl.v (OpW.call rfl (fun w hl => heldInt_o (Q + 1) (by omega) (by omega) (by omega) (hl.own (kidsM x Q) (.tail _ hm1)).1)) rfl ?_ ?_ ?_ | refine SXl.v (OpW.call rfl (fun w hl => heldRule_o2 (Q + 62 + x.1.kids.length) _ (by omega) (by omega) (by omega) (by omega) (hl.own (rulesM x Q) (.tail _ hm2)).1)) rfl ?_ ?_ ?_); rfl; rfl) | (refine l_load ?_; (first | refine SXl.v (OpW.loadOwn 0 rfl rfl (hrow 0 _ rfl)) rfl ?_ ?_ ?_ | refine SXl.v (OpW.loadOwn 0 rfl rfl (hrow 1 _ rfl)) rfl ?_ ?_ ?_ | refine SXl.v (OpW.loadOwn 0 rfl rfl (hrow 2 _ rfl)) rfl ?_ ?_ ?_ | refine SXl.v (OpW.loadOwn 0 rfl rfl (hrow 3 _ rfl)) rfl ?_ ?_ ?_ | refine SXl.v (OpW.loadOwn 0 rfl rfl (hrow 4 _ rfl)) rfl ?_ ?_ ?_ | refine SXl.v (OpW.loadOwn 0 rfl rfl (hrow 5 _ rfl)) rfl ?_ ?_ ?_ | refine SXl.v (OpW.loadOwn 0 rfl rfl (hrow 6 _ rfl)) rfl ?_ ?_ ?_ | refine SXl.v (OpW.loadOwn 0 rfl rfl (hrow 7 _ rfl)) rfl ?_ ?_ ?_ | refine SXl.v (OpW.loadOwn 0 rfl rfl (hrow 8 _ rfl)) rfl ?_ ?_ ?_ | refine SXl.v (OpW.loadOwn 0 rfl rfl (hrow 9 _ rfl)) rfl ?_ ?_ ?_ | refine SXl.v (OpW.loadOwn 0 rfl rfl (hrow 10 _ rfl)) rfl ?_ ?_ ?_ | refine SXl.v (OpW.loadOwn 0 rfl rfl (hrow 11 _ rfl)) rfl ?_ ?_ ?_ | refine SXl.v (OpW.loadOwn 0 rfl rfl (hrow 12 _ rfl)) rfl ?_ ?_ ?_ | refine SXl.v (OpW.loadOwn 0 rfl rfl (hrow 13 _ rfl)) rfl ?_ ?_ ?_ | refine SXl.v (OpW.loadOwn 0 rfl rfl (hrow 14 _ rfl)) rfl ?_ ?_ ?_ | refine SXl.v (OpW.loadOwn 0 rfl rfl (hrow 15 _ rfl)) rfl ?_ ?_ ?_ | refine SXl.v (OpW.loadOwn 0 rfl rfl (hrow 16 _ rfl)) rfl ?_ ?_ ?_ | refine SXl.v (OpW.loadOwn 0 rfl rfl (hrow 17 _ rfl)) rfl ?_ ?_ ?_ | refine SXl.v (OpW.loadOwn 0 rfl rfl (hrow 18 _ rfl)) rfl ?_ ?_ ?_ | refine SXl.v (OpW.loadOwn 0 rfl rfl (hrow 19 _ rfl)) rfl ?_ ?_ ?_ | refine SXl.v (OpW.loadOwn 0 rfl rfl (hrow 20 _ rfl)) rfl ?_ ?_ ?_ | refine SXl.v (OpW.loadOwn 0 rfl rfl (hrow 21 _ rfl)) rfl ?_ ?_ ?_ | refine SXl.v (OpW.loadOwn 0 rfl rfl (hrow 22 _ rfl)) rfl ?_ ?_ ?_ | refine SXl.v (OpW.loadOwn 0 rfl rfl (hrow 23 _ rfl)) rfl ?_ ?_ ?_ | refine SXl.v (OpW.loadOwn 0 rfl rfl (hrow 24 _ rfl)) rfl ?_ ?_ ?_ | refine SXl.v (OpW.loadOwn 0 rfl rfl (hrow 25 _ rfl)) rfl ?_ ?_ ?_ | refine SXl.v (OpW.loadOwn 0 rfl rfl (hrow 26 _ rfl)) rfl ?_ ?_ ?_ | refine SXl.v (OpW.loadOwn 0 rfl rfl (hrow 27 _ rfl)) rfl ?_ ?_ ?_ | refine SXl.v (OpW.loadOwn 0 rfl rfl (hrow 28 _ rfl)) rfl ?_ ?_ ?_ | refine SXl.v (OpW.loadOwn 0 rfl rfl (hrow 29 _ rfl)) rfl ?_ ?_ ?_ | refine SXl.v (OpW.loadOwn 0 rfl rfl (hrow 30 _ rfl)) rfl ?_ ?_ ?_ | refine SXl.v (OpW.loadOwn 0 rfl rfl (hrow 31 _ rfl)) rfl ?_ ?_ ?_ | refine SXl.v (OpW.loadOwn 0 rfl rfl (hrow 32 _ rfl)) rfl ?_ ?_ ?_ | refine SXl.v (OpW.loadOwn 0 rfl rfl (hrow 33 _ rfl)) rfl ?_ ?_ ?_ | refine SXl.v (OpW.loadOwn 0 rfl rfl (hrow 34 _ rfl)) rfl ?_ ?_ ?_ | refine SXl.v (OpW.loadOwn 0 rfl rfl (hrow 35 _ rfl)) rfl ?_ ?_ ?_ | refine SXl.v (OpW.loadOwn 0 rfl rfl (hrow 36 _ rfl)) rfl ?_ ?_ ?_ | refine SXl.v (OpW.loadOwn 0 rfl rfl (hrow 37 _ rfl)) rfl ?_ ?_ ?_ | refine SXl.v (OpW.loadOwn 0 rfl rfl (hrow 38 _ rfl)) rfl ?_ ?_ ?_ | refine SXl.v (OpW.loadOwn 0 rfl rfl (hrow 39 _ rfl)) rfl ?_ ?_ ?_ | refine SXl.v (OpW.loadOwn 0 rfl rfl (hrow 40 _ rfl)) rfl ?_ ?_ ?_ | refine SXl.v (OpW.loadOwn 0 rfl rfl (hrow 41 _ rfl)) rfl ?_ ?_ ?_ | refine SXl.v (OpW.loadOwn 0 rfl rfl (hrow 42 _ rfl)) rfl ?_ ?_ ?_ | refine SXl.v (OpW.loadOwn 0 rfl rfl (hrow 43 _ rfl)) rfl ?_ ?_ ?_ | refine SXl.v (OpW.loadOwn 0 rfl rfl (hrow 44 _ rfl)) rfl ?_ ?_ ?_ | refine SXl.v (OpW.loadOwn 0 rfl rfl (hrow 45 _ rfl)) rfl ?_ ?_ ?_ | refine SXl.v (OpW.loadOwn 0 rfl rfl (hrow 46 _ rfl)) rfl ?_ ?_ ?_ | refine SXl.v (OpW.loadOwn 0 rfl rfl (hrow 47 _ rfl)) rfl ?_ ?_ ?_ | refine SXl.v (OpW.loadOwn 0 rfl rfl (hrow 48 _ rfl)) rfl ?_ ?_ ?_ | refine SXl.v (OpW.loadOwn 0 rfl rfl (hrow 49 _ rfl)) rfl ?_ ?_ ?_ | refine SXl.v (OpW.loadOwn 0 rfl rfl (hrow 50 _ rfl)) rfl ?_ ?_ ?_ | refine SXl.v (OpW.loadOwn 0 rfl rfl (hrow 51 _ rfl)) rfl ?_ ?_ ?_ | refine SXl.v (OpW.loadOwn 0 rfl rfl (hrow 52 _ rfl)) rfl ?_ ?_ ?_ | refine SXl.v (OpW.loadOwn 0 rfl rfl (hrow 53 _ rfl)) rfl ?_ ?_ ?_ | refine SXl.v (OpW.loadOwn 0 rfl rfl (hrow 54 _ rfl)) rfl ?_ ?_ ?_ | refine SXl.v (OpW.loadOwn 0 rfl rfl (hrow 55 _ rfl)) rfl ?_ ?_ ?_ | refine SXl.v (OpW.loadOwn 0 rfl rfl (hrow 56 _ rfl)) rfl ?_ ?_ ?_ | refine SXl.v (OpW.loadOwn 0 rfl rfl (hrow 57 _ rfl)) rfl ?_ ?_ ?_ | refine SXl.v (OpW.loadOwn 0 rfl rfl (hrow 58 _ rfl)) rfl ?_ ?_ ?_ | refine SXl.v (OpW.loadOwn 0 rfl rfl (hrow 59 _ rfl)) rfl ?_ ?_ ?_ | refine SXl.v (OpW.loadOwn 0 rfl rfl (hrow 60 _ rfl)) rfl ?_ ?_ ?_ | refine SXl.v (OpW.loadOwn 0 rfl rfl (hrow 61 _ rfl)) rfl ?_ ?_ ?_ | refine SXl.v (OpW.loadOwn 0 rfl rfl (hrow 62 _ rfl)) rfl ?_ ?_ ?_ | refine SXl.v (OpW.loadOwn 0 rfl rfl (hrow 63 _ rfl)) rfl ?_ ?_ ?_); rfl; rfl) | (refine l_fieldAddr ?_; (refine SXl.v (OpW.fieldAddr rfl) rfl ?_ ?_ ?_); rfl; rfl) | (refine l_move ?_; (refine SXl.v (OpW.move rfl) rfl ?_ ?_ ?_); rfl; rfl) | (refine l_assign ?_; (refine SXl.v (OpW.assign rfl) rfl ?_ ?_ ?_); rfl; rfl) | (refine l_len ?_; (refine SXl.v (OpW.len rfl) rfl ?_ ?_ ?_); rfl; rfl) | (refine l_add ?_; (first | refine SXl.v (OpW.succ rfl rfl (by omega)) rfl ?_ ?_ ?_ | refine SXl.v (OpW.addi rfl rfl (by omega) (by omega)) rfl ?_ ?_ ?_); rfl; rfl) | (refine l_eql ?_; (refine SXl.v (OpW.eql rfl rfl) rfl ?_ ?_ ?_); rfl; rfl) | (refine l_lss ?_; (first | refine SXl.v (OpW.lssT rfl rfl (by omega)) rfl ?_ ?_ ?_ | refine SXl.v (OpW.lssF rfl rfl (by omega)) rfl ?_ ?_ ?_); rfl; rfl) | (refine l_rem ?_; (refine SXl.v (OpW.rem (by omega) rfl rfl) rfl ?_ ?_ ?_); rfl; rfl) | (refine l_indexAddr ?_; (refine SXl.v (OpW.indexAddr (by omega) rfl rfl) rfl ?_ ?_ ?_); rfl; rfl) | refine SQ.blockNormal ?_)
  refine SQ.roundi (k + 1) (by omega) (by omega) ?_ (fun w' hl => hl)
  (repeat (first | exact subF_nil _ | (refine subF_cons rfl ?_) | (refine subF_consv rfl (by congr 1; omega) ?_)))
end
end Go.Proofs.Ytkkjjhooamlljaa
namespace Go.Proofs.Ytkkjjhooamlljaa
open Go.RowKit

theorem keepB_far {P S : Nat → Prop} {W w w' : World} (h : KeepB P W w) (hm : Mod S w w') (hs : ∀ k, k < W.heap.size → ¬ S k) (hz : W.heap.size ≤ w.heap.size) : KeepB P W w' := fun g e N hf => by
  have hg := hf.size
  have e1 := hm.block g (by omega) (hs g hg)
  exact ⟨(h g e N hf).1.mod hm (hs g hg), fun hp => e1.trans ((h g e N hf).2 hp)⟩
/-- What marks keep: blocks that may be written stay so; those of no type in P are as they were. -/
def markRg (W : World) (R : Nat → Prop) (P : Nat → Prop) : Rg W where
  p := fun k => R k ∧ k < W.heap.size
  q := fun _ => False
  J := fun w => W.heap.size ≤ w.heap.size ∧ KeepB P W w
  low := fun _ h => h.2
  sub := fun _ h => h.elim
  keep := fun _ _ _ ⟨hz, h1⟩ hm hs => ⟨Nat.le_trans hz hm.size, keepB_far h1 hm (fun k hk h => (hs k hk h).elim) hz⟩
theorem modlow {R : Nat → Prop} {W w w' : World} (h : Mod (fun k => R k ∧ k < W.heap.size) w w') : Mod R w w' := h.mono fun _ _ h => h.1
theorem Wr.low {e sz : Nat} {R : Nat → Prop} {w : World} {a : Option Addr} {n : Nat} (h : Wr e sz R w a n) : Wr e sz (fun k => R k ∧ k < w.heap.size) w a n := h.weaken fun b hb h => ⟨h, hb⟩

abbrev NoT (_ : Nat) : Prop := False
theorem KeepB.low {R : Nat → Prop} {P : Nat → Prop} {W w : World} (h : (markRg W R P).J w) : KeepB P W w := h.2

end Go.Proofs.Ytkkjjhooamlljaa
namespace Go.Proofs.Ytkkjjhooamlljaa
open Go.RowKit

theorem toSpace_any (x : Space) (w : World) : Calls Try.prog 72 #[.agg #[.int .i64 x.mode, .int .i64 x.n]] w fun e w' => e = .returned (.agg #[.int .i64 x.mode, .int .i64 x.n]) ∧ Mod (fun _ => False) w w' := by
  go_enter Try.func72, Try.ntmps72
  go_wp2
  refine bodyPost_ret (v := .agg #[.int .i64 x.mode, .int .i64 x.n]) (by simp [results, Try.results72, go_sem]) rfl ⟨rfl, by (repeat (first | with_reducible exact Mod.refl _ _ | with_reducible refine Mod.drewN ?_ _ | with_reducible refine Mod.drew ?_ | with_reducible refine Mod.alloc ?_ _ | ((with_reducible refine Mod.setNew ?_ ?_ _ _ _); (rotate_left; omega)) | with_reducible refine Mod.setAt ?_ _ _ _ ))⟩

theorem eqSpace_any (x y : Space) (w : World) : Calls Try.prog 77 #[.agg #[.int .i64 x.mode, .int .i64 x.n], .agg #[.int .i64 y.mode, .int .i64 y.n]] w fun e w' => e = .returned (.bool (decide (x = y))) ∧ Mod (fun _ => False) w w' := by
  obtain ⟨x0, x1⟩ := x
  obtain ⟨y0, y1⟩ := y
  go_enter Try.func77, Try.ntmps77
  go_wp2
  all_goals
    go_ret
    refine ⟨ret_bool ?_, by (repeat (first | with_reducible exact Mod.refl _ _ | with_reducible refine Mod.drewN ?_ _ | with_reducible refine Mod.drew ?_ | with_reducible refine Mod.alloc ?_ _ | ((with_reducible refine Mod.setNew ?_ ?_ _ _ _); (rotate_left; omega)) | with_reducible refine Mod.setAt ?_ _ _ _ ))⟩
    simp_all

end Go.Proofs.Ytkkjjhooamlljaa
namespace Go.Proofs.Ytkkjjhooamlljaa
open Go.RowKit

/-- What holds after a struct with one new slice of frames was made. -/
def NewFrames (l : List Frame) (v : Nat → Value) (w : World) (en : Ending) (w' : World) : Prop :=
  ∃ g, en = .returned (v g) ∧ w.heap.size ≤ g ∧ w'.heap[g]? = some (.cells (l.map Frame.cells).flatten.toArray 69 (0, 0)) ∧ Mod (fun _ => False) w w'

set_option maxHeartbeats 1000000 in
theorem toBox_any (x : Memo) (a : Option Addr) (c : Nat) (R : Nat → Prop) (w : World) (hl : x.frames.length ≤ 1048576) (h : SliceAt (Flat Frame.cells) 5 R w a x.frames) :
    Calls Try.prog 73 #[.agg #[.int .i64 x.bw, .int .i64 x.bh, .int .i64 x.bb, .slice a x.frames.length c]] w (NewFrames x.frames (fun g => .agg #[.int .i64 x.bw, .int .i64 x.bh, .int .i64 x.bb, .slice (some ⟨g, 0, none⟩) x.frames.length x.frames.length]) w) := by
  have H := hid h
  clear h
  go_enter Try.func73, Try.ntmps73
  go_wp2_with fail
  refine (toFrameS_any x.frames _ _ R _ hl ?_).mono ?_
  · refine H.out.flatKeep ?_
    (repeat (first | with_reducible exact Mod.refl _ _ | with_reducible refine Mod.drewN ?_ _ | with_reducible refine Mod.drew ?_ | with_reducible refine Mod.alloc ?_ _ | ((with_reducible refine Mod.setNew ?_ ?_ _ _ _); (rotate_left; omega)) | with_reducible refine Mod.setAt ?_ _ _ _ ))
  rintro e w1 ⟨g, rfl, hg, hb, hm1⟩
  obtain ⟨hq1, hz1⟩ := mcell hm1
  have hs1 := hm1.size
  repeat (rw [World.size_alloc] at hs1)
  have hr1_0 : w.heap.size < w1.heap.size := by omega
  have hr1_1 : w.heap.size + 1 < w1.heap.size := by omega
  have hr1_2 : w.heap.size + 1 + 1 < w1.heap.size := by omega
  simp only [World.size_alloc, World.size_setCell] at hg
  have hne : g ≠ w.heap.size + 1 + 1 := by omega
  have hne' : g ≠ w.heap.size + 1 := by omega
  have Hb := hid hb
  clear hb
  go_wp2
  refine bodyPost_ret (v := .agg #[.int .i64 x.bw, .int .i64 x.bh, .int .i64 x.bb, .slice (some ⟨g, 0, none⟩) x.frames.length x.frames.length]) ?_ rfl ⟨g, rfl, by omega, ?_, ?_⟩
  · simp [results, Try.results73, go_sem, *]
  · simp only [blk_far hne, blk_far hne']
    exact Hb.out
  · (repeat (first | with_reducible exact Mod.refl _ _ | with_reducible refine Mod.drewN ?_ _ | with_reducible refine Mod.drew ?_ | with_reducible refine Mod.alloc ?_ _ | ((with_reducible refine Mod.setNew ?_ ?_ _ _ _); (rotate_left; omega)) | with_reducible refine Mod.setAt ?_ _ _ _ | with_reducible exact hm1 | with_reducible refine Mod.thenNone ?_ hm1 ))

set_option maxRecDepth 100000 in
set_option maxHeartbeats 2000000 in
theorem toMemo_any (x : Memo) (a : Option Addr) (c : Nat) (R : Nat → Prop) (w : World) (hl : x.frames.length ≤ 1048576) (h : SliceAt (Flat Frame.cells) 5 R w a x.frames) :
    Calls Try.prog 54 #[.agg #[.int .i64 x.node, .int .i64 x.wide.mode, .int .i64 x.wide.n, .int .i64 x.high.mode, .int .i64 x.high.n, .bool x.rtl, .int .i64 x.bw, .int .i64 x.bh, .int .i64 x.bb, .slice a x.frames.length c]] w (NewFrames x.frames (fun g => .agg #[.int .i64 x.node, .int .i64 x.wide.mode, .int .i64 x.wide.n, .int .i64 x.high.mode, .int .i64 x.high.n, .bool x.rtl, .int .i64 x.bw, .int .i64 x.bh, .int .i64 x.bb, .slice (some ⟨g, 0, none⟩) x.frames.length x.frames.length]) w) := by
  have H := hid h
  clear h
  go_enter Try.func54, Try.ntmps54
  go_wp2_with fail
  refine (toSpace_any x.wide _).mono ?_
  rintro e w1 ⟨rfl, hm1⟩
  obtain ⟨hq1, hz1⟩ := mcell hm1
  have hs1 := hm1.size
  repeat (rw [World.size_alloc] at hs1)
  have hr1_0 : w.heap.size < w1.heap.size := by omega
  have hr1_1 : w.heap.size + 1 < w1.heap.size := by omega
  have hr1_2 : w.heap.size + 1 + 1 < w1.heap.size := by omega
  have hM1 : Mod (fun _ => False) w w1 := by (repeat (first | with_reducible exact Mod.refl _ _ | with_reducible refine Mod.drewN ?_ _ | with_reducible refine Mod.drew ?_ | with_reducible refine Mod.alloc ?_ _ | ((with_reducible refine Mod.setNew ?_ ?_ _ _ _); (rotate_left; omega)) | with_reducible refine Mod.setAt ?_ _ _ _ | with_reducible exact hm1 | with_reducible refine Mod.thenNone ?_ hm1 ))
  go_wp2_with fail
  refine (toSpace_any x.high _).mono ?_
  rintro e w2 ⟨rfl, hm2⟩
  obtain ⟨hq2, hz2⟩ := mcell hm2
  have hs2 := hm2.size
  repeat (rw [World.size_setCell] at hs2)
  have hr2_0 : w.heap.size < w2.heap.size := by omega
  have hr2_1 : w.heap.size + 1 < w2.heap.size := by omega
  have hr2_2 : w.heap.size + 1 + 1 < w2.heap.size := by omega
  have hM2 : Mod (fun _ => False) w w2 := by (repeat (first | with_reducible exact Mod.refl _ _ | with_reducible refine Mod.drewN ?_ _ | with_reducible refine Mod.drew ?_ | with_reducible refine Mod.alloc ?_ _ | ((with_reducible refine Mod.setNew ?_ ?_ _ _ _); (rotate_left; omega)) | with_reducible refine Mod.setAt ?_ _ _ _ | with_reducible exact hm2 | with_reducible refine Mod.thenNone ?_ hm2 | with_reducible exact hM1 | with_reducible refine Mod.thenNone ?_ hM1 ))
  go_wp2_with fail
  refine (toBox_any x _ _ R _ hl ?_).mono ?_
  · refine H.out.flatKeep ?_
    (repeat (first | with_reducible exact Mod.refl _ _ | with_reducible refine Mod.drewN ?_ _ | with_reducible refine Mod.drew ?_ | with_reducible refine Mod.alloc ?_ _ | ((with_reducible refine Mod.setNew ?_ ?_ _ _ _); (rotate_left; omega)) | with_reducible refine Mod.setAt ?_ _ _ _ | with_reducible exact hM2 | with_reducible refine Mod.thenNone ?_ hM2 ))
  rintro e w3 ⟨g, rfl, hg, hb, hm3⟩
  obtain ⟨hq3, hz3⟩ := mcell hm3
  have hs3 := hm3.size
  repeat (rw [World.size_setCell] at hs3)
  have hr3_0 : w.heap.size < w3.heap.size := by omega
  have hr3_1 : w.heap.size + 1 < w3.heap.size := by omega
  have hr3_2 : w.heap.size + 1 + 1 < w3.heap.size := by omega
  simp only [World.size_alloc, World.size_setCell] at hg
  have hne : g ≠ w.heap.size + 1 + 1 := by omega
  have hne' : g ≠ w.heap.size + 1 := by omega
  have Hb := hid hb
  have hM3 : Mod (fun _ => False) w w3 := by (repeat (first | with_reducible exact Mod.refl _ _ | with_reducible refine Mod.drewN ?_ _ | with_reducible refine Mod.drew ?_ | with_reducible refine Mod.alloc ?_ _ | ((with_reducible refine Mod.setNew ?_ ?_ _ _ _); (rotate_left; omega)) | with_reducible refine Mod.setAt ?_ _ _ _ | with_reducible exact hm3 | with_reducible refine Mod.thenNone ?_ hm3 | with_reducible exact hM2 | with_reducible refine Mod.thenNone ?_ hM2 ))
  clear hb hm1 hm2 hm3 hM1 hM2
  go_wp2
  refine bodyPost_ret (v := .agg #[.int .i64 x.node, .int .i64 x.wide.mode, .int .i64 x.wide.n, .int .i64 x.high.mode, .int .i64 x.high.n, .bool x.rtl, .int .i64 x.bw, .int .i64 x.bh, .int .i64 x.bb, .slice (some ⟨g, 0, none⟩) x.frames.length x.frames.length]) ?_ rfl ⟨g, rfl, by omega, ?_, ?_⟩
  · simp [results, Try.results54, go_sem, *]
  · simp only [blk_far hne, blk_far hne']
    exact Hb.out
  · (repeat (first | with_reducible exact Mod.refl _ _ | with_reducible refine Mod.drewN ?_ _ | with_reducible refine Mod.drew ?_ | with_reducible refine Mod.alloc ?_ _ | ((with_reducible refine Mod.setNew ?_ ?_ _ _ _); (rotate_left; omega)) | with_reducible refine Mod.setAt ?_ _ _ _ | with_reducible exact hM3 | with_reducible refine Mod.thenNone ?_ hM3 ))

set_option maxHeartbeats 1000000 in
theorem eqBox_any (x : Memo) (a a' : Option Addr) (c c' : Nat) (R S : Nat → Prop) (w : World) (hl : x.frames.length ≤ 1048576) (h : SliceAt (Flat Frame.cells) 5 R w a x.frames) (h' : SliceAt (Flat Frame.cells) 5 S w a' x.frames) :
    Calls Try.prog 78 #[.agg #[.int .i64 x.bw, .int .i64 x.bh, .int .i64 x.bb, .slice a x.frames.length c], .agg #[.int .i64 x.bw, .int .i64 x.bh, .int .i64 x.bb, .slice a' x.frames.length c']] w fun e w' => e = .returned (.bool true) ∧ Mod (fun _ => False) w w' := by
  have H := hid h
  have H' := hid h'
  clear h h'
  go_enter Try.func78, Try.ntmps78
  go_wp2_with fail
  refine (eqFrameS_any x.frames x.frames _ _ _ _ _ _ _ (by omega) (by omega) (H.out.flatKeep (by (repeat (first | with_reducible exact Mod.refl _ _ | with_reducible refine Mod.drewN ?_ _ | with_reducible refine Mod.drew ?_ | with_reducible refine Mod.alloc ?_ _ | ((with_reducible refine Mod.setNew ?_ ?_ _ _ _); (rotate_left; omega)) | with_reducible refine Mod.setAt ?_ _ _ _ )))) (H'.out.flatKeep (by (repeat (first | with_reducible exact Mod.refl _ _ | with_reducible refine Mod.drewN ?_ _ | with_reducible refine Mod.drew ?_ | with_reducible refine Mod.alloc ?_ _ | ((with_reducible refine Mod.setNew ?_ ?_ _ _ _); (rotate_left; omega)) | with_reducible refine Mod.setAt ?_ _ _ _ ))))).mono ?_
  rintro e w1 ⟨rfl, hm1⟩
  rw [decide_eq_true rfl]
  go_wp2
  go_ret
  exact ⟨rfl, by (repeat (first | with_reducible exact Mod.refl _ _ | with_reducible refine Mod.drewN ?_ _ | with_reducible refine Mod.drew ?_ | with_reducible refine Mod.alloc ?_ _ | ((with_reducible refine Mod.setNew ?_ ?_ _ _ _); (rotate_left; omega)) | with_reducible refine Mod.setAt ?_ _ _ _ | with_reducible exact hm1 | with_reducible refine Mod.thenNone ?_ hm1 ))⟩

set_option maxHeartbeats 1000000 in
theorem eqMemo_any (x : Memo) (a a' : Option Addr) (c c' : Nat) (R S : Nat → Prop) (w : World) (hl : x.frames.length ≤ 1048576) (h : SliceAt (Flat Frame.cells) 5 R w a x.frames) (h' : SliceAt (Flat Frame.cells) 5 S w a' x.frames) :
    Calls Try.prog 60 #[.agg #[.int .i64 x.node, .int .i64 x.wide.mode, .int .i64 x.wide.n, .int .i64 x.high.mode, .int .i64 x.high.n, .bool x.rtl, .int .i64 x.bw, .int .i64 x.bh, .int .i64 x.bb, .slice a x.frames.length c], .agg #[.int .i64 x.node, .int .i64 x.wide.mode, .int .i64 x.wide.n, .int .i64 x.high.mode, .int .i64 x.high.n, .bool x.rtl, .int .i64 x.bw, .int .i64 x.bh, .int .i64 x.bb, .slice a' x.frames.length c']] w fun e w' => e = .returned (.bool true) ∧ Mod (fun _ => False) w w' := by
  have H := hid h
  have H' := hid h'
  clear h h'
  go_enter Try.func60, Try.ntmps60
  go_wp2_with fail
  refine (eqSpace_any x.wide x.wide _).mono ?_
  rintro e w1 ⟨rfl, hm1⟩
  rw [decide_eq_true rfl]
  obtain ⟨hq1, hz1⟩ := mcell hm1
  have hs1 := hm1.size
  repeat (rw [World.size_alloc] at hs1)
  have hr1_0 : w.heap.size < w1.heap.size := by omega
  have hr1_1 : w.heap.size + 1 < w1.heap.size := by omega
  have hM1 : Mod (fun _ => False) w w1 := by (repeat (first | with_reducible exact Mod.refl _ _ | with_reducible refine Mod.drewN ?_ _ | with_reducible refine Mod.drew ?_ | with_reducible refine Mod.alloc ?_ _ | ((with_reducible refine Mod.setNew ?_ ?_ _ _ _); (rotate_left; omega)) | with_reducible refine Mod.setAt ?_ _ _ _ | with_reducible exact hm1 | with_reducible refine Mod.thenNone ?_ hm1 ))
  go_wp2_with fail
  refine (eqSpace_any x.high x.high _).mono ?_
  rintro e w2 ⟨rfl, hm2⟩
  rw [decide_eq_true rfl]
  obtain ⟨hq2, hz2⟩ := mcell hm2
  have hs2 := hm2.size
  repeat (unfold World.drewN at hs2)
  have hr2_0 : w.heap.size < w2.heap.size := by omega
  have hr2_1 : w.heap.size + 1 < w2.heap.size := by omega
  have hM2 : Mod (fun _ => False) w w2 := by (repeat (first | with_reducible exact Mod.refl _ _ | with_reducible refine Mod.drewN ?_ _ | with_reducible refine Mod.drew ?_ | with_reducible refine Mod.alloc ?_ _ | ((with_reducible refine Mod.setNew ?_ ?_ _ _ _); (rotate_left; omega)) | with_reducible refine Mod.setAt ?_ _ _ _ | with_reducible exact hm2 | with_reducible refine Mod.thenNone ?_ hm2 | with_reducible exact hM1 | with_reducible refine Mod.thenNone ?_ hM1 ))
  go_wp2_with fail
  refine (eqBox_any x _ _ _ _ R S _ hl (H.out.flatKeep hM2) (H'.out.flatKeep hM2)).mono ?_
  rintro e w3 ⟨rfl, hm3⟩
  go_wp2
  go_ret
  exact ⟨rfl, by (repeat (first | with_reducible exact Mod.refl _ _ | with_reducible refine Mod.drewN ?_ _ | with_reducible refine Mod.drew ?_ | with_reducible refine Mod.alloc ?_ _ | ((with_reducible refine Mod.setNew ?_ ?_ _ _ _); (rotate_left; omega)) | with_reducible refine Mod.setAt ?_ _ _ _ | with_reducible exact hm3 | with_reducible refine Mod.thenNone ?_ hm3 | with_reducible exact hM2 | with_reducible refine Mod.thenNone ?_ hM2 ))⟩

theorem szBox_any (x0 x1 x2 : Int) (n c : Nat) (a : Option Addr) (left : Int) (h0 : 0 ≤ left) (h1 : left ≤ 1048576) (hn : n ≤ 9223372036854775807) (w : World) : Calls Try.prog 68 #[.agg #[.int .i64 x0, .int .i64 x1, .int .i64 x2, .slice a n c], .int .i64 left] w fun e w' => e = .returned (.int .i64 (if left < n then -1 else left - n)) ∧ Mod (fun _ => False) w w' := by
  by_cases h : left < n
  · rw [if_pos h]
    go_enter Try.func68, Try.ntmps68
    go_wp2_with fail
    refine (szFrameS_any _ _ _ _ h0 h1 hn _).mono ?_
    rintro e w' ⟨rfl, rfl⟩
    rw [if_pos h]
    go_wp2
    go_ret
    exact ⟨rfl, by (repeat (first | with_reducible exact Mod.refl _ _ | with_reducible refine Mod.drewN ?_ _ | with_reducible refine Mod.drew ?_ | with_reducible refine Mod.alloc ?_ _ | ((with_reducible refine Mod.setNew ?_ ?_ _ _ _); (rotate_left; omega)) | with_reducible refine Mod.setAt ?_ _ _ _ ))⟩
  · rw [if_neg h]
    have h2 : 0 ≤ left - n := by omega
    go_enter Try.func68, Try.ntmps68
    go_wp2_with fail
    refine (szFrameS_any _ _ _ _ h0 h1 hn _).mono ?_
    rintro e w' ⟨rfl, rfl⟩
    rw [if_neg (by omega)]
    go_wp2
    go_ret
    exact ⟨rfl, by (repeat (first | with_reducible exact Mod.refl _ _ | with_reducible refine Mod.drewN ?_ _ | with_reducible refine Mod.drew ?_ | with_reducible refine Mod.alloc ?_ _ | ((with_reducible refine Mod.setNew ?_ ?_ _ _ _); (rotate_left; omega)) | with_reducible refine Mod.setAt ?_ _ _ _ ))⟩
theorem szMemo_any (x : Memo) (n c : Nat) (a : Option Addr) (left : Int) (h0 : 0 ≤ left) (h1 : left ≤ 1048576) (hn : n ≤ 9223372036854775807) (w : World) : Calls Try.prog 51 #[.agg #[.int .i64 x.node, .int .i64 x.wide.mode, .int .i64 x.wide.n, .int .i64 x.high.mode, .int .i64 x.high.n, .bool x.rtl, .int .i64 x.bw, .int .i64 x.bh, .int .i64 x.bb, .slice a n c], .int .i64 left] w fun e w' => e = .returned (.int .i64 (if left < n then -1 else left - n)) ∧ Mod (fun _ => False) w w' := by
  by_cases h : left < n
  · rw [if_pos h]
    go_enter Try.func51, Try.ntmps51
    go_wp2_with fail
    refine (szBox_any _ _ _ _ _ _ _ h0 h1 hn _).mono ?_
    rintro e w1 ⟨rfl, hm1⟩
    rw [if_pos h]
    go_wp2
    go_ret
    exact ⟨rfl, by (repeat (first | with_reducible exact Mod.refl _ _ | with_reducible refine Mod.drewN ?_ _ | with_reducible refine Mod.drew ?_ | with_reducible refine Mod.alloc ?_ _ | ((with_reducible refine Mod.setNew ?_ ?_ _ _ _); (rotate_left; omega)) | with_reducible refine Mod.setAt ?_ _ _ _ | with_reducible exact hm1 | with_reducible refine Mod.thenNone ?_ hm1 ))⟩
  · rw [if_neg h]
    have h2 : 0 ≤ left - n := by omega
    go_enter Try.func51, Try.ntmps51
    go_wp2_with fail
    refine (szBox_any _ _ _ _ _ _ _ h0 h1 hn _).mono ?_
    rintro e w1 ⟨rfl, hm1⟩
    rw [if_neg (by omega)]
    go_wp2
    go_ret
    exact ⟨rfl, by (repeat (first | with_reducible exact Mod.refl _ _ | with_reducible refine Mod.drewN ?_ _ | with_reducible refine Mod.drew ?_ | with_reducible refine Mod.alloc ?_ _ | ((with_reducible refine Mod.setNew ?_ ?_ _ _ _); (rotate_left; omega)) | with_reducible refine Mod.setAt ?_ _ _ _ | with_reducible exact hm1 | with_reducible refine Mod.thenNone ?_ hm1 ))⟩

/-- A memo of machine numbers. -/
def Memo.ok (x : Memo) : Prop := I64 x.node ∧ I64 x.bw ∧ I64 x.bh ∧ ∀ f ∈ x.frames, f.ok
set_option maxRecDepth 100000 in
theorem rd_Space {w : World} {cs : List Value} (h : Rd Try.prog w 97 cs) : ∃ x : Space, cs = x.cells := by
  obtain ⟨hl, hf⟩ := h.struct Try.underlying97
  have hl2 : cs.length = 2 := hl.trans (by kernel_rfl)
  have c1 : Try.prog.cellsOf 3 = 1 := by kernel_rfl
  match cs, hl2 with
  | [c0, c1'], _ =>
    obtain ⟨n0, e0, _⟩ := (hf 0 _ rfl).int Try.underlying3
    obtain ⟨n1, e1, _⟩ := (hf 1 _ rfl).int Try.underlying3
    simp [c1] at e0 e1
    exact ⟨⟨n0, n1⟩, by simp [Space.cells, e0, e1]⟩
set_option maxRecDepth 100000 in
theorem rd_Box {w : World} {cs : List Value} (h : Rd Try.prog w 99 cs) : ∃ (x0 x1 x2 : Int) (a : Option Addr) (l : List Frame) (c : Nat), cs = [.int .i64 x0, .int .i64 x1, .int .i64 x2, .slice a l.length c] ∧ I64 x0 ∧ I64 x1 ∧ l.length ≤ 9223372036854775807 ∧ SliceAt (Flat Frame.cells) 5 (fun k => k < w.heap.size) w a l ∧ ∀ f ∈ l, f.ok := by
  obtain ⟨hl, hf⟩ := h.struct Try.underlying99
  have hl2 : cs.length = 4 := hl.trans (by kernel_rfl)
  have c1 : Try.prog.cellsOf 3 = 1 := by kernel_rfl
  have c2 : Try.prog.cellsOf 29 = 1 := by kernel_rfl
  match cs, hl2 with
  | [q0, q1, q2, q3], _ =>
    obtain ⟨n0, e0, w0⟩ := (hf 0 _ rfl).int Try.underlying3
    obtain ⟨n1, e1, w1⟩ := (hf 1 _ rfl).int Try.underlying3
    obtain ⟨n2, e2, w2⟩ := (hf 2 _ rfl).int Try.underlying3
    obtain ⟨a, l, c, e, h1, h2, h3⟩ := (hf 3 _ rfl).list (rep := fun _ r x => r = Frame.cells x ∧ x.ok) (sz := 5) Try.underlying29 (by kernel_rfl) (by decide) (fun cs h => rd_Frame h)
    simp [c1, c2] at e0 e1 e2 e
    unfold maxLen at h2
    obtain ⟨h4, h5⟩ := h3.split
    exact ⟨n0, n1, n2, a, l, c, by simp [e0, e1, e2, e], wf_i64 w0, wf_i64 w1, by omega, h4, h5⟩
set_option maxRecDepth 100000 in
theorem rd_Memo {w : World} {cs : List Value} (h : Rd Try.prog w 101 cs) : ∃ (x : Memo) (a : Option Addr) (c : Nat), cs = [.int .i64 x.node, .int .i64 x.wide.mode, .int .i64 x.wide.n, .int .i64 x.high.mode, .int .i64 x.high.n, .bool x.rtl, .int .i64 x.bw, .int .i64 x.bh, .int .i64 x.bb, .slice a x.frames.length c] ∧ x.ok ∧ x.frames.length ≤ 9223372036854775807 ∧ SliceAt (Flat Frame.cells) 5 (fun k => k < w.heap.size) w a x.frames := by
  obtain ⟨hl, hf⟩ := h.struct Try.underlying101
  have hl2 : cs.length = 10 := hl.trans (by kernel_rfl)
  have c1 : Try.prog.cellsOf 3 = 1 := by kernel_rfl
  have c2 : Try.prog.cellsOf 4 = 1 := by kernel_rfl
  have c3 : Try.prog.cellsOf 97 = 2 := by kernel_rfl
  have c4 : Try.prog.cellsOf 99 = 4 := by kernel_rfl
  match cs, hl2 with
  | [q0, q1, q2, q3, q4, q5, q6, q7, q8, q9], _ =>
    obtain ⟨n0, e0, w0⟩ := (hf 0 _ rfl).int Try.underlying3
    obtain ⟨x1, e1⟩ := rd_Space (hf 1 _ rfl)
    obtain ⟨x2, e2⟩ := rd_Space (hf 2 _ rfl)
    obtain ⟨b3, e3⟩ := (hf 3 _ rfl).bool Try.underlying4
    obtain ⟨y0, y1, y2, a, l, c, e4, i0, i1, hn, hs, hk⟩ := rd_Box (hf 4 _ rfl)
    simp [c1, c2, c3, c4, Space.cells] at e0 e1 e2 e3 e4
    exact ⟨⟨n0, x1, x2, b3, y0, y1, y2, l⟩, a, c, by simp [e0, e1, e2, e3, e4], ⟨wf_i64 w0, i0, i1, hk⟩, hn, hs⟩

/-- A memo's value reads as the memo. -/
def MemoAt (x : Memo) (w : World) (v : Value) : Prop := ∃ a c, v = .agg #[.int .i64 x.node, .int .i64 x.wide.mode, .int .i64 x.wide.n, .int .i64 x.high.mode, .int .i64 x.high.n, .bool x.rtl, .int .i64 x.bw, .int .i64 x.bh, .int .i64 x.bb, .slice a x.frames.length c] ∧ ∃ R, SliceAt (Flat Frame.cells) 5 R w a x.frames
theorem MemoAt.keep {x : Memo} {w w' : World} {v : Value} (h : MemoAt x w v) (hm : Mod (fun _ => False) w w') : MemoAt x w' v := by
  obtain ⟨a, c, h1, R, h2⟩ := h
  exact ⟨a, c, h1, R, h2.flatKeep hm⟩
theorem NewFrames.at {w w' : World} {x : Memo} {en : Ending} (h : NewFrames x.frames (fun g => .agg #[.int .i64 x.node, .int .i64 x.wide.mode, .int .i64 x.wide.n, .int .i64 x.high.mode, .int .i64 x.high.n, .bool x.rtl, .int .i64 x.bw, .int .i64 x.bh, .int .i64 x.bb, .slice (some ⟨g, 0, none⟩) x.frames.length x.frames.length]) w en w') :
    ∃ v, en = .returned v ∧ MemoAt x w' v ∧ Mod (fun _ => False) w w' := by
  obtain ⟨g, he, hg, hb, hm⟩ := h
  exact ⟨_, he, ⟨_, _, rfl, _, flat_of_blk hb (fun _ => rfl)⟩, hm⟩

end Go.Proofs.Ytkkjjhooamlljaa
namespace Go.Proofs.Ytkkjjhooamlljaa
open Go.RowKit

/-- A memo's cells, its frames' slice among them. -/
def memoRow (x : Memo) (a : Option Addr) (c : Nat) : List Value := [.int .i64 x.node, .int .i64 x.wide.mode, .int .i64 x.wide.n, .int .i64 x.high.mode, .int .i64 x.high.n, .bool x.rtl, .int .i64 x.bw, .int .i64 x.bh, .int .i64 x.bb, .slice a x.frames.length c]
/-- A memo's cells read as the memo; o: its frames may be written. -/
def MemoIn (o : Bool) (R : Nat → Prop) (w : World) (cs : List Value) (x : Memo) : Prop :=
  ∃ a c, cs = memoRow x a c ∧ SliceAt (Flat Frame.cells) 5 R w a x.frames ∧ (o = true → Wr 69 5 R w a x.frames.length)
theorem MemoIn.mod {o : Bool} {R S : Nat → Prop} {w w' : World} {cs : List Value} {x : Memo} (h : MemoIn o R w cs x) (hm : Mod S w w') (hs : ∀ k, R k → ¬ S k) : MemoIn o R w' cs x := by
  obtain ⟨a, c, h1, h2, h3⟩ := h
  exact ⟨a, c, h1, h2.flatMod hm hs, fun ho => (h3 ho).mod hm hs⟩
theorem MemoIn.keep {o : Bool} {R : Nat → Prop} {w w' : World} {cs : List Value} {x : Memo} (h : MemoIn o R w cs x) (hm : Mod (fun _ => False) w w') : MemoIn o R w' cs x := h.mod hm fun _ _ f => f
theorem MemoIn.wide {o : Bool} {R S : Nat → Prop} {w : World} {cs : List Value} {x : Memo} (h : MemoIn o R w cs x) (hs : ∀ k, k < w.heap.size → R k → S k) : MemoIn o S w cs x := by
  obtain ⟨a, c, h1, h2, h3⟩ := h
  exact ⟨a, c, h1, SliceAt.wide h2 hs, fun ho => (h3 ho).weaken hs⟩
abbrev MemoSlice (o : Bool) (R : Nat → Prop) (w : World) (a : Option Addr) (l : List Memo) : Prop := SliceAt (MemoIn o R) 10 R w a l
theorem MemoSlice.mod {o : Bool} {R S : Nat → Prop} {w w' : World} {a : Option Addr} {l : List Memo} (h : MemoSlice o R w a l) (hm : Mod S w w') (hs : ∀ k, R k → ¬ S k) : MemoSlice o R w' a l := SliceAt.mod h hm hs fun _ _ hx => hx.mod hm hs
theorem MemoSlice.keep {o : Bool} {R : Nat → Prop} {w w' : World} {a : Option Addr} {l : List Memo} (h : MemoSlice o R w a l) (hm : Mod (fun _ => False) w w') : MemoSlice o R w' a l := h.mod hm fun _ _ f => f

theorem info_Memo : (Try.prog.info? 117).map (fun i => (i.zero, i.size, i.bytes)) = some (some (.agg #[.int .i64 0, .int .i64 0, .int .i64 0, .int .i64 0, .int .i64 0, .bool false, .int .i64 0, .int .i64 0, .int .i64 0, .slice none 0 0]), 10, 96) := by kernel_rfl

set_option maxRecDepth 100000 in
set_option maxHeartbeats 4000000 in
theorem toMemoS_any (l : List Memo) (o : Bool) (a : Option Addr) (c : Nat) (R : Nat → Prop) (w : World) (hl : l.length ≤ 1048576) (hf : ∀ x ∈ l, x.frames.length ≤ 1048576) (h : MemoSlice o R w a l) :
    Calls Try.prog 34 #[.slice a l.length c] w (NewNest (MemoIn true) 117 10 w l) := by
  have H := hid h
  have HF := hid hf
  clear h hf
  obtain ⟨i0, hi, hz0, hz1, hz2⟩ := info_parts info_Memo
  have hmk : ∀ W : World, (Instr.makeSlice 36 (.int .i64 (l.length : Int)) (.int .i64 (l.length : Int))).run Try.prog W = .ok (.slice (some ⟨W.heap.size, 0, none⟩) l.length l.length) (W.alloc (.cells (madeCells (Value.cells (.agg #[.int .i64 0, .int .i64 0, .int .i64 0, .int .i64 0, .int .i64 0, .bool false, .int .i64 0, .int .i64 0, .int .i64 0, .slice none 0 0])) (l.length * 10)) 117)) := by
    intro W
    have := run_make (P := Try.prog) W 36 117 i0 _ Try.underlying36 hi hz0 .i64 .i64 l.length l.length (by omega) (by omega) (by rw [hz2]; omega) (by omega)
    simpa [hz1] using this
  clear hz0 hz1 hz2 hi
  go_enter Try.func34, Try.ntmps34
  go_wp2
  go_loopw [4] (fun i wr => ∃ (k : Nat) (rows : List (List Value)), k ≤ l.length ∧ i = .int .i64 k ∧ Hid (rows.length = k ∧ (∀ r ∈ rows, r.length = 10) ∧ (∀ (i : Nat) (r : List Value) (x : Memo), rows[i]? = some r → l[i]? = some x → MemoIn true (fun b => w.heap.size < b) wr r x)) ∧ Filled w.heap.size 117 (l.length * 10) wr rows.flatten ∧ Mod (fun _ => False) w wr) (fun i _ => l.length - (intOf i).toNat)
  case atStart => exact ⟨0, [], by omega, rfl, hid ⟨rfl, (fun _ h => by simp at h), (fun _ _ _ h => by simp at h)⟩, Filled.made w _ _ _ (size_madeCells _ _), (Mod.refl _ w).alloc _⟩
  case round =>
    obtain ⟨k, rows, hk, rfl, HR, hF, hM⟩ := hrel
    clear hmk
    by_cases hlt : k < l.length
    · obtain ⟨b, o', x, r, rfl, hb, hbw, hx, ⟨fa, fc, rfl, hfs, _⟩, hrl', hc⟩ := (H.out.keep hM).get hlt
      have hxl := HF.out x (List.mem_of_getElem? hx.out)
      have c0 : wr.cell? ⟨b, o' + k * 10, none⟩ = _ := hc 0 _ rfl
      have c1 : wr.cell? ⟨b, o' + k * 10 + 1, none⟩ = _ := hc 1 _ rfl
      have c2 : wr.cell? ⟨b, o' + k * 10 + 2, none⟩ = _ := hc 2 _ rfl
      have c3 : wr.cell? ⟨b, o' + k * 10 + 3, none⟩ = _ := hc 3 _ rfl
      have c4 : wr.cell? ⟨b, o' + k * 10 + 4, none⟩ = _ := hc 4 _ rfl
      have c5 : wr.cell? ⟨b, o' + k * 10 + 5, none⟩ = _ := hc 5 _ rfl
      have c6 : wr.cell? ⟨b, o' + k * 10 + 6, none⟩ = _ := hc 6 _ rfl
      have c7 : wr.cell? ⟨b, o' + k * 10 + 7, none⟩ = _ := hc 7 _ rfl
      have c8 : wr.cell? ⟨b, o' + k * 10 + 8, none⟩ = _ := hc 8 _ rfl
      have c9 : wr.cell? ⟨b, o' + k * 10 + 9, none⟩ = _ := hc 9 _ rfl
      clear hc hrl'
      have Hfs := hid hfs
      have hF0 := hF.size
      clear hfs
      go_wp2_with fail
      refine (toMemo_any x fa fc R _ hxl (Hfs.out.flatKeep (by (repeat (first | with_reducible exact Mod.refl _ _ | with_reducible refine Mod.drewN ?_ _ | with_reducible refine Mod.drew ?_ | with_reducible refine Mod.alloc ?_ _ | ((with_reducible refine Mod.setNew ?_ ?_ _ _ _); (rotate_left; omega)) | with_reducible refine Mod.setAt ?_ _ _ _ ))))).mono ?_
      rintro e w1 ⟨g, rfl, hg, hb1, hm1⟩
      have hm1' : Mod (fun _ => False) wr w1 := by (repeat (first | with_reducible exact Mod.refl _ _ | with_reducible refine Mod.drewN ?_ _ | with_reducible refine Mod.drew ?_ | with_reducible refine Mod.alloc ?_ _ | ((with_reducible refine Mod.setNew ?_ ?_ _ _ _); (rotate_left; omega)) | with_reducible refine Mod.setAt ?_ _ _ _ | with_reducible exact hm1 | with_reducible refine Mod.thenNone ?_ hm1 ))
      have hgw : w.heap.size < g := by
        have h1 : wr.heap.size ≤ g := by simpa using hg
        omega
      have hF1 := hF.mod hm1' (fun f => f)
      obtain ⟨v0, d0⟩ := hF1.cell (off := k * 10) (by omega)
      have z0 := hF1.free (k * 10)
      obtain ⟨v1, d1⟩ := hF1.cell (off := k * 10 + 1) (by omega)
      have z1 := hF1.free (k * 10 + 1)
      obtain ⟨v2, d2⟩ := hF1.cell (off := k * 10 + 2) (by omega)
      have z2 := hF1.free (k * 10 + 2)
      obtain ⟨v3, d3⟩ := hF1.cell (off := k * 10 + 3) (by omega)
      have z3 := hF1.free (k * 10 + 3)
      obtain ⟨v4, d4⟩ := hF1.cell (off := k * 10 + 4) (by omega)
      have z4 := hF1.free (k * 10 + 4)
      obtain ⟨v5, d5⟩ := hF1.cell (off := k * 10 + 5) (by omega)
      have z5 := hF1.free (k * 10 + 5)
      obtain ⟨v6, d6⟩ := hF1.cell (off := k * 10 + 6) (by omega)
      have z6 := hF1.free (k * 10 + 6)
      obtain ⟨v7, d7⟩ := hF1.cell (off := k * 10 + 7) (by omega)
      have z7 := hF1.free (k * 10 + 7)
      obtain ⟨v8, d8⟩ := hF1.cell (off := k * 10 + 8) (by omega)
      have z8 := hF1.free (k * 10 + 8)
      obtain ⟨v9, d9⟩ := hF1.cell (off := k * 10 + 9) (by omega)
      have z9 := hF1.free (k * 10 + 9)
      have HF1 := hid hF1
      have Hb1 := hid hb1
      have Hm1 := hid hm1'
      have HM1 := hid (hM.thenNone hm1')
      clear hF hF1 hb1 hm1 hm1' hg
      go_wp2
      go_roundw
      case rel =>
        obtain ⟨hrl, hrs, hrep⟩ := HR.out
        have hne : g ≠ w.heap.size := by omega
        refine ⟨k + 1, rows ++ [memoRow x (some ⟨g, 0, none⟩) x.frames.length], by omega, by go_num, hid ⟨by simp [hrl], lens_succ hrs rfl, ?_⟩, ?_, ?_⟩
        · refine rows_succ hx hrl (rows_map hrep fun r x hq => hq.mod (S := fun k => k = w.heap.size) ?_ (fun k hk e => by omega)) ⟨_, _, rfl, SliceAt.wide (flat_of_blk (e := 69) (sz := 5) ?_ (fun _ => rfl)) (fun k _ hk => by omega), fun _ => wr_of_blk (xs := (x.frames.map Frame.cells).flatten) ?_ (flat_length (cells := Frame.cells) (sz := 5) (fun _ => rfl) _) hgw⟩
          · iterate 10 refine Mod.setAt ?_ _ _ _
            exact Hm1.out.mono (fun _ _ f => f.elim)
          · iterate 10 refine set_far ?_ hne
            exact Hb1.out
          · iterate 10 refine set_far ?_ hne
            exact Hb1.out
        · have hl0 := flatten_length hrs
          rw [hrl] at hl0
          have e : (rows ++ [memoRow x (some ⟨g, 0, none⟩) x.frames.length]).flatten = rows.flatten ++ [.int .i64 x.node] ++ [.int .i64 x.wide.mode] ++ [.int .i64 x.wide.n] ++ [.int .i64 x.high.mode] ++ [.int .i64 x.high.n] ++ [.bool x.rtl] ++ [.int .i64 x.bw] ++ [.int .i64 x.bh] ++ [.int .i64 x.bb] ++ [.slice (some ⟨g, 0, none⟩) x.frames.length x.frames.length] := by simp [memoRow]
          rw [e]
          have hF1 := HF1.out
          generalize rows.flatten = s at hF1 hl0
          exact ((((((((((hF1.push (off := k * 10) (by simp [hl0]) (by omega) _).push (off := k * 10 + 1) (by simp [hl0]) (by omega) _).push (off := k * 10 + 2) (by simp [hl0]) (by omega) _).push (off := k * 10 + 3) (by simp [hl0]) (by omega) _).push (off := k * 10 + 4) (by simp [hl0]) (by omega) _).push (off := k * 10 + 5) (by simp [hl0]) (by omega) _).push (off := k * 10 + 6) (by simp [hl0]) (by omega) _).push (off := k * 10 + 7) (by simp [hl0]) (by omega) _).push (off := k * 10 + 8) (by simp [hl0]) (by omega) _).push (off := k * 10 + 9) (by simp [hl0]) (by omega) _)
        · have hM1 := HM1.out
          (repeat (first | with_reducible exact Mod.refl _ _ | with_reducible refine Mod.drewN ?_ _ | with_reducible refine Mod.drew ?_ | with_reducible refine Mod.alloc ?_ _ | ((with_reducible refine Mod.setNew ?_ ?_ _ _ _); (rotate_left; omega)) | with_reducible refine Mod.setAt ?_ _ _ _ | with_reducible exact hM1 | with_reducible refine Mod.thenNone ?_ hM1 ))
      case measure => simp [intOf]; omega
    · have hk' : k = l.length := by omega
      subst hk'
      obtain ⟨hrl, hrs, hrep⟩ := HR.out
      go_wp2
      go_ret
      refine ⟨w.heap.size, rows, rfl, Nat.le_refl _, ?_, hrl, hrs, rows_map hrep fun r x hq => hq.wide fun _ _ hk => Nat.le_of_lt hk, hM⟩
      exact hF.full (by rw [flatten_length hrs, hrl])

set_option maxRecDepth 100000 in
set_option maxHeartbeats 4000000 in
theorem eqMemoS_same (l : List Memo) (o o' : Bool) (a a' : Option Addr) (c c' : Nat) (R S : Nat → Prop) (w : World) (hl : l.length ≤ 1048576) (hf : ∀ x ∈ l, x.frames.length ≤ 1048576) (h : MemoSlice o R w a l) (h' : MemoSlice o' S w a' l) :
    Calls Try.prog 41 #[.slice a l.length c, .slice a' l.length c'] w fun e w' => e = .returned (.bool true) ∧ Mod (fun _ => False) w w' := by
  have H := hid h
  have H' := hid h'
  have HF := hid hf
  clear h h' hf
  have hn0 : ((l.length : Int) != (l.length : Int)) = false := by simp
  go_enter Try.func41, Try.ntmps41
  go_wp2
  go_loopw [5] (fun i wr => ∃ k : Nat, k ≤ l.length ∧ i = .int .i64 k ∧ Mod (fun _ => False) w wr) (fun i _ => l.length - (intOf i).toNat)
  case atStart => exact ⟨0, by omega, rfl, Mod.refl _ _⟩
  case round =>
    obtain ⟨k, hk, rfl, hM⟩ := hrel
    by_cases hlt : k < l.length
    · obtain ⟨b, o1, x, r, rfl, hb, hbw, hx, ⟨fa, fc, rfl, hfs, _⟩, hrl, hc⟩ := (H.out.keep hM).get hlt
      obtain ⟨b', o2, y, r', rfl, hb', hbw', hy, ⟨fa', fc', rfl, hfs', _⟩, hrl', hd⟩ := (H'.out.keep hM).get hlt
      obtain rfl : x = y := Option.some.inj (hx.out.symm.trans hy.out)
      have hxl := HF.out x (List.mem_of_getElem? hx.out)
      have c0 : wr.cell? ⟨b, o1 + k * 10, none⟩ = _ := hc 0 _ rfl
      have d0 : wr.cell? ⟨b', o2 + k * 10, none⟩ = _ := hd 0 _ rfl
      have c1 : wr.cell? ⟨b, o1 + k * 10 + 1, none⟩ = _ := hc 1 _ rfl
      have d1 : wr.cell? ⟨b', o2 + k * 10 + 1, none⟩ = _ := hd 1 _ rfl
      have c2 : wr.cell? ⟨b, o1 + k * 10 + 2, none⟩ = _ := hc 2 _ rfl
      have d2 : wr.cell? ⟨b', o2 + k * 10 + 2, none⟩ = _ := hd 2 _ rfl
      have c3 : wr.cell? ⟨b, o1 + k * 10 + 3, none⟩ = _ := hc 3 _ rfl
      have d3 : wr.cell? ⟨b', o2 + k * 10 + 3, none⟩ = _ := hd 3 _ rfl
      have c4 : wr.cell? ⟨b, o1 + k * 10 + 4, none⟩ = _ := hc 4 _ rfl
      have d4 : wr.cell? ⟨b', o2 + k * 10 + 4, none⟩ = _ := hd 4 _ rfl
      have c5 : wr.cell? ⟨b, o1 + k * 10 + 5, none⟩ = _ := hc 5 _ rfl
      have d5 : wr.cell? ⟨b', o2 + k * 10 + 5, none⟩ = _ := hd 5 _ rfl
      have c6 : wr.cell? ⟨b, o1 + k * 10 + 6, none⟩ = _ := hc 6 _ rfl
      have d6 : wr.cell? ⟨b', o2 + k * 10 + 6, none⟩ = _ := hd 6 _ rfl
      have c7 : wr.cell? ⟨b, o1 + k * 10 + 7, none⟩ = _ := hc 7 _ rfl
      have d7 : wr.cell? ⟨b', o2 + k * 10 + 7, none⟩ = _ := hd 7 _ rfl
      have c8 : wr.cell? ⟨b, o1 + k * 10 + 8, none⟩ = _ := hc 8 _ rfl
      have d8 : wr.cell? ⟨b', o2 + k * 10 + 8, none⟩ = _ := hd 8 _ rfl
      have c9 : wr.cell? ⟨b, o1 + k * 10 + 9, none⟩ = _ := hc 9 _ rfl
      have d9 : wr.cell? ⟨b', o2 + k * 10 + 9, none⟩ = _ := hd 9 _ rfl
      clear hc hd hrl hrl'
      have Hfs := hid hfs
      have Hfs' := hid hfs'
      clear hfs hfs'
      go_wp2
      go_still_tail 8, (by kernel_rfl)
      go_wp2_with fail
      refine (eqMemo_any x fa fa' fc fc' R S _ hxl (Hfs.out.flatKeep (by (repeat (first | with_reducible exact Mod.refl _ _ | with_reducible refine Mod.drewN ?_ _ | with_reducible refine Mod.drew ?_ | with_reducible refine Mod.alloc ?_ _ | ((with_reducible refine Mod.setNew ?_ ?_ _ _ _); (rotate_left; omega)) | with_reducible refine Mod.setAt ?_ _ _ _ )))) (Hfs'.out.flatKeep (by (repeat (first | with_reducible exact Mod.refl _ _ | with_reducible refine Mod.drewN ?_ _ | with_reducible refine Mod.drew ?_ | with_reducible refine Mod.alloc ?_ _ | ((with_reducible refine Mod.setNew ?_ ?_ _ _ _); (rotate_left; omega)) | with_reducible refine Mod.setAt ?_ _ _ _ ))))).mono ?_
      rintro e w1 ⟨rfl, hm1⟩
      go_wp2
      go_roundw
      case rel => exact ⟨k + 1, by omega, by go_num, hM.drew.thenNone hm1⟩
      case measure => simp [intOf]; omega
    · go_wp2
      go_ret
      exact ⟨rfl, hM⟩

/-- What a memo counts besides itself. -/
def Memo.cost (x : Memo) : Nat := x.frames.length
end Go.Proofs.Ytkkjjhooamlljaa
namespace Go.Proofs.Ytkkjjhooamlljaa
open Go.RowKit

set_option maxRecDepth 100000 in
set_option maxHeartbeats 4000000 in
theorem szMemoS_any (l : List Memo) (o : Bool) (a : Option Addr) (c : Nat) (R : Nat → Prop) (left : Int) (w : World) (h0 : 0 ≤ left) (h1 : left ≤ 1048576) (hl : l.length ≤ 9223372036854775807) (hf : ∀ x ∈ l, x.frames.length ≤ 9223372036854775807) (h : MemoSlice o R w a l) :
    Calls Try.prog 29 #[.slice a l.length c, .int .i64 left] w fun e w' => e = .returned (.int .i64 (szRes left (l.length + costs Memo.cost l))) ∧ Mod (fun _ => False) w w' := by
  have H := hid h
  have HF := hid hf
  clear h hf
  by_cases hs : left < l.length
  · rw [szRes_less (by omega)]
    have h2 : left - l.length < 0 := by omega
    have h3 : -9223372036854775807 ≤ left - l.length := by omega
    go_enter Try.func29, Try.ntmps29
    go_wp2
    go_ret
    exact ⟨rfl, Mod.refl _ _⟩
  · have h2 : 0 ≤ left - l.length := by omega
    go_enter Try.func29, Try.ntmps29
    go_wp2
    go_loopw [1, 5] (fun z i wr => ∃ (k : Nat) (q : Int), k ≤ l.length ∧ z = .int .i64 q ∧ Hid (q = left - l.length - costs Memo.cost (l.take k)) ∧ 0 ≤ q ∧ q ≤ 1048576 ∧ i = .int .i64 k ∧ Mod (fun _ => False) w wr) (fun _ i _ => l.length - (intOf i).toNat)
    case atStart => exact ⟨0, _, by omega, rfl, hid (by simp [costs]), h2, by omega, rfl, Mod.refl _ _⟩
    case round =>
      obtain ⟨k, q, hk, rfl, hq, q1, q2, rfl, hM⟩ := hrel
      by_cases hlt : k < l.length
      · obtain ⟨b, o', x, r, rfl, hb, hbw, hx, ⟨fa, fc, rfl, _, _⟩, hrl', hc⟩ := (H.out.keep hM).get hlt
        have hxl := HF.out x (List.mem_of_getElem? hx.out)
        have c0 : wr.cell? ⟨b, o' + k * 10, none⟩ = _ := hc 0 _ rfl
        have c1 : wr.cell? ⟨b, o' + k * 10 + 1, none⟩ = _ := hc 1 _ rfl
        have c2 : wr.cell? ⟨b, o' + k * 10 + 2, none⟩ = _ := hc 2 _ rfl
        have c3 : wr.cell? ⟨b, o' + k * 10 + 3, none⟩ = _ := hc 3 _ rfl
        have c4 : wr.cell? ⟨b, o' + k * 10 + 4, none⟩ = _ := hc 4 _ rfl
        have c5 : wr.cell? ⟨b, o' + k * 10 + 5, none⟩ = _ := hc 5 _ rfl
        have c6 : wr.cell? ⟨b, o' + k * 10 + 6, none⟩ = _ := hc 6 _ rfl
        have c7 : wr.cell? ⟨b, o' + k * 10 + 7, none⟩ = _ := hc 7 _ rfl
        have c8 : wr.cell? ⟨b, o' + k * 10 + 8, none⟩ = _ := hc 8 _ rfl
        have c9 : wr.cell? ⟨b, o' + k * 10 + 9, none⟩ = _ := hc 9 _ rfl
        clear hc hrl'
        have hs1 := hid (costs_succ Memo.cost hx)
        have hs2 := hid (costs_take Memo.cost l (k + 1))
        go_wp2_with fail
        refine (szMemo_any x _ fc fa _ q1 q2 hxl _).mono ?_
        rintro e w1 ⟨rfl, hm1⟩
        by_cases hsx : q < x.frames.length
        · rw [if_pos hsx]
          have hlast := hid (show left < l.length + costs Memo.cost l by have := hs1.out; have := hs2.out; have := hq.out; unfold Memo.cost at *; omega)
          go_wp2
          go_ret
          exact ⟨ret_int (szRes_less (by have := hlast.out; omega)).symm, hM.thenNone (by (repeat (first | with_reducible exact Mod.refl _ _ | with_reducible refine Mod.drewN ?_ _ | with_reducible refine Mod.drew ?_ | with_reducible refine Mod.alloc ?_ _ | ((with_reducible refine Mod.setNew ?_ ?_ _ _ _); (rotate_left; omega)) | with_reducible refine Mod.setAt ?_ _ _ _ | with_reducible exact hm1 | with_reducible refine Mod.thenNone ?_ hm1 )))⟩
        · rw [if_neg hsx]
          have q3 : 0 ≤ q - x.frames.length := by omega
          have hq2 := hid (show q - x.frames.length = left - l.length - costs Memo.cost (l.take (k + 1)) by have := hs1.out; have := hq.out; unfold Memo.cost at *; omega)
          go_wp2
          go_roundw
          case rel => exact ⟨k + 1, _, by omega, rfl, hq2, q3, by omega, by go_num, hM.thenNone (by (repeat (first | with_reducible exact Mod.refl _ _ | with_reducible refine Mod.drewN ?_ _ | with_reducible refine Mod.drew ?_ | with_reducible refine Mod.alloc ?_ _ | ((with_reducible refine Mod.setNew ?_ ?_ _ _ _); (rotate_left; omega)) | with_reducible refine Mod.setAt ?_ _ _ _ | with_reducible exact hm1 | with_reducible refine Mod.thenNone ?_ hm1 )))⟩
          case measure => simp [intOf]; omega
      · have hk' : k = l.length := by omega
        subst hk'
        have hlast := hid (show ¬ left < l.length + costs Memo.cost l by have := hq.out; rw [List.take_length] at this; omega)
        go_wp2
        go_ret
        refine ⟨ret_int ?_, hM⟩
        have h5 := hq.out
        have h6 := hlast.out
        rw [List.take_length] at h5
        rw [szRes_more (by omega)]
        omega


/-- The frames of a slice of memos may be written. -/
def MemoSh (R : Nat → Prop) (g n : Nat) (w : World) : Prop := ∀ i, i < n → ∃ a m c, w.cell? ⟨g, i * 10 + 9, none⟩ = some (.slice a m c) ∧ m ≤ 1048576 ∧ Wr 69 5 R w a m
/-- A slice of memos that may be written, its frames too. -/
def MemoWr (R : Nat → Prop) (w : World) (a : Option Addr) (n : Nat) : Prop :=
  n = 0 ∨ ∃ g N, a = some ⟨g, 0, none⟩ ∧ R g ∧ n * 10 ≤ N ∧ Filled g 117 N w [] ∧ MemoSh R g n w
theorem MemoSh.set {R : Nat → Prop} {g n : Nat} {w : World} (h : MemoSh R g n w) (j : Nat) (v : Value) (hj : j % 10 ≠ 9) : MemoSh R g n (w.setCell ⟨g, j, none⟩ v) := fun i hi => by
  obtain ⟨a, m, c, h1, h2, h3⟩ := h i hi
  refine ⟨a, m, c, ?_, h2, h3.set g j none v⟩
  have hne : (⟨g, j, none⟩ : Addr) ≠ ⟨g, i * 10 + 9, none⟩ := by
    intro e
    simp only [Addr.mk.injEq, true_and, and_true] at e
    omega
  rw [World.cell?_setCell_other w _ _ _ hne]
  exact h1
theorem MemoSh.keep {P R : Nat → Prop} {g n N : Nat} {w w' : World} (h : MemoSh R g n w) (hf : Filled g 117 N w []) (hk : KeepB P w w') (hp : ¬ P 117) : MemoSh R g n w' := fun i hi => by
  obtain ⟨a, m, c, h1, h2, h3⟩ := h i hi
  exact ⟨a, m, c, (World.cell?_of_block (a := ⟨g, i * 10 + 9, none⟩) ((hk g _ N hf).2 hp)).trans h1, h2, h3.keep hk⟩
theorem MemoWr.keep {P R : Nat → Prop} {a : Option Addr} {n : Nat} {w w' : World} (h : MemoWr R w a n) (hk : KeepB P w w') (hp : ¬ P 117) : MemoWr R w' a n := by
  rcases h with h | ⟨g, N, h1, h2, h3, h4, h5⟩
  · exact .inl h
  · exact .inr ⟨g, N, h1, h2, h3, (hk g _ N h4).1, h5.keep h4 hk hp⟩
theorem MemoSlice.wr {R : Nat → Prop} {g N : Nat} {w : World} {l : List Memo} (h : MemoSlice true R w (some ⟨g, 0, none⟩) l) (hf : Filled g 117 N w []) (hN : l.length * 10 ≤ N) (hm : ∀ x ∈ l, x.frames.length ≤ 1048576) (hR : R g) : MemoWr R w (some ⟨g, 0, none⟩) l.length := by
  refine .inr ⟨g, N, rfl, hR, hN, hf, fun i hi => ?_⟩
  obtain ⟨b, o, x, r, e, hb, hbw, hx, ⟨a, c, rfl, h2, h3⟩, hl, hc⟩ := h.get hi
  simp only [Option.some.injEq, Addr.mk.injEq, and_true] at e
  obtain ⟨rfl, rfl⟩ := e
  have h9 := hc 9 _ rfl
  rw [Nat.zero_add] at h9
  exact ⟨_, _, _, h9, hm x (List.mem_of_getElem? hx.out), h3 rfl⟩

theorem markFrameS_wr (n c : Nat) (a : Option Addr) (R : Nat → Prop) (w : World) (q0 : Int) (hq0 : 0 ≤ q0) (hq1 : q0 ≤ 1000000000000000) (hn : n ≤ 1048576) (h : Wr 69 5 R w a n) :
    Calls Try.prog 24 #[.slice a n c, .int .i64 q0] w fun e w' => e = .returned (.int .i64 (q0 + n * 5)) ∧ Mod R w w' ∧ KeepB (fun t => t = 69) w w' :=
  mark_wr h fun g N hh => markFrameS_any n c a g N w q0 hq0 hq1 hn hh

set_option maxRecDepth 100000 in
set_option maxHeartbeats 4000000 in
theorem markMemoS_any (n c : Nat) (a : Option Addr) (R : Nat → Prop) (w : World) (q0 : Int) (hq0 : 1 ≤ q0) (hq1 : q0 ≤ 100000000000000) (hn : n ≤ 1048576) (h : MemoWr R w a n) :
    Calls Try.prog 45 #[.slice a n c, .int .i64 q0] w fun e w' => ∃ q : Int, e = .returned (.int .i64 q) ∧ q0 ≤ q ∧ q ≤ q0 + n * 6000000 ∧ Mod R w w' ∧ KeepB (fun t => t = 117 ∨ t = 69) w w' := by
  have H := hid h
  clear h
  go_enter Try.func45, Try.ntmps45
  go_wp2
  go_loopw [1, 5] (fun z i wr => ∃ (k : Nat) (q : Int), k ≤ n ∧ z = .int .i64 q ∧ q0 ≤ q ∧ q ≤ q0 + k * 6000000 ∧ i = .int .i64 k ∧ Mod R w wr ∧ KeepB (fun t => t = 117 ∨ t = 69) w wr ∧ MemoWr R wr a n) (fun _ i _ => n - (intOf i).toNat)
  case atStart => exact ⟨0, q0, by omega, rfl, by omega, by omega, rfl, Mod.refl _ _, KeepB.refl _ _, H.out⟩
  case round =>
    obtain ⟨k, q, hk, rfl, q1, q2, rfl, hM, hK, hW⟩ := hrel
    by_cases hlt : k < n
    · rcases hW with h | ⟨g, N, rfl, hR, hN, hF, hS⟩
      · omega
      obtain ⟨fa, m, fc, c9, hm, hw⟩ := hS k hlt
      obtain ⟨v0, d0⟩ := hF.cell (off := k * 10) (by omega)
      have z0 := hF.free (k * 10)
      obtain ⟨v1, d1⟩ := hF.cell (off := k * 10 + 1) (by omega)
      have z1 := hF.free (k * 10 + 1)
      obtain ⟨v2, d2⟩ := hF.cell (off := k * 10 + 2) (by omega)
      have z2 := hF.free (k * 10 + 2)
      obtain ⟨v3, d3⟩ := hF.cell (off := k * 10 + 3) (by omega)
      have z3 := hF.free (k * 10 + 3)
      obtain ⟨v4, d4⟩ := hF.cell (off := k * 10 + 4) (by omega)
      have z4 := hF.free (k * 10 + 4)
      obtain ⟨v5, d5⟩ := hF.cell (off := k * 10 + 5) (by omega)
      have z5 := hF.free (k * 10 + 5)
      obtain ⟨v6, d6⟩ := hF.cell (off := k * 10 + 6) (by omega)
      have z6 := hF.free (k * 10 + 6)
      obtain ⟨v7, d7⟩ := hF.cell (off := k * 10 + 7) (by omega)
      have z7 := hF.free (k * 10 + 7)
      obtain ⟨v8, d8⟩ := hF.cell (off := k * 10 + 8) (by omega)
      have z8 := hF.free (k * 10 + 8)
      have z9 := hF.free (k * 10 + 9)
      have hgs := hF.size
      have HK := hid hK
      have HM := hid hM
      clear hK hM
      have HF := hid hF
      have HS := hid hS
      have HW := hid hw
      clear hF hS hw
      go_wp2_with fail
      refine (markFrameS_wr m fc fa R _ _ (by omega) (by omega) hm ?_).mono ?_
      · iterate 9 refine Wr.set ?_ _ _ _ _
        exact HW.out
      rintro e w1 ⟨rfl, hm1, hk1⟩
      have HK1 := hid hk1
      have HM1 := hid hm1
      clear hk1 hm1
      go_wp2
      go_roundw
      case rel =>
        have hm1 := HM1.out
        have hk1 := HK1.out
        refine ⟨k + 1, q + 1 + 1 + 1 + 1 + 1 + 1 + 1 + 1 + 1 + m * 5, by omega, rfl, by omega, by omega, by go_num, ?_, ?_, ?_⟩
        · refine Mod.trans ?_ hm1
          iterate 9 refine Mod.setCell ?_ (fun _ => .inl hR) _
          exact HM.out
        · refine HK.out.trans (KeepB.trans (b := _) ?_ (hk1.mono fun e h => .inr h))
          iterate 9 refine KeepB.set ?_ HF.out (.inl rfl) _ _ _
          exact KeepB.refl _ _
        · refine MemoWr.keep (P := fun t => t = 69) (.inr ⟨g, N, rfl, hR, hN, ?_, ?_⟩) hk1 (by decide)
          · iterate 9 refine Filled.set ?_ _ _ _ _
            exact HF.out
          · iterate 9 refine MemoSh.set ?_ _ _ (by omega)
            exact HS.out
      case measure => simp [intOf]; omega
    · have hk' : k = n := by omega
      subst hk'
      go_wp2
      go_ret
      exact ⟨q, rfl, q1, q2, hM, hK⟩

end Go.Proofs.Ytkkjjhooamlljaa
namespace Go.Proofs.Ytkkjjhooamlljaa
open Go.RowKit

theorem toAsked_any (x : Asked) (w : World) : Calls Try.prog 55 #[.agg #[.int .i64 x.node, .int .i64 x.wide.mode, .int .i64 x.wide.n, .int .i64 x.high.mode, .int .i64 x.high.n, .bool x.rtl]] w fun e w' => e = .returned (.agg #[.int .i64 x.node, .int .i64 x.wide.mode, .int .i64 x.wide.n, .int .i64 x.high.mode, .int .i64 x.high.n, .bool x.rtl]) ∧ Mod (fun _ => False) w w' := by
  go_enter Try.func55, Try.ntmps55
  go_wp2_with fail
  refine (toSpace_any ⟨_, _⟩ _).mono ?_
  rintro e w1 ⟨rfl, hm1⟩
  obtain ⟨hq1, hz1⟩ := mcell hm1
  have hs1 := hm1.size
  simp only [World.size_alloc] at hs1
  have hr0 : w.heap.size < w1.heap.size := by omega
  have hr1 : w.heap.size + 1 < w1.heap.size := by omega
  have hr2 : w.heap.size + 1 + 1 < w1.heap.size := by omega
  go_wp2_with fail
  refine (toSpace_any ⟨_, _⟩ _).mono ?_
  rintro e w2 ⟨rfl, hm2⟩
  obtain ⟨hq2, hz2⟩ := mcell hm2
  go_wp2
  refine bodyPost_ret (v := .agg #[.int .i64 x.node, .int .i64 x.wide.mode, .int .i64 x.wide.n, .int .i64 x.high.mode, .int .i64 x.high.n, .bool x.rtl]) ?_ rfl ⟨rfl, ?_⟩
  · simp [results, Try.results55, go_sem, *]
  · (repeat (first | with_reducible exact Mod.refl _ _ | with_reducible refine Mod.drewN ?_ _ | with_reducible refine Mod.drew ?_ | with_reducible refine Mod.alloc ?_ _ | ((with_reducible refine Mod.setNew ?_ ?_ _ _ _); (rotate_left; omega)) | with_reducible refine Mod.setAt ?_ _ _ _ | with_reducible exact hm2 | with_reducible refine Mod.thenNone ?_ hm2 | with_reducible exact hm1 | with_reducible refine Mod.thenNone ?_ hm1 ))

set_option maxHeartbeats 1000000 in
theorem eqAsked_any (x y : Asked) (w : World) : Calls Try.prog 61 #[.agg #[.int .i64 x.node, .int .i64 x.wide.mode, .int .i64 x.wide.n, .int .i64 x.high.mode, .int .i64 x.high.n, .bool x.rtl], .agg #[.int .i64 y.node, .int .i64 y.wide.mode, .int .i64 y.wide.n, .int .i64 y.high.mode, .int .i64 y.high.n, .bool y.rtl]] w fun e w' => e = .returned (.bool (decide (x = y))) ∧ Mod (fun _ => False) w w' := by
  obtain ⟨x0, ⟨x1, x2⟩, ⟨x3, x4⟩, x5⟩ := x
  obtain ⟨y0, ⟨y1, y2⟩, ⟨y3, y4⟩, y5⟩ := y
  go_enter Try.func61, Try.ntmps61
  go_wp2
  all_goals
    go_ret
    refine ⟨ret_bool ?_, by (repeat (first | with_reducible exact Mod.refl _ _ | with_reducible refine Mod.drewN ?_ _ | with_reducible refine Mod.drew ?_ | with_reducible refine Mod.alloc ?_ _ | ((with_reducible refine Mod.setNew ?_ ?_ _ _ _); (rotate_left; omega)) | with_reducible refine Mod.setAt ?_ _ _ _ ))⟩
    simp_all

theorem info_Asked : (Try.prog.info? 122).map (fun i => (i.zero, i.size, i.bytes)) = some (some (.agg #[.int .i64 0, .int .i64 0, .int .i64 0, .int .i64 0, .int .i64 0, .bool false]), 6, 48) := by kernel_rfl

end Go.Proofs.Ytkkjjhooamlljaa
namespace Go.Proofs.Ytkkjjhooamlljaa
open Go.RowKit

theorem szAskedS_any (n c : Nat) (a : Option Addr) (left : Int) (h0 : 0 ≤ left) (h1 : left ≤ 1048576) (hn : n ≤ 9223372036854775807) (w : World) : Calls Try.prog 30 #[.slice a n c, .int .i64 left] w fun e w' => e = .returned (.int .i64 (if left < n then -1 else left - n)) ∧ w = w' := by
  by_cases h : left < n
  · rw [if_pos h]
    have h2 : left - n < 0 := by omega
    have h3 : -9223372036854775807 ≤ left - n := by omega
    go_enter Try.func30, Try.ntmps30
    go_wp2
    go_ret
    exact ⟨rfl, rfl⟩
  · rw [if_neg h]
    have h2 : 0 ≤ left - n := by omega
    go_enter Try.func30, Try.ntmps30
    go_wp2
    go_ret
    exact ⟨rfl, rfl⟩

set_option maxRecDepth 100000 in
set_option maxHeartbeats 1000000 in
theorem toAskedS_any (l : List Asked) (a : Option Addr) (c : Nat) (R : Nat → Prop) (w : World) (hl : l.length ≤ 1048576) (h : SliceAt (Flat Asked.cells) 6 R w a l) :
    Calls Try.prog 35 #[.slice a l.length c] w (NewRows 122 w l.length (l.map Asked.cells).flatten) := by
  have H := hid h
  clear h
  obtain ⟨i0, hi, hz0, hz1, hz2⟩ := info_parts info_Asked
  have hmk : ∀ W : World, (Instr.makeSlice 37 (.int .i64 (l.length : Int)) (.int .i64 (l.length : Int))).run Try.prog W = .ok (.slice (some ⟨W.heap.size, 0, none⟩) l.length l.length) (W.alloc (.cells (madeCells (Value.cells (.agg #[.int .i64 0, .int .i64 0, .int .i64 0, .int .i64 0, .int .i64 0, .bool false])) (l.length * 6)) 122)) := by
    intro W
    have := run_make (P := Try.prog) W 37 122 i0 _ Try.underlying37 hi hz0 .i64 .i64 l.length l.length (by omega) (by omega) (by rw [hz2]; omega) (by omega)
    simpa [hz1] using this
  clear hz0 hz1 hz2 hi
  go_enter Try.func35, Try.ntmps35
  go_wp2
  go_loopw [4] (fun i wr => ∃ k : Nat, k ≤ l.length ∧ i = .int .i64 k ∧ Filled w.heap.size 122 (l.length * 6) wr ((l.take k).map Asked.cells).flatten ∧ Mod (fun _ => False) w wr) (fun i _ => l.length - (intOf i).toNat)
  case atStart => exact ⟨0, by omega, rfl, Filled.made w _ _ _ (size_madeCells _ _), (Mod.refl _ w).alloc _⟩
  case round =>
    obtain ⟨k, hk, rfl, hF, hM⟩ := hrel
    clear hmk
    by_cases hlt : k < l.length
    · obtain ⟨b, o, x, r, rfl, hb, hbw, hx, hr, hrl, hc⟩ := (H.out.mod hM (fun _ _ f => f) (fun _ _ h => h)).get hlt
      obtain rfl : r = x.cells := hr
      have c0 : wr.cell? ⟨b, o + k * 6, none⟩ = _ := hc 0 _ rfl
      have c1 : wr.cell? ⟨b, o + k * 6 + 1, none⟩ = _ := hc 1 _ rfl
      have c2 : wr.cell? ⟨b, o + k * 6 + 2, none⟩ = _ := hc 2 _ rfl
      have c3 : wr.cell? ⟨b, o + k * 6 + 3, none⟩ = _ := hc 3 _ rfl
      have c4 : wr.cell? ⟨b, o + k * 6 + 4, none⟩ = _ := hc 4 _ rfl
      have c5 : wr.cell? ⟨b, o + k * 6 + 5, none⟩ = _ := hc 5 _ rfl
      clear hc hrl
      go_wp2_with fail
      refine (toAsked_any x _).mono ?_
      rintro e w1 ⟨rfl, hm1⟩
      have hF1 := hF.mod hm1 (fun f => f)
      obtain ⟨v0, d0⟩ := hF1.cell (off := k * 6) (by omega)
      obtain ⟨v1, d1⟩ := hF1.cell (off := k * 6 + 1) (by omega)
      obtain ⟨v2, d2⟩ := hF1.cell (off := k * 6 + 2) (by omega)
      obtain ⟨v3, d3⟩ := hF1.cell (off := k * 6 + 3) (by omega)
      obtain ⟨v4, d4⟩ := hF1.cell (off := k * 6 + 4) (by omega)
      obtain ⟨v5, d5⟩ := hF1.cell (off := k * 6 + 5) (by omega)
      have z0 := hF1.free (k * 6)
      have z1 := hF1.free (k * 6 + 1)
      have z2 := hF1.free (k * 6 + 2)
      have z3 := hF1.free (k * 6 + 3)
      have z4 := hF1.free (k * 6 + 4)
      have z5 := hF1.free (k * 6 + 5)
      go_wp2
      go_roundw
      case rel =>
        refine ⟨k + 1, by omega, by go_num, ?_, ?_⟩
        · have hl0 := flat_length (cells := Asked.cells) (sz := 6) (fun _ => rfl) (l.take k)
          rw [take_length_of_lt hk] at hl0
          rw [flat_succ hx]
          have e : ∀ s : List Value, s ++ x.cells = s ++ [.int .i64 x.node] ++ [.int .i64 x.wide.mode] ++ [.int .i64 x.wide.n] ++ [.int .i64 x.high.mode] ++ [.int .i64 x.high.n] ++ [.bool x.rtl] := by intro s; simp [Asked.cells]
          rw [e]
          generalize ((l.take k).map Asked.cells).flatten = s at hF1 hl0
          exact ((((((hF1.push (off := k * 6) (by simp [hl0]) (by omega) _).push (off := k * 6 + 1) (by simp [hl0]) (by omega) _).push (off := k * 6 + 2) (by simp [hl0]) (by omega) _).push (off := k * 6 + 3) (by simp [hl0]) (by omega) _).push (off := k * 6 + 4) (by simp [hl0]) (by omega) _).push (off := k * 6 + 5) (by simp [hl0]) (by omega) _)
        · have hM1 := hM.thenNone hm1
          (repeat (first | with_reducible exact Mod.refl _ _ | with_reducible refine Mod.drewN ?_ _ | with_reducible refine Mod.drew ?_ | with_reducible refine Mod.alloc ?_ _ | ((with_reducible refine Mod.setNew ?_ ?_ _ _ _); (rotate_left; omega)) | with_reducible refine Mod.setAt ?_ _ _ _ | with_reducible exact hM1 | with_reducible refine Mod.thenNone ?_ hM1 ))
      case measure => simp [intOf]; omega
    · have hk' : k = l.length := by omega
      subst hk'
      go_wp2
      go_ret
      refine ⟨w.heap.size, rfl, Nat.le_refl _, ?_, hM⟩
      rw [List.take_length] at hF
      exact hF.full (flat_length (cells := Asked.cells) (sz := 6) (fun _ => rfl) l)

set_option maxRecDepth 100000 in
set_option maxHeartbeats 1000000 in
theorem eqAskedS_any (l m : List Asked) (a a' : Option Addr) (c c' : Nat) (R S : Nat → Prop) (w : World) (hl : l.length ≤ 9223372036854775807) (_hm : m.length ≤ 9223372036854775807) (h : SliceAt (Flat Asked.cells) 6 R w a l) (h' : SliceAt (Flat Asked.cells) 6 S w a' m) :
    Calls Try.prog 42 #[.slice a l.length c, .slice a' m.length c'] w fun e w' => e = .returned (.bool (decide (l = m))) ∧ Mod (fun _ => False) w w' := by
  have H := hid h
  have H' := hid h'
  clear h h'
  by_cases hlen : l.length = m.length
  · have hn0 : ((l.length : Int) != (m.length : Int)) = false := by simp [hlen]
    have hn1 : l.length ≤ m.length := by omega
    have hn2 : m.length ≤ l.length := by omega
    clear hlen
    go_enter Try.func42, Try.ntmps42
    go_wp2
    go_loopw [5] (fun i wr => ∃ k : Nat, k ≤ l.length ∧ i = .int .i64 k ∧ SameTo l m k ∧ Mod (fun _ => False) w wr) (fun i _ => l.length - (intOf i).toNat)
    case atStart => exact ⟨0, by omega, rfl, rfl, Mod.refl _ _⟩
    case round =>
      obtain ⟨k, hk, rfl, hsame, hmod⟩ := hrel
      by_cases hlt : k < l.length
      · obtain ⟨b, o, x, r, rfl, hb, hbw, hx, hr, hrl, hc⟩ := (H.out.mod hmod (fun _ _ f => f) (fun _ _ h => h)).get hlt
        obtain rfl : r = x.cells := hr
        obtain ⟨b', o', y, r', rfl, hb', hbw', hy, hr', hrl', hd⟩ := (H'.out.mod hmod (fun _ _ f => f) (fun _ _ h => h)).get (show k < m.length by omega)
        obtain rfl : r' = y.cells := hr'
        have hlt2 : k < m.length := by omega
        have c0 : wr.cell? ⟨b, o + k * 6, none⟩ = _ := hc 0 _ rfl
        have d0 : wr.cell? ⟨b', o' + k * 6, none⟩ = _ := hd 0 _ rfl
        have c1 : wr.cell? ⟨b, o + k * 6 + 1, none⟩ = _ := hc 1 _ rfl
        have d1 : wr.cell? ⟨b', o' + k * 6 + 1, none⟩ = _ := hd 1 _ rfl
        have c2 : wr.cell? ⟨b, o + k * 6 + 2, none⟩ = _ := hc 2 _ rfl
        have d2 : wr.cell? ⟨b', o' + k * 6 + 2, none⟩ = _ := hd 2 _ rfl
        have c3 : wr.cell? ⟨b, o + k * 6 + 3, none⟩ = _ := hc 3 _ rfl
        have d3 : wr.cell? ⟨b', o' + k * 6 + 3, none⟩ = _ := hd 3 _ rfl
        have c4 : wr.cell? ⟨b, o + k * 6 + 4, none⟩ = _ := hc 4 _ rfl
        have d4 : wr.cell? ⟨b', o' + k * 6 + 4, none⟩ = _ := hd 4 _ rfl
        have c5 : wr.cell? ⟨b, o + k * 6 + 5, none⟩ = _ := hc 5 _ rfl
        have d5 : wr.cell? ⟨b', o' + k * 6 + 5, none⟩ = _ := hd 5 _ rfl
        clear hc hd hrl hrl'
        by_cases hxy : x = y
        · have hd : decide (x = y) = true := decide_eq_true hxy
          have Hxy := hid hxy
          clear hxy
          go_wp2
          go_still_tail 8, (by kernel_rfl)
          go_wp2_with fail
          refine (eqAsked_any x y _).mono ?_
          rintro e w1 ⟨rfl, hm1⟩
          go_wp2
          go_roundw
          case rel => exact ⟨k + 1, by omega, by go_num, hsame.succ hx (Hxy.out ▸ hy), hmod.drew.thenNone hm1⟩
          case measure => simp [intOf]; omega
        · have hd : decide (x = y) = false := decide_eq_false hxy
          go_wp2
          go_still_tail 8, (by kernel_rfl)
          go_wp2_with fail
          refine (eqAsked_any x y _).mono ?_
          rintro e w1 ⟨rfl, hm1⟩
          go_wp2
          go_ret
          exact ⟨ret_bool (decide_eq_false (ne_at hx hy hxy)).symm, hmod.drew.thenNone hm1⟩
      · go_wp2
        go_ret
        exact ⟨ret_bool (decide_eq_true (hsame.all (by omega) (by omega))).symm, hmod⟩
  · have hn0 : ((l.length : Int) != (m.length : Int)) = true := by simp; omega
    have hne : l ≠ m := fun h => hlen (by rw [h])
    clear hlen
    go_enter Try.func42, Try.ntmps42
    go_wp2
    go_ret
    exact ⟨ret_bool (decide_eq_false hne).symm, Mod.refl _ _⟩

/-- A marked element's cells, its first mark q. -/
def Asked.marked (q : Int) : List Value := [.int .i64 (q), .int .i64 (q + 1), .int .i64 (q + 1 + 1), .int .i64 (q + 1 + 1 + 1), .int .i64 (q + 1 + 1 + 1 + 1), .bool ((q + 1 + 1 + 1 + 1 + 1) % 3 == 0)]
def Asked.marks (q : Int) : Nat → List Value
  | 0 => []
  | k + 1 => Asked.marks q k ++ Asked.marked (q + k * 6)
theorem Asked.marks_length (q : Int) (k : Nat) : (Asked.marks q k).length = k * 6 := by
  induction k with
  | zero => simp [Asked.marks]
  | succ k ih => simp [Asked.marks, Asked.marked, ih]; omega

set_option maxRecDepth 100000 in
set_option maxHeartbeats 1000000 in
theorem markAskedS_any (n c : Nat) (a : Option Addr) (g N : Nat) (w : World) (q0 : Int) (hq0 : 0 ≤ q0) (hq1 : q0 ≤ 1000000000000000) (hn : n ≤ 1048576) (h : n = 0 ∨ a = some ⟨g, 0, none⟩ ∧ n * 6 ≤ N ∧ Filled g 122 N w []) :
    Calls Try.prog 46 #[.slice a n c, .int .i64 q0] w fun e w' => e = .returned (.int .i64 (q0 + n * 6)) ∧ Mod (fun k => k = g) w w' ∧ (n = 0 ∨ Filled g 122 N w' (Asked.marks q0 n)) := by
  have H := hid h
  clear h
  go_enter Try.func46, Try.ntmps46
  go_wp2
  go_loopw [1, 5] (fun z i wr => ∃ (k : Nat) (q : Int), k ≤ n ∧ z = .int .i64 q ∧ Hid (q = q0 + k * 6) ∧ 0 ≤ q ∧ q ≤ 10000000000000000 ∧ i = .int .i64 k ∧ Mod (fun k => k = g) w wr ∧ (n = 0 ∨ Filled g 122 N wr (Asked.marks q0 k))) (fun _ i _ => n - (intOf i).toNat)
  case atStart =>
    refine ⟨0, q0, by omega, rfl, by show q0 = q0 + _; omega, by omega, by omega, rfl, Mod.refl _ _, ?_⟩
    rcases H.out with h | ⟨_, _, h⟩
    · exact .inl h
    · exact .inr h
  case round =>
    obtain ⟨k, q, hk, rfl, hq, q1, q2, rfl, hM, hF0⟩ := hrel
    by_cases hlt : k < n
    · rcases H.out with h | ⟨rfl, hN, _⟩
      · omega
      have hF := hF0.resolve_left (by omega)
      have hl0 := Asked.marks_length q0 k
      clear hF0
      obtain ⟨v0, d0⟩ := hF.cell (off := k * 6) (by omega)
      have z0 := hF.free (k * 6)
      obtain ⟨v1, d1⟩ := hF.cell (off := k * 6 + 1) (by omega)
      have z1 := hF.free (k * 6 + 1)
      obtain ⟨v2, d2⟩ := hF.cell (off := k * 6 + 2) (by omega)
      have z2 := hF.free (k * 6 + 2)
      obtain ⟨v3, d3⟩ := hF.cell (off := k * 6 + 3) (by omega)
      have z3 := hF.free (k * 6 + 3)
      obtain ⟨v4, d4⟩ := hF.cell (off := k * 6 + 4) (by omega)
      have z4 := hF.free (k * 6 + 4)
      obtain ⟨v5, d5⟩ := hF.cell (off := k * 6 + 5) (by omega)
      have z5 := hF.free (k * 6 + 5)
      have HF := hid hF
      have Hl0 := hid hl0
      clear hF hl0
      go_wp2
      go_roundw
      case rel =>
        have hF := HF.out
        have hl0 := Hl0.out
        have hq' := hq.out
        refine ⟨k + 1, q + 1 + 1 + 1 + 1 + 1 + 1, by omega, rfl, by show q + 1 + 1 + 1 + 1 + 1 + 1 = _; omega, by omega, by omega, by go_num, by (repeat (first | with_reducible exact Mod.refl _ _ | with_reducible refine Mod.drewN ?_ _ | with_reducible refine Mod.drew ?_ | with_reducible refine Mod.alloc ?_ _ | ((with_reducible refine Mod.setNew ?_ ?_ _ _ _); (rotate_left; omega)) | with_reducible refine Mod.setAt ?_ _ _ _ | with_reducible exact hM | with_reducible refine Mod.thenNone ?_ hM )), .inr ?_⟩
        have e : Asked.marks q0 (k + 1) = Asked.marks q0 k ++ [.int .i64 (q)] ++ [.int .i64 (q + 1)] ++ [.int .i64 (q + 1 + 1)] ++ [.int .i64 (q + 1 + 1 + 1)] ++ [.int .i64 (q + 1 + 1 + 1 + 1)] ++ [.bool ((q + 1 + 1 + 1 + 1 + 1) % 3 == 0)] := by
          simp [Asked.marks, Asked.marked, ← hq']
        rw [e]
        exact ((((((hF.push (off := k * 6) (by simp [hl0]) (by omega) _).push (off := k * 6 + 1) (by simp [hl0]) (by omega) _).push (off := k * 6 + 2) (by simp [hl0]) (by omega) _).push (off := k * 6 + 3) (by simp [hl0]) (by omega) _).push (off := k * 6 + 4) (by simp [hl0]) (by omega) _).push (off := k * 6 + 5) (by simp [hl0]) (by omega) _)
      case measure => simp [intOf]; omega
    · have hk' : k = n := by omega
      subst hk'
      go_wp2
      go_ret
      exact ⟨ret_int hq.out, hM, hF0⟩

theorem Asked.marks_at (q0 : Int) (n k j : Nat) (v : Value) (hk : k < n) (hj : (Asked.marked (q0 + k * 6))[j]? = some v) : (Asked.marks q0 n)[k * 6 + j]? = some v := by
  have hjl : j < 6 := by
    have := (List.getElem?_eq_some_iff.1 hj).1
    simpa [Asked.marked] using this
  induction n with
  | zero => omega
  | succ n ih =>
    have hl := Asked.marks_length q0 n
    unfold Asked.marks
    by_cases e : k = n
    · subst e
      rw [List.getElem?_append_right (by omega), hl, Nat.add_sub_cancel_left]
      exact hj
    · rw [List.getElem?_append_left (by rw [hl]; omega)]
      exact ih (by omega)
theorem Asked.marks_cell {g e N n k : Nat} {w : World} {q0 q : Int} (hF : Filled g e N w (Asked.marks q0 n)) (hk : k < n) (hq : Hid (q = q0 + k * 6)) (j : Nat) (v : Value) (hj : (Asked.marked q)[j]? = some v) : w.cell? ⟨g, k * 6 + j, none⟩ = some v :=
  hF.read (Asked.marks_at q0 n k j v hk (by rw [← hq.out]; exact hj))

set_option maxRecDepth 100000 in
set_option maxHeartbeats 1000000 in
theorem heldAskedS_any (n c : Nat) (a : Option Addr) (g N : Nat) (w : World) (q0 : Int) (hq0 : 0 ≤ q0) (hq1 : q0 ≤ 1000000000000000) (hn : n ≤ 1048576) (h : n = 0 ∨ a = some ⟨g, 0, none⟩ ∧ n * 6 ≤ N ∧ Filled g 122 N w (Asked.marks q0 n)) :
    Calls Try.prog 49 #[.slice a n c, .int .i64 q0] w fun e w' => e = .returned (.int .i64 (q0 + n * 6)) ∧ Mod (fun _ => False) w w' := by
  have H := hid h
  clear h
  go_enter Try.func49, Try.ntmps49
  go_wp2
  go_loop [1, 5] (fun z i => ∃ (k : Nat) (q : Int), k ≤ n ∧ z = .int .i64 q ∧ Hid (q = q0 + k * 6) ∧ 0 ≤ q ∧ q ≤ 10000000000000000 ∧ i = .int .i64 k) (fun _ i => n - (intOf i).toNat)
  case atStart => exact ⟨0, q0, by omega, rfl, by show q0 = q0 + _; omega, by omega, by omega, rfl⟩
  case round =>
    obtain ⟨k, q, hk, rfl, hq, q1, q2, rfl⟩ := hrel
    by_cases hlt : k < n
    · rcases H.out with h | ⟨rfl, hN, hF⟩
      · omega
      have hc := Asked.marks_cell hF hlt hq
      have c0 := hc 0 _ rfl
      have c1 := hc 1 _ rfl
      have c2 := hc 2 _ rfl
      have c3 := hc 3 _ rfl
      have c4 := hc 4 _ rfl
      have c5 := hc 5 _ rfl
      simp only [Nat.add_zero] at c0
      clear hc hF
      go_wp2
      go_round
      case rel => exact ⟨k + 1, q + 1 + 1 + 1 + 1 + 1 + 1, by omega, rfl, by have := hq.out; show q + 1 + 1 + 1 + 1 + 1 + 1 = _; omega, by have := hq.out; omega, by have := hq.out; omega, by go_num⟩
      case measure => simp [intOf]; omega
    · have hk' : k = n := by omega
      subst hk'
      go_wp2
      go_ret
      exact ⟨ret_int hq.out, Mod.refl _ _⟩

end Go.Proofs.Ytkkjjhooamlljaa
namespace Go.Proofs.Ytkkjjhooamlljaa
open Go.RowKit
set_option linter.unusedVariables false
set_option linter.unusedSimpArgs false

theorem markAskedS_wr (n c : Nat) (a : Option Addr) (R : Nat → Prop) (w : World) (q0 : Int) (hq0 : 0 ≤ q0) (hq1 : q0 ≤ 1000000000000000) (hn : n ≤ 1048576) (h : Wr 122 6 R w a n) :
    Calls Try.prog 46 #[.slice a n c, .int .i64 q0] w fun e w' => e = .returned (.int .i64 (q0 + n * 6)) ∧ Mod R w w' ∧ KeepB (fun t => t = 122) w w' :=
  mark_wr h fun g N hh => markAskedS_any n c a g N w q0 hq0 hq1 hn hh

abbrev KeptTy (t : Nat) : Prop := t = 117 ∨ t = 69 ∨ t = 122
theorem MemoWr.low {R : Nat → Prop} {w : World} {a : Option Addr} {n : Nat} (h : MemoWr R w a n) : MemoWr (fun k => R k ∧ k < w.heap.size) w a n := by
  rcases h with h | ⟨g, N, h1, h2, h3, h4, h5⟩
  · exact .inl h
  · refine .inr ⟨g, N, h1, ⟨h2, h4.size⟩, h3, h4, fun i hi => ?_⟩
    obtain ⟨a, m, c, q1, q2, q3⟩ := h5 i hi
    exact ⟨a, m, c, q1, q2, q3.weaken fun b hb h => ⟨h, hb⟩⟩
set_option maxRecDepth 100000 in
theorem markKept_any (n c n' c' : Nat) (a a' : Option Addr) (R : Nat → Prop) (w : World) (q0 : Int) (hq0 : 1 ≤ q0) (hq1 : q0 ≤ 20000000000000) (hn : n ≤ 1048576) (hn' : n' ≤ 1048576) (h : MemoWr R w a n) (h' : Wr 122 6 R w a' n') :
    Calls Try.prog 23 #[.agg #[.slice a n c, .slice a' n' c'], .int .i64 q0] w fun e w' => ∃ q : Int, e = .returned (.int .i64 q) ∧ q0 ≤ q ∧ q ≤ q0 + n * 6000000 + n' * 6 ∧ Mod R w w' ∧ KeepB KeptTy w w' := by
  refine calls_sxJ (markRg w R NoT) ⟨Nat.le_refl _, KeepB.refl _ _⟩ Try.func23 rfl rfl (fun a h1 h2 h3 => ((Fr.nil h1 h2).arg (h3 1 _ rfl)).arg (h3 0 _ rfl)) ?_
  repeat (first | refine SX.seq ?_ | refine SXl.nil ?_ | refine SX.region ?_ | refine SQ.thenNormal ?_ | refine SX.block ?_ | refine SX.skip ?_ | refine SX.condT rfl ?_ | refine SX.condF rfl ?_ | (refine l_load ?_; (first | refine SXl.v (OpW.load 0 rfl rfl rfl) rfl ?_ ?_ ?_ | refine SXl.v (OpW.load 1 rfl rfl rfl) rfl ?_ ?_ ?_ | refine SXl.v (OpW.load 2 rfl rfl rfl) rfl ?_ ?_ ?_ | refine SXl.v (OpW.load 3 rfl rfl rfl) rfl ?_ ?_ ?_ | refine SXl.v (OpW.loadOld rfl (by assumption) (fun h => h)) rfl ?_ ?_ ?_); rfl; rfl) | (refine l_fieldAddr ?_; (first | refine SXl.v (OpW.fieldAddr rfl) rfl ?_ ?_ ?_); rfl; rfl) | (refine l_move ?_; (first | refine SXl.v (OpW.move rfl) rfl ?_ ?_ ?_); rfl; rfl) | (refine l_assign ?_; (first | refine SXl.v (OpW.assign rfl) rfl ?_ ?_ ?_); rfl; rfl) | (refine l_box ?_; refine SXl.box ?_ ?_ rfl rfl (fun g => ?_); rfl; rfl) | refine SX.ret ?_ | refine SX.exit ?_ | refine SQ.thenRet ?_ | refine SQ.thenExit ?_ | refine SQ.blockNormal ?_ | refine SQ.blockRet ?_ | refine SQ.blockExit ?_ | refine SQ.blockOther rfl ?_)
  refine l_call ?_
  refine SXl.callJ2 (ξ := Int) (v := fun q => .int .i64 q) (markRg w R KeptTy) (fun _ h => h) (fun _ h => h) rfl rfl rfl (fun q => q0 ≤ q ∧ q ≤ q0 + n * 6000000) (fun w' hl => (markMemoS_any n c a _ w' q0 hq0 (by omega) hn (h.low.keep hl.inv.2 (fun f => f))).mono fun e w2 ⟨q, he, h1, h2, hm, hk⟩ => ⟨q, he, ⟨h1, h2⟩, hm, Nat.le_trans hl.inv.1 hm.size, (hl.inv.2.mono (fun _ f => f.elim)).trans (hk.mono fun _ h => h.imp id fun h => .inl h)⟩) ?_
  intro q ⟨h1, h2⟩
  repeat (first | refine SX.seq ?_ | refine SXl.nil ?_ | refine SX.region ?_ | refine SQ.thenNormal ?_ | refine SX.block ?_ | refine SX.skip ?_ | refine SX.condT rfl ?_ | refine SX.condF rfl ?_ | (refine l_load ?_; (first | refine SXl.v (OpW.load 0 rfl rfl rfl) rfl ?_ ?_ ?_ | refine SXl.v (OpW.load 1 rfl rfl rfl) rfl ?_ ?_ ?_ | refine SXl.v (OpW.load 2 rfl rfl rfl) rfl ?_ ?_ ?_ | refine SXl.v (OpW.load 3 rfl rfl rfl) rfl ?_ ?_ ?_ | refine SXl.v (OpW.loadOld rfl (by assumption) (fun h => h)) rfl ?_ ?_ ?_); rfl; rfl) | (refine l_fieldAddr ?_; (first | refine SXl.v (OpW.fieldAddr rfl) rfl ?_ ?_ ?_); rfl; rfl) | (refine l_move ?_; (first | refine SXl.v (OpW.move rfl) rfl ?_ ?_ ?_); rfl; rfl) | (refine l_assign ?_; (first | refine SXl.v (OpW.assign rfl) rfl ?_ ?_ ?_); rfl; rfl) | (refine l_box ?_; refine SXl.box ?_ ?_ rfl rfl (fun g => ?_); rfl; rfl) | refine SX.ret ?_ | refine SX.exit ?_ | refine SQ.thenRet ?_ | refine SQ.thenExit ?_ | refine SQ.blockNormal ?_ | refine SQ.blockRet ?_ | refine SQ.blockExit ?_ | refine SQ.blockOther rfl ?_)
  refine l_call ?_
  refine SXl.callJ1 (fun _ h => h) rfl rfl rfl (fun w' hl => (markAskedS_wr n' c' a' _ w' q (by omega) (by omega) hn' (h'.low.keep hl.inv.2)).mono fun e w2 ⟨he, hm, hk⟩ => ⟨he, hm, Nat.le_trans hl.inv.1 hm.size, hl.inv.2.trans (hk.mono fun _ h => .inr (.inr h))⟩) ?_
  repeat (first | refine SX.seq ?_ | refine SXl.nil ?_ | refine SX.region ?_ | refine SQ.thenNormal ?_ | refine SX.block ?_ | refine SX.skip ?_ | refine SX.condT rfl ?_ | refine SX.condF rfl ?_ | (refine l_load ?_; (first | refine SXl.v (OpW.load 0 rfl rfl rfl) rfl ?_ ?_ ?_ | refine SXl.v (OpW.load 1 rfl rfl rfl) rfl ?_ ?_ ?_ | refine SXl.v (OpW.load 2 rfl rfl rfl) rfl ?_ ?_ ?_ | refine SXl.v (OpW.load 3 rfl rfl rfl) rfl ?_ ?_ ?_ | refine SXl.v (OpW.loadOld rfl (by assumption) (fun h => h)) rfl ?_ ?_ ?_); rfl; rfl) | (refine l_fieldAddr ?_; (first | refine SXl.v (OpW.fieldAddr rfl) rfl ?_ ?_ ?_); rfl; rfl) | (refine l_move ?_; (first | refine SXl.v (OpW.move rfl) rfl ?_ ?_ ?_); rfl; rfl) | (refine l_assign ?_; (first | refine SXl.v (OpW.assign rfl) rfl ?_ ?_ ?_); rfl; rfl) | (refine l_box ?_; refine SXl.box ?_ ?_ rfl rfl (fun g => ?_); rfl; rfl) | refine SX.ret ?_ | refine SX.exit ?_ | refine SQ.thenRet ?_ | refine SQ.thenExit ?_ | refine SQ.blockNormal ?_ | refine SQ.blockRet ?_ | refine SQ.blockExit ?_ | refine SQ.blockOther rfl ?_)
  refine SQ.body1 rfl rfl (fun w' hl => ⟨_, rfl, by omega, by omega, modlow hl.mod, hl.inv.2⟩)

end Go.Proofs.Ytkkjjhooamlljaa
namespace Go.Proofs.Ytkkjjhooamlljaa
open Go.RowKit

theorem cut_at (cs : List Value) (o n m : Nat) (h : o + n = m) : cs.drop o = (cs.drop o).take n ++ cs.drop m := by
  subst h
  rw [← List.drop_drop, List.take_append_drop]

set_option maxRecDepth 100000 in
set_option maxHeartbeats 4000000 in
theorem rdA_Val {w : World} {cs : List Value} (h : Rd Try.prog w 83 cs) : ∃ x : Val, cs = x.cells := by
  obtain ⟨hl, hf⟩ := h.struct Try.underlying83
  have hl2 : cs.length = 2 := hl.trans (by kernel_rfl)
  have cz0 : Try.prog.cellsOf 3 = 1 := by kernel_rfl
  match cs, hl2 with
  | [q0, q1], _ =>
    obtain ⟨v0, e0, _⟩ := (hf 0 _ rfl).int Try.underlying3
    simp [cz0] at e0
    obtain ⟨v1, e1, _⟩ := (hf 1 _ rfl).int Try.underlying3
    simp [cz0] at e1
    exact ⟨⟨v0, v1⟩, by simp [Val.cells, e0, e1]⟩

set_option maxRecDepth 100000 in
set_option maxHeartbeats 4000000 in
theorem rdA_Sides {w : World} {cs : List Value} (h : Rd Try.prog w 85 cs) : ∃ x : Sides, cs = x.cells := by
  obtain ⟨hl, hf⟩ := h.struct Try.underlying85
  have hl2 : cs.length = 12 := hl.trans (by kernel_rfl)
  have cz0 : Try.prog.cellsOf 83 = 2 := by kernel_rfl
  match cs, hl2 with
  | [q0, q1, q2, q3, q4, q5, q6, q7, q8, q9, q10, q11], _ =>
    obtain ⟨v0, e0⟩ := rdA_Val (hf 0 _ rfl)
    simp [cz0, Val.cells] at e0
    obtain ⟨v1, e1⟩ := rdA_Val (hf 1 _ rfl)
    simp [cz0, Val.cells] at e1
    obtain ⟨v2, e2⟩ := rdA_Val (hf 2 _ rfl)
    simp [cz0, Val.cells] at e2
    obtain ⟨v3, e3⟩ := rdA_Val (hf 3 _ rfl)
    simp [cz0, Val.cells] at e3
    obtain ⟨v4, e4⟩ := rdA_Val (hf 4 _ rfl)
    simp [cz0, Val.cells] at e4
    obtain ⟨v5, e5⟩ := rdA_Val (hf 5 _ rfl)
    simp [cz0, Val.cells] at e5
    exact ⟨⟨v0, v1, v2, v3, v4, v5⟩, by simp [Sides.cells, e0, e1, e2, e3, e4, e5]⟩

set_option maxRecDepth 100000 in
set_option maxHeartbeats 4000000 in
theorem rdA_Edges {w : World} {cs : List Value} (h : Rd Try.prog w 87 cs) : ∃ x : Edges, cs = x.cells := by
  obtain ⟨hl, hf⟩ := h.struct Try.underlying87
  have hl2 : cs.length = 4 := hl.trans (by kernel_rfl)
  have cz0 : Try.prog.cellsOf 3 = 1 := by kernel_rfl
  match cs, hl2 with
  | [q0, q1, q2, q3], _ =>
    obtain ⟨v0, e0, _⟩ := (hf 0 _ rfl).int Try.underlying3
    simp [cz0] at e0
    obtain ⟨v1, e1, _⟩ := (hf 1 _ rfl).int Try.underlying3
    simp [cz0] at e1
    obtain ⟨v2, e2, _⟩ := (hf 2 _ rfl).int Try.underlying3
    simp [cz0] at e2
    obtain ⟨v3, e3, _⟩ := (hf 3 _ rfl).int Try.underlying3
    simp [cz0] at e3
    exact ⟨⟨v0, v1, v2, v3⟩, by simp [Edges.cells, e0, e1, e2, e3]⟩

set_option maxRecDepth 100000 in
set_option maxHeartbeats 4000000 in
theorem rdA_Style {w : World} {cs : List Value} (h : Rd Try.prog w 89 cs) : ∃ x : Style, cs = x.cells := by
  obtain ⟨hl, hf⟩ := h.struct Try.underlying89
  have hl2 : cs.length = 60 := hl.trans (by kernel_rfl)
  have cz0 : Try.prog.cellsOf 87 = 4 := by kernel_rfl
  have cz1 : Try.prog.cellsOf 85 = 12 := by kernel_rfl
  have cz2 : Try.prog.cellsOf 83 = 2 := by kernel_rfl
  have cz3 : Try.prog.cellsOf 4 = 1 := by kernel_rfl
  have cz4 : Try.prog.cellsOf 3 = 1 := by kernel_rfl
  obtain ⟨v0, e0, _⟩ := (hf 0 _ rfl).int Try.underlying3
  replace e0 : (cs.drop 0).take (Try.prog.cellsOf 3) = [.int .i64 v0] := e0
  rw [cz4] at e0
  obtain ⟨v1, e1, _⟩ := (hf 1 _ rfl).int Try.underlying3
  replace e1 : (cs.drop 1).take (Try.prog.cellsOf 3) = [.int .i64 v1] := e1
  rw [cz4] at e1
  obtain ⟨v2, e2, _⟩ := (hf 2 _ rfl).int Try.underlying3
  replace e2 : (cs.drop 2).take (Try.prog.cellsOf 3) = [.int .i64 v2] := e2
  rw [cz4] at e2
  obtain ⟨v3, e3, _⟩ := (hf 3 _ rfl).int Try.underlying3
  replace e3 : (cs.drop 3).take (Try.prog.cellsOf 3) = [.int .i64 v3] := e3
  rw [cz4] at e3
  obtain ⟨v4, e4, _⟩ := (hf 4 _ rfl).int Try.underlying3
  replace e4 : (cs.drop 4).take (Try.prog.cellsOf 3) = [.int .i64 v4] := e4
  rw [cz4] at e4
  obtain ⟨v5, e5, _⟩ := (hf 5 _ rfl).int Try.underlying3
  replace e5 : (cs.drop 5).take (Try.prog.cellsOf 3) = [.int .i64 v5] := e5
  rw [cz4] at e5
  obtain ⟨v6, e6⟩ := (hf 6 _ rfl).bool Try.underlying4
  replace e6 : (cs.drop 6).take (Try.prog.cellsOf 4) = [.bool v6] := e6
  rw [cz3] at e6
  obtain ⟨v7, e7⟩ := (hf 7 _ rfl).bool Try.underlying4
  replace e7 : (cs.drop 7).take (Try.prog.cellsOf 4) = [.bool v7] := e7
  rw [cz3] at e7
  obtain ⟨v8, e8, _⟩ := (hf 8 _ rfl).int Try.underlying3
  replace e8 : (cs.drop 8).take (Try.prog.cellsOf 3) = [.int .i64 v8] := e8
  rw [cz4] at e8
  obtain ⟨v9, e9, _⟩ := (hf 9 _ rfl).int Try.underlying3
  replace e9 : (cs.drop 9).take (Try.prog.cellsOf 3) = [.int .i64 v9] := e9
  rw [cz4] at e9
  obtain ⟨v10, e10, _⟩ := (hf 10 _ rfl).int Try.underlying3
  replace e10 : (cs.drop 10).take (Try.prog.cellsOf 3) = [.int .i64 v10] := e10
  rw [cz4] at e10
  obtain ⟨v11, e11⟩ := rdA_Val (hf 11 _ rfl)
  replace e11 : (cs.drop 11).take (Try.prog.cellsOf 83) = v11.cells := e11
  rw [cz2] at e11
  obtain ⟨v12, e12⟩ := rdA_Val (hf 12 _ rfl)
  replace e12 : (cs.drop 13).take (Try.prog.cellsOf 83) = v12.cells := e12
  rw [cz2] at e12
  obtain ⟨v13, e13⟩ := rdA_Val (hf 13 _ rfl)
  replace e13 : (cs.drop 15).take (Try.prog.cellsOf 83) = v13.cells := e13
  rw [cz2] at e13
  obtain ⟨v14, e14⟩ := rdA_Val (hf 14 _ rfl)
  replace e14 : (cs.drop 17).take (Try.prog.cellsOf 83) = v14.cells := e14
  rw [cz2] at e14
  obtain ⟨v15, e15⟩ := rdA_Val (hf 15 _ rfl)
  replace e15 : (cs.drop 19).take (Try.prog.cellsOf 83) = v15.cells := e15
  rw [cz2] at e15
  obtain ⟨v16, e16⟩ := rdA_Val (hf 16 _ rfl)
  replace e16 : (cs.drop 21).take (Try.prog.cellsOf 83) = v16.cells := e16
  rw [cz2] at e16
  obtain ⟨v17, e17⟩ := rdA_Val (hf 17 _ rfl)
  replace e17 : (cs.drop 23).take (Try.prog.cellsOf 83) = v17.cells := e17
  rw [cz2] at e17
  obtain ⟨v18, e18, _⟩ := (hf 18 _ rfl).int Try.underlying3
  replace e18 : (cs.drop 25).take (Try.prog.cellsOf 3) = [.int .i64 v18] := e18
  rw [cz4] at e18
  obtain ⟨v19, e19⟩ := rdA_Sides (hf 19 _ rfl)
  replace e19 : (cs.drop 26).take (Try.prog.cellsOf 85) = v19.cells := e19
  rw [cz1] at e19
  obtain ⟨v20, e20⟩ := rdA_Sides (hf 20 _ rfl)
  replace e20 : (cs.drop 38).take (Try.prog.cellsOf 85) = v20.cells := e20
  rw [cz1] at e20
  obtain ⟨v21, e21⟩ := rdA_Edges (hf 21 _ rfl)
  replace e21 : (cs.drop 50).take (Try.prog.cellsOf 87) = v21.cells := e21
  rw [cz0] at e21
  obtain ⟨v22, e22⟩ := rdA_Edges (hf 22 _ rfl)
  replace e22 : (cs.drop 54).take (Try.prog.cellsOf 87) = v22.cells := e22
  rw [cz0] at e22
  obtain ⟨v23, e23, _⟩ := (hf 23 _ rfl).int Try.underlying3
  replace e23 : (cs.drop 58).take (Try.prog.cellsOf 3) = [.int .i64 v23] := e23
  rw [cz4] at e23
  obtain ⟨v24, e24, _⟩ := (hf 24 _ rfl).int Try.underlying3
  replace e24 : (cs.drop 59).take (Try.prog.cellsOf 3) = [.int .i64 v24] := e24
  rw [cz4] at e24
  have hz : cs.drop 60 = [] := List.drop_eq_nil_of_le (by omega)
  clear hf hl hl2 h
  refine ⟨⟨v0, v1, v2, v3, v4, v5, v6, v7, v8, v9, v10, v11, v12, v13, v14, v15, v16, v17, v18, v19, v20, v21, v22, v23, v24⟩, ?_⟩
  show cs.drop 0 = _
  rw [cut_at cs 0 1 1 rfl, e0, cut_at cs 1 1 2 rfl, e1, cut_at cs 2 1 3 rfl, e2, cut_at cs 3 1 4 rfl, e3, cut_at cs 4 1 5 rfl, e4, cut_at cs 5 1 6 rfl, e5, cut_at cs 6 1 7 rfl, e6, cut_at cs 7 1 8 rfl, e7, cut_at cs 8 1 9 rfl, e8, cut_at cs 9 1 10 rfl, e9, cut_at cs 10 1 11 rfl, e10, cut_at cs 11 2 13 rfl, e11, cut_at cs 13 2 15 rfl, e12, cut_at cs 15 2 17 rfl, e13, cut_at cs 17 2 19 rfl, e14, cut_at cs 19 2 21 rfl, e15, cut_at cs 21 2 23 rfl, e16, cut_at cs 23 2 25 rfl, e17, cut_at cs 25 1 26 rfl, e18, cut_at cs 26 12 38 rfl, e19, cut_at cs 38 12 50 rfl, e20, cut_at cs 50 4 54 rfl, e21, cut_at cs 54 4 58 rfl, e22, cut_at cs 58 1 59 rfl, e23, cut_at cs 59 1 60 rfl, e24, hz]
  rfl

end Go.Proofs.Ytkkjjhooamlljaa
namespace Go.Proofs.Ytkkjjhooamlljaa
open Go.RowKit

theorem NodeSlice.wide {o : Bool} {R S : Nat → Prop} {w : World} {a : Option Addr} {l : List Node} (h : NodeSlice o R w a l) (hs : ∀ k, k < w.heap.size → R k → S k) : NodeSlice o S w a l := SliceAt.wideBy h hs fun _ _ hx => hx.wide hs
/-- A tree, read from its cells; o: it may be written. -/
def TreeIn (o : Bool) (R : Nat → Prop) (w : World) (cs : List Value) (l : List Node) : Prop :=
  ∃ a c, cs = [.slice a l.length c] ∧ NodeSlice o R w a l ∧ (o = true → Wr 112 64 R w a l.length)
theorem TreeIn.mod {o : Bool} {R S : Nat → Prop} {w w' : World} {cs : List Value} {x : List Node} (h : TreeIn o R w cs x) (hm : Mod S w w') (hs : ∀ k, R k → ¬ S k) : TreeIn o R w' cs x := by
  obtain ⟨a, c, h1, h2, h3⟩ := h
  exact ⟨a, c, h1, NodeSlice.mod h2 hm hs, fun ho => (h3 ho).mod hm hs⟩
theorem TreeIn.keep {o : Bool} {R : Nat → Prop} {w w' : World} {cs : List Value} {x : List Node} (h : TreeIn o R w cs x) (hm : Mod (fun _ => False) w w') : TreeIn o R w' cs x := h.mod hm fun _ _ f => f
theorem TreeIn.wide {o : Bool} {R S : Nat → Prop} {w : World} {cs : List Value} {x : List Node} (h : TreeIn o R w cs x) (hs : ∀ k, k < w.heap.size → R k → S k) : TreeIn o S w cs x := by
  obtain ⟨a, c, h1, h2, h3⟩ := h
  exact ⟨a, c, h1, NodeSlice.wide h2 hs, fun ho => (h3 ho).weaken hs⟩
/-- Lengths that a walk can bear. -/
def treeFits (n : Nat) (l : List Node) : Prop := l.length ≤ n ∧ ∀ x ∈ l, x.fits n
def treeCost (l : List Node) : Nat := l.length + costs Node.cost l
theorem treeFits_of {l : List Node} {n : Nat} (h : treeCost l ≤ n) : treeFits n l := by
  unfold treeCost at h
  refine ⟨by omega, fun x hx => ?_⟩
  have := costs_mem Node.cost hx
  have e : x.cost = x.kids.length + x.rules.length := rfl
  unfold Node.fits
  omega

set_option maxHeartbeats 2000000 in
theorem toTree_any (x : List Node) (o : Bool) (cs : List Value) (R : Nat → Prop) (w : World) (hf : treeFits 1048576 x) (h : TreeIn o R w cs x) :
    Calls Try.prog 15 #[.agg cs.toArray] w fun e w' => ∃ cs', e = .returned (.agg cs'.toArray) ∧ TreeIn true (fun b => w.heap.size ≤ b) w' cs' x ∧ Mod (fun _ => False) w w' := by
  obtain ⟨a, c, rfl, h1, _⟩ := h
  obtain ⟨f1, f2⟩ := hf
  have H1 := hid h1
  have F2 := hid f2
  clear h1 f2
  go_enter Try.func15, Try.ntmps15
  go_wp2_with fail
  refine (toNodeS_any x o _ _ R _ f1 F2.out (H1.out.keep (by (repeat (first | with_reducible exact Mod.refl _ _ | with_reducible refine Mod.drewN ?_ _ | with_reducible refine Mod.drew ?_ | with_reducible refine Mod.alloc ?_ _ | ((with_reducible refine Mod.setNew ?_ ?_ _ _ _); (rotate_left; omega)) | with_reducible refine Mod.setAt ?_ _ _ _ ))))).mono ?_
  intro e w1 hh
  obtain ⟨g1, rfl, hg1, s1, u1, hm1⟩ := hh.use
  obtain ⟨hq1, hz1⟩ := mcell hm1
  have hs1 := hm1.size
  repeat (rw [World.size_alloc] at hs1)
  have hr1_0 : w.heap.size < w1.heap.size := by omega
  have hr1_1 : w.heap.size + 1 < w1.heap.size := by omega
  have hr1_2 : w.heap.size + 1 + 1 < w1.heap.size := by omega
  have hM1 : Mod (fun _ => False) w w1 := by (repeat (first | with_reducible exact Mod.refl _ _ | with_reducible refine Mod.drewN ?_ _ | with_reducible refine Mod.drew ?_ | with_reducible refine Mod.alloc ?_ _ | ((with_reducible refine Mod.setNew ?_ ?_ _ _ _); (rotate_left; omega)) | with_reducible refine Mod.setAt ?_ _ _ _ | with_reducible exact hm1 | with_reducible refine Mod.thenNone ?_ hm1 ))
  have S1 := hid (NodeSlice.wide s1 (S := fun b => w.heap.size + 1 + 1 + 1 ≤ b) (fun k _ hk => by simpa using hk))
  have U1 := hid (u1.weaken (S := fun b => w.heap.size + 1 + 1 + 1 ≤ b) (fun k _ hk => by simpa using hk))
  clear hh s1 u1 hm1
  go_wp2
  have hfin : ∀ W : World, Mod (fun k => k = w.heap.size + 1 + 1 ∨ k = w.heap.size + 1) w1 W → TreeIn true (fun b => w.heap.size ≤ b) W [.slice (some ⟨g1, 0, none⟩) x.length x.length] x := by
    intro W hW
    have k1 : ∀ k, w.heap.size + 1 + 1 + 1 ≤ k → ¬ (k = w.heap.size + 1 + 1 ∨ k = w.heap.size + 1) := by omega
    exact TreeIn.wide ⟨_, _, rfl, NodeSlice.mod S1.out hW k1, fun _ => U1.out.mod hW k1⟩ (fun k _ hk => by show w.heap.size ≤ k; omega)
  refine bodyPost_ret (v := .agg [.slice (some ⟨g1, 0, none⟩) x.length x.length].toArray) ?_ rfl ⟨_, rfl, hfin _ ?_, ?_⟩
  · simp [results, Try.results15, go_sem, *]
  · refine Mod.setCell (Mod.setCell (Mod.refl _ _) (fun _ => .inl (.inl rfl)) _) (fun _ => .inl (.inr rfl)) _
  · (repeat (first | with_reducible exact Mod.refl _ _ | with_reducible refine Mod.drewN ?_ _ | with_reducible refine Mod.drew ?_ | with_reducible refine Mod.alloc ?_ _ | ((with_reducible refine Mod.setNew ?_ ?_ _ _ _); (rotate_left; omega)) | with_reducible refine Mod.setAt ?_ _ _ _ | with_reducible exact hM1 | with_reducible refine Mod.thenNone ?_ hM1 ))

set_option maxHeartbeats 2000000 in
theorem eqTree_same (x : List Node) (o o' : Bool) (cs cs' : List Value) (R S : Nat → Prop) (w : World) (hf : treeFits 1048576 x) (h : TreeIn o R w cs x) (h' : TreeIn o' S w cs' x) :
    Calls Try.prog 19 #[.agg cs.toArray, .agg cs'.toArray] w fun e w' => e = .returned (.bool true) ∧ Mod (fun _ => False) w w' := by
  obtain ⟨m, c, rfl, h1, _⟩ := h
  obtain ⟨m', d, rfl, h1', _⟩ := h'
  obtain ⟨f1, f3⟩ := hf
  have H1 := hid h1
  have H1' := hid h1'
  have F3 := hid f3
  clear h1 h1' f3
  go_enter Try.func19, Try.ntmps19
  go_wp2_with fail
  refine (eqNodeS_same x o o' _ _ _ _ R S _ f1 F3.out (H1.out.keep (by (repeat (first | with_reducible exact Mod.refl _ _ | with_reducible refine Mod.drewN ?_ _ | with_reducible refine Mod.drew ?_ | with_reducible refine Mod.alloc ?_ _ | ((with_reducible refine Mod.setNew ?_ ?_ _ _ _); (rotate_left; omega)) | with_reducible refine Mod.setAt ?_ _ _ _ )))) (H1'.out.keep (by (repeat (first | with_reducible exact Mod.refl _ _ | with_reducible refine Mod.drewN ?_ _ | with_reducible refine Mod.drew ?_ | with_reducible refine Mod.alloc ?_ _ | ((with_reducible refine Mod.setNew ?_ ?_ _ _ _); (rotate_left; omega)) | with_reducible refine Mod.setAt ?_ _ _ _ ))))).mono ?_
  rintro e w1 ⟨rfl, hm1⟩
  have hM1 : Mod (fun _ => False) w w1 := by (repeat (first | with_reducible exact Mod.refl _ _ | with_reducible refine Mod.drewN ?_ _ | with_reducible refine Mod.drew ?_ | with_reducible refine Mod.alloc ?_ _ | ((with_reducible refine Mod.setNew ?_ ?_ _ _ _); (rotate_left; omega)) | with_reducible refine Mod.setAt ?_ _ _ _ | with_reducible exact hm1 | with_reducible refine Mod.thenNone ?_ hm1 ))
  go_wp2
  go_ret
  exact ⟨rfl, hM1⟩

set_option maxHeartbeats 2000000 in
theorem szTree_any (x : List Node) (o : Bool) (cs : List Value) (R : Nat → Prop) (left : Int) (w : World) (h0 : 0 ≤ left) (h1 : left ≤ 1048576) (hf : treeFits 9223372036854775807 x) (h : TreeIn o R w cs x) :
    Calls Try.prog 11 #[.agg cs.toArray, .int .i64 left] w fun e w' => e = .returned (.int .i64 (szRes left (treeCost x))) ∧ Mod (fun _ => False) w w' := by
  obtain ⟨m, c, rfl, hs, _⟩ := h
  obtain ⟨f1, f3⟩ := hf
  have H := hid hs
  have F3 := hid f3
  clear hs f3
  go_enter Try.func11, Try.ntmps11
  go_wp2_with fail
  refine (szNodeS_any x o _ _ R left _ h0 h1 f1 F3.out (H.out.keep (by (repeat (first | with_reducible exact Mod.refl _ _ | with_reducible refine Mod.drewN ?_ _ | with_reducible refine Mod.drew ?_ | with_reducible refine Mod.alloc ?_ _ | ((with_reducible refine Mod.setNew ?_ ?_ _ _ _); (rotate_left; omega)) | with_reducible refine Mod.setAt ?_ _ _ _ ))))).mono ?_
  rintro e w1 ⟨rfl, hm1⟩
  have hM1 : Mod (fun _ => False) w w1 := by (repeat (first | with_reducible exact Mod.refl _ _ | with_reducible refine Mod.drewN ?_ _ | with_reducible refine Mod.drew ?_ | with_reducible refine Mod.alloc ?_ _ | ((with_reducible refine Mod.setNew ?_ ?_ _ _ _); (rotate_left; omega)) | with_reducible refine Mod.setAt ?_ _ _ _ | with_reducible exact hm1 | with_reducible refine Mod.thenNone ?_ hm1 ))
  by_cases hs : left < (x.length + costs Node.cost x : Nat)
  · rw [szRes_less hs]
    have hc := hid (szRes_less (left := left) (n := treeCost x) hs)
    go_wp2
    go_ret
    exact ⟨ret_int hc.out.symm, hM1⟩
  · rw [szRes_more (by omega)]
    have hc := hid (szRes_more (left := left) (n := treeCost x) (by unfold treeCost; omega))
    have h2 : 0 ≤ left - (x.length + costs Node.cost x : Nat) := by omega
    unfold treeCost at hc
    generalize left - ((x.length + costs Node.cost x : Nat) : Int) = q at hc h2
    go_wp2
    go_ret
    exact ⟨ret_int hc.out.symm, hM1⟩

set_option maxRecDepth 100000 in
theorem rd_int {w : World} {cs : List Value} (h : Rd Try.prog w 3 cs) : ∃ x : Int, cs = icell x := by
  obtain ⟨x, e, _⟩ := h.int Try.underlying3
  exact ⟨x, e⟩
set_option maxRecDepth 100000 in
theorem rd_Node {w : World} {cs : List Value} (h : Rd Try.prog w 94 cs) : ∃ x : Node, NodeIn false (fun k => k < w.heap.size) w cs x ∧ x.fits 9223372036854775807 := by
  obtain ⟨hl, hf⟩ := h.struct Try.underlying94
  have hl2 : cs.length = 64 := hl.trans (by kernel_rfl)
  have z1 : Try.prog.cellsOf 3 = 1 := by kernel_rfl
  have z2 : Try.prog.cellsOf 81 = 1 := by kernel_rfl
  have z3 : Try.prog.cellsOf 89 = 60 := by kernel_rfl
  have z4 : Try.prog.cellsOf 4 = 1 := by kernel_rfl
  have z5 : Try.prog.cellsOf 92 = 1 := by kernel_rfl
  obtain ⟨up, e0, _⟩ := (hf 0 _ rfl).int Try.underlying3
  replace e0 : (cs.drop 0).take (Try.prog.cellsOf 3) = [.int .i64 up] := e0
  rw [z1] at e0
  obtain ⟨a, l, c, e1, h1, h2, h3⟩ := (hf 1 _ rfl).list (rep := Flat icell) (sz := 1) Try.underlying81 (by kernel_rfl) (by decide) (fun cs h => rd_int h)
  replace e1 : (cs.drop 1).take (Try.prog.cellsOf 81) = [.slice a l.length c] := e1
  rw [z2] at e1
  obtain ⟨s, e2⟩ := rdA_Style (hf 2 _ rfl)
  replace e2 : (cs.drop 2).take (Try.prog.cellsOf 89) = s.cells := e2
  rw [z3] at e2
  obtain ⟨m, e3⟩ := (hf 3 _ rfl).bool Try.underlying4
  replace e3 : (cs.drop 62).take (Try.prog.cellsOf 4) = [.bool m] := e3
  rw [z4] at e3
  obtain ⟨a', l', c', e4, h1', h3'⟩ := rd_Table (hf 4 _ rfl)
  replace e4 : (cs.drop 63).take (Try.prog.cellsOf 92) = [.slice a' l'.length c'] := e4
  rw [z5] at e4
  have hz : cs.drop 64 = [] := List.drop_eq_nil_of_le (by omega)
  have e : cs = nodeRow up a l.length c s m a' l'.length c' := by
    show cs.drop 0 = _
    rw [cut_at cs 0 1 1 rfl, e0, cut_at cs 1 1 2 rfl, e1, cut_at cs 2 60 62 rfl, e2, cut_at cs 62 1 63 rfl, e3, cut_at cs 63 1 64 rfl, e4, hz]
    simp [nodeRow]
  unfold maxLen at h2
  exact ⟨⟨up, l, s, m, l'⟩, ⟨a, c, a', c', e, h3, h3', fun h => by cases h⟩, by show l.length ≤ _; omega, h1'⟩
set_option maxRecDepth 100000 in
theorem rd_Tree {w : World} {cs : List Value} (h : Rd Try.prog w 24 cs) : ∃ x : List Node, TreeIn false (fun k => k < w.heap.size) w cs x ∧ treeFits 9223372036854775807 x := by
  obtain ⟨hl, hf⟩ := h.struct Try.underlying24
  have hl2 : cs.length = 1 := hl.trans (by kernel_rfl)
  have c1 : Try.prog.cellsOf 22 = 1 := by kernel_rfl
  match cs, hl2 with
  | [q0], _ =>
    obtain ⟨a, l, c, e0, h1, h2, h3⟩ := (hf 0 _ rfl).list (rep := fun w' r x => NodeIn false (fun k => k < w.heap.size) w' r x ∧ x.fits 9223372036854775807) (sz := 64) Try.underlying22 (by kernel_rfl) (by decide) (fun cs h => rd_Node h)
    obtain ⟨h4, h5⟩ := h3.split2
    simp [c1] at e0
    unfold maxLen at h2
    exact ⟨l, ⟨a, c, by simp [e0], h4, fun h => by cases h⟩, by omega, h5⟩

end Go.Proofs.Ytkkjjhooamlljaa
namespace Go.Proofs.Ytkkjjhooamlljaa
open Go.RowKit

abbrev AskedSlice (R : Nat → Prop) (w : World) (a : Option Addr) (l : List Asked) : Prop := SliceAt (Flat Asked.cells) 6 R w a l
theorem MemoSlice.wide {o : Bool} {R S : Nat → Prop} {w : World} {a : Option Addr} {l : List Memo} (h : MemoSlice o R w a l) (hs : ∀ k, k < w.heap.size → R k → S k) : MemoSlice o S w a l := SliceAt.wideBy h hs fun _ _ hx => hx.wide hs
theorem MemoIn.old {o : Bool} {R : Nat → Prop} {w : World} {cs : List Value} {x : Memo} (h : MemoIn o R w cs x) : MemoIn false R w cs x := by
  obtain ⟨a, c, h1, h2, _⟩ := h
  exact ⟨a, c, h1, h2, fun h => by cases h⟩

structure KeptT where
  memos : List Memo
  asked : List Asked
  deriving DecidableEq, Inhabited
/-- What is kept, read from its cells; o: it may be written. -/
def KeptIn (o : Bool) (R : Nat → Prop) (w : World) (cs : List Value) (x : KeptT) : Prop :=
  ∃ m c a c', cs = [.slice m x.memos.length c, .slice a x.asked.length c'] ∧ MemoSlice o R w m x.memos ∧ AskedSlice R w a x.asked ∧ (o = true → Wr 117 10 R w m x.memos.length ∧ Wr 122 6 R w a x.asked.length ∧ x.asked.length ≤ c')
theorem KeptIn.mod {o : Bool} {R S : Nat → Prop} {w w' : World} {cs : List Value} {x : KeptT} (h : KeptIn o R w cs x) (hm : Mod S w w') (hs : ∀ k, R k → ¬ S k) : KeptIn o R w' cs x := by
  obtain ⟨m, c, a, c', h1, h2, h3, h4⟩ := h
  exact ⟨m, c, a, c', h1, h2.mod hm hs, h3.flatMod hm hs, fun ho => ⟨(h4 ho).1.mod hm hs, (h4 ho).2.1.mod hm hs, (h4 ho).2.2⟩⟩
theorem KeptIn.keep {o : Bool} {R : Nat → Prop} {w w' : World} {cs : List Value} {x : KeptT} (h : KeptIn o R w cs x) (hm : Mod (fun _ => False) w w') : KeptIn o R w' cs x := h.mod hm fun _ _ f => f
theorem KeptIn.wide {o : Bool} {R S : Nat → Prop} {w : World} {cs : List Value} {x : KeptT} (h : KeptIn o R w cs x) (hs : ∀ k, k < w.heap.size → R k → S k) : KeptIn o S w cs x := by
  obtain ⟨m, c, a, c', h1, h2, h3, h4⟩ := h
  exact ⟨m, c, a, c', h1, h2.wide hs, SliceAt.wide h3 hs, fun ho => ⟨(h4 ho).1.weaken hs, (h4 ho).2.1.weaken hs, (h4 ho).2.2⟩⟩
/-- Lengths that a walk can bear. -/
def KeptT.fits (n : Nat) (x : KeptT) : Prop := x.memos.length ≤ n ∧ x.asked.length ≤ n ∧ ∀ m ∈ x.memos, m.frames.length ≤ n
def KeptT.cost (x : KeptT) : Nat := x.memos.length + costs Memo.cost x.memos + x.asked.length
theorem KeptT.fits_of {x : KeptT} {n : Nat} (h : x.cost ≤ n) : x.fits n := by
  unfold KeptT.cost at h
  refine ⟨by omega, by omega, fun m hm => ?_⟩
  have := costs_mem Memo.cost hm
  unfold Memo.cost at *
  omega

set_option maxHeartbeats 2000000 in
theorem toKept_any (x : KeptT) (o : Bool) (cs : List Value) (R : Nat → Prop) (w : World) (hf : x.fits 1048576) (h : KeptIn o R w cs x) :
    Calls Try.prog 16 #[.agg cs.toArray] w fun e w' => ∃ cs', e = .returned (.agg cs'.toArray) ∧ KeptIn true (fun b => w.heap.size ≤ b) w' cs' x ∧ Mod (fun _ => False) w w' := by
  obtain ⟨m, c, a, c', rfl, h1, h2, _⟩ := h
  obtain ⟨f1, f2, f3⟩ := hf
  have H1 := hid h1
  have H2 := hid h2
  have F3 := hid f3
  clear h1 h2 f3
  go_enter Try.func16, Try.ntmps16
  go_wp2_with fail
  refine (toMemoS_any x.memos o _ _ R _ f1 F3.out (H1.out.keep (by (repeat (first | with_reducible exact Mod.refl _ _ | with_reducible refine Mod.drewN ?_ _ | with_reducible refine Mod.drew ?_ | with_reducible refine Mod.alloc ?_ _ | ((with_reducible refine Mod.setNew ?_ ?_ _ _ _); (rotate_left; omega)) | with_reducible refine Mod.setAt ?_ _ _ _ ))))).mono ?_
  intro e w1 hh
  obtain ⟨g1, rfl, hg1, s1, u1, hm1⟩ := hh.use
  obtain ⟨hq1, hz1⟩ := mcell hm1
  have hs1 := hm1.size
  repeat (rw [World.size_alloc] at hs1)
  have hr1_0 : w.heap.size < w1.heap.size := by omega
  have hr1_1 : w.heap.size + 1 < w1.heap.size := by omega
  have hr1_2 : w.heap.size + 1 + 1 < w1.heap.size := by omega
  have hM1 : Mod (fun _ => False) w w1 := by (repeat (first | with_reducible exact Mod.refl _ _ | with_reducible refine Mod.drewN ?_ _ | with_reducible refine Mod.drew ?_ | with_reducible refine Mod.alloc ?_ _ | ((with_reducible refine Mod.setNew ?_ ?_ _ _ _); (rotate_left; omega)) | with_reducible refine Mod.setAt ?_ _ _ _ | with_reducible exact hm1 | with_reducible refine Mod.thenNone ?_ hm1 ))
  simp only [World.size_alloc] at hg1
  have S1 := hid (MemoSlice.wide s1 (S := fun b => w.heap.size + 1 + 1 + 1 ≤ b) (fun k _ hk => by simpa using hk))
  have U1 := hid (u1.weaken (S := fun b => w.heap.size + 1 + 1 + 1 ≤ b) (fun k _ hk => by simpa using hk))
  have hsz : w.heap.size + 1 + 1 + 1 ≤ w1.heap.size := by have := hm1.size; simpa using this
  clear hh s1 u1
  go_wp2_with fail
  refine (toAskedS_any x.asked _ _ R _ f2 (H2.out.flatKeep (by (repeat (first | with_reducible exact Mod.refl _ _ | with_reducible refine Mod.drewN ?_ _ | with_reducible refine Mod.drew ?_ | with_reducible refine Mod.alloc ?_ _ | ((with_reducible refine Mod.setNew ?_ ?_ _ _ _); (rotate_left; omega)) | with_reducible refine Mod.setAt ?_ _ _ _ | with_reducible exact hM1 | with_reducible refine Mod.thenNone ?_ hM1 ))))).mono ?_
  intro e w2 hh
  obtain ⟨g2, rfl, hg2, s2, u2, hm2⟩ := hh.wr (sz := 6) (fun _ => rfl)
  obtain ⟨hq2, hz2⟩ := mcell hm2
  have hs2 := hm2.size
  repeat (rw [World.size_setCell] at hs2)
  have hr2_0 : w.heap.size < w2.heap.size := by omega
  have hr2_1 : w.heap.size + 1 < w2.heap.size := by omega
  have hr2_2 : w.heap.size + 1 + 1 < w2.heap.size := by omega
  have hM2 : Mod (fun _ => False) w w2 := by (repeat (first | with_reducible exact Mod.refl _ _ | with_reducible refine Mod.drewN ?_ _ | with_reducible refine Mod.drew ?_ | with_reducible refine Mod.alloc ?_ _ | ((with_reducible refine Mod.setNew ?_ ?_ _ _ _); (rotate_left; omega)) | with_reducible refine Mod.setAt ?_ _ _ _ | with_reducible exact hm2 | with_reducible refine Mod.thenNone ?_ hm2 | with_reducible exact hM1 | with_reducible refine Mod.thenNone ?_ hM1 ))
  have hms1 : Mod (fun k => k = w.heap.size + 1 + 1) w1 (w1.setCell ⟨w.heap.size + 1 + 1, 0, none⟩ (.slice (some ⟨g1, 0, none⟩) x.memos.length x.memos.length)) := (Mod.refl _ _).setAt _ _ _
  have hlow : ∀ k, w.heap.size + 1 + 1 + 1 ≤ k → ¬ k = w.heap.size + 1 + 1 := by omega
  have S1' := hid (MemoSlice.keep (MemoSlice.mod S1.out hms1 hlow) hm2)
  have U1' := hid ((U1.out.mod hms1 hlow).mod hm2 (fun _ _ f => f))
  have S2 := hid (SliceAt.wide s2 (S := fun b => w.heap.size + 1 + 1 + 1 ≤ b) (fun k _ hk => Nat.le_trans hsz (by simpa using hk)))
  have U2 := hid (u2.weaken (S := fun b => w.heap.size + 1 + 1 + 1 ≤ b) (fun k _ hk => Nat.le_trans hsz (by simpa using hk)))
  simp only [World.size_alloc, World.size_setCell] at hg2
  clear hh s2 u2 S1 U1 hms1 hm1 hm2
  go_wp2
  have hfin : ∀ W : World, Mod (fun k => k = w.heap.size + 1 + 1 ∨ k = w.heap.size + 1) w2 W → KeptIn true (fun b => w.heap.size ≤ b) W [.slice (some ⟨g1, 0, none⟩) x.memos.length x.memos.length, .slice (some ⟨g2, 0, none⟩) x.asked.length x.asked.length] x := by
    intro W hW
    have k1 : ∀ k, w.heap.size + 1 + 1 + 1 ≤ k → ¬ (k = w.heap.size + 1 + 1 ∨ k = w.heap.size + 1) := by omega
    exact KeptIn.wide ⟨_, _, _, _, rfl, MemoSlice.mod S1'.out hW k1, S2.out.flatMod hW k1, fun _ => ⟨U1'.out.mod hW k1, U2.out.mod hW k1, Nat.le_refl _⟩⟩ (fun k _ hk => by show w.heap.size ≤ k; omega)
  refine bodyPost_ret (v := .agg [.slice (some ⟨g1, 0, none⟩) x.memos.length x.memos.length, .slice (some ⟨g2, 0, none⟩) x.asked.length x.asked.length].toArray) ?_ rfl ⟨_, rfl, hfin _ ?_, ?_⟩
  · simp [results, Try.results16, go_sem, *]
  · refine Mod.setCell (Mod.setCell (Mod.setCell (Mod.refl _ _) (fun _ => .inl (.inl rfl)) _) (fun _ => .inl (.inr rfl)) _) (fun _ => .inl (.inr rfl)) _
  · (repeat (first | with_reducible exact Mod.refl _ _ | with_reducible refine Mod.drewN ?_ _ | with_reducible refine Mod.drew ?_ | with_reducible refine Mod.alloc ?_ _ | ((with_reducible refine Mod.setNew ?_ ?_ _ _ _); (rotate_left; omega)) | with_reducible refine Mod.setAt ?_ _ _ _ | with_reducible exact hM2 | with_reducible refine Mod.thenNone ?_ hM2 ))

set_option maxHeartbeats 2000000 in
theorem eqKept_same (x : KeptT) (o o' : Bool) (cs cs' : List Value) (R S : Nat → Prop) (w : World) (hf : x.fits 1048576) (h : KeptIn o R w cs x) (h' : KeptIn o' S w cs' x) :
    Calls Try.prog 20 #[.agg cs.toArray, .agg cs'.toArray] w fun e w' => e = .returned (.bool true) ∧ Mod (fun _ => False) w w' := by
  obtain ⟨m, c, a, c', rfl, h1, h2, _⟩ := h
  obtain ⟨m', d, a', d', rfl, h1', h2', _⟩ := h'
  obtain ⟨f1, f2, f3⟩ := hf
  have H1 := hid h1
  have H2 := hid h2
  have H1' := hid h1'
  have H2' := hid h2'
  have F3 := hid f3
  clear h1 h2 h1' h2' f3
  go_enter Try.func20, Try.ntmps20
  go_wp2_with fail
  refine (eqMemoS_same x.memos o o' _ _ _ _ R S _ f1 F3.out (H1.out.keep (by (repeat (first | with_reducible exact Mod.refl _ _ | with_reducible refine Mod.drewN ?_ _ | with_reducible refine Mod.drew ?_ | with_reducible refine Mod.alloc ?_ _ | ((with_reducible refine Mod.setNew ?_ ?_ _ _ _); (rotate_left; omega)) | with_reducible refine Mod.setAt ?_ _ _ _ )))) (H1'.out.keep (by (repeat (first | with_reducible exact Mod.refl _ _ | with_reducible refine Mod.drewN ?_ _ | with_reducible refine Mod.drew ?_ | with_reducible refine Mod.alloc ?_ _ | ((with_reducible refine Mod.setNew ?_ ?_ _ _ _); (rotate_left; omega)) | with_reducible refine Mod.setAt ?_ _ _ _ ))))).mono ?_
  rintro e w1 ⟨rfl, hm1⟩
  obtain ⟨hq1, hz1⟩ := mcell hm1
  have hs1 := hm1.size
  repeat (rw [World.size_alloc] at hs1)
  have hr1_0 : w.heap.size < w1.heap.size := by omega
  have hr1_1 : w.heap.size + 1 < w1.heap.size := by omega
  have hM1 : Mod (fun _ => False) w w1 := by (repeat (first | with_reducible exact Mod.refl _ _ | with_reducible refine Mod.drewN ?_ _ | with_reducible refine Mod.drew ?_ | with_reducible refine Mod.alloc ?_ _ | ((with_reducible refine Mod.setNew ?_ ?_ _ _ _); (rotate_left; omega)) | with_reducible refine Mod.setAt ?_ _ _ _ | with_reducible exact hm1 | with_reducible refine Mod.thenNone ?_ hm1 ))
  go_wp2_with fail
  refine (eqAskedS_any x.asked x.asked _ _ _ _ R S _ (by omega) (by omega) (H2.out.flatKeep hM1) (H2'.out.flatKeep hM1)).mono ?_
  rintro e w2 ⟨rfl, hm2⟩
  rw [decide_eq_true rfl]
  go_wp2
  go_ret
  exact ⟨rfl, by (repeat (first | with_reducible exact Mod.refl _ _ | with_reducible refine Mod.drewN ?_ _ | with_reducible refine Mod.drew ?_ | with_reducible refine Mod.alloc ?_ _ | ((with_reducible refine Mod.setNew ?_ ?_ _ _ _); (rotate_left; omega)) | with_reducible refine Mod.setAt ?_ _ _ _ | with_reducible exact hm2 | with_reducible refine Mod.thenNone ?_ hm2 | with_reducible exact hM1 | with_reducible refine Mod.thenNone ?_ hM1 ))⟩

set_option maxHeartbeats 2000000 in
theorem szKept_any (x : KeptT) (o : Bool) (cs : List Value) (R : Nat → Prop) (left : Int) (w : World) (h0 : 0 ≤ left) (h1 : left ≤ 1048576) (hf : x.fits 9223372036854775807) (h : KeptIn o R w cs x) :
    Calls Try.prog 12 #[.agg cs.toArray, .int .i64 left] w fun e w' => e = .returned (.int .i64 (szRes left x.cost)) ∧ Mod (fun _ => False) w w' := by
  obtain ⟨m, c, a, c', rfl, hs, _, _⟩ := h
  obtain ⟨f1, f2, f3⟩ := hf
  have H := hid hs
  have F3 := hid f3
  clear hs f3
  go_enter Try.func12, Try.ntmps12
  go_wp2_with fail
  refine (szMemoS_any x.memos o _ _ R left _ h0 h1 f1 F3.out (H.out.keep (by (repeat (first | with_reducible exact Mod.refl _ _ | with_reducible refine Mod.drewN ?_ _ | with_reducible refine Mod.drew ?_ | with_reducible refine Mod.alloc ?_ _ | ((with_reducible refine Mod.setNew ?_ ?_ _ _ _); (rotate_left; omega)) | with_reducible refine Mod.setAt ?_ _ _ _ ))))).mono ?_
  rintro e w1 ⟨rfl, hm1⟩
  obtain ⟨hq1, hz1⟩ := mcell hm1
  have hs1 := hm1.size
  repeat (rw [World.size_alloc] at hs1)
  have hr1_0 : w.heap.size < w1.heap.size := by omega
  have hM1 : Mod (fun _ => False) w w1 := by (repeat (first | with_reducible exact Mod.refl _ _ | with_reducible refine Mod.drewN ?_ _ | with_reducible refine Mod.drew ?_ | with_reducible refine Mod.alloc ?_ _ | ((with_reducible refine Mod.setNew ?_ ?_ _ _ _); (rotate_left; omega)) | with_reducible refine Mod.setAt ?_ _ _ _ | with_reducible exact hm1 | with_reducible refine Mod.thenNone ?_ hm1 ))
  by_cases hs : left < (x.memos.length + costs Memo.cost x.memos : Nat)
  · rw [szRes_less hs]
    have hc := hid (szRes_less (left := left) (n := x.cost) (by unfold KeptT.cost; omega))
    go_wp2
    go_ret
    exact ⟨ret_int hc.out.symm, hM1⟩
  · rw [szRes_more (by omega)]
    have h2 : 0 ≤ left - (x.memos.length + costs Memo.cost x.memos : Nat) := by omega
    have h3 : left - (x.memos.length + costs Memo.cost x.memos : Nat) ≤ 1048576 := by omega
    have hc := hid (show ∀ q : Int, q = left - (x.memos.length + costs Memo.cost x.memos : Nat) → szRes left x.cost = szRes q x.asked.length from by
      intro q hq
      unfold szRes KeptT.cost
      split <;> split <;> omega)
    generalize hq : left - (x.memos.length + costs Memo.cost x.memos : Nat) = q at h2 h3
    have hc2 := hid (hc.out q hq.symm)
    clear hc hq hs
    go_wp2_with fail
    refine (szAskedS_any _ _ _ _ h2 h3 f2 _).mono ?_
    rintro e w2 ⟨rfl, rfl⟩
    by_cases hs2 : q < x.asked.length
    · rw [if_pos hs2]
      have hc3 := hid (hc2.out.trans (szRes_less hs2))
      go_wp2
      go_ret
      exact ⟨ret_int hc3.out.symm, hM1⟩
    · rw [if_neg hs2]
      have hc3 := hid (hc2.out.trans (szRes_more (by omega)))
      have h4 : 0 ≤ q - x.asked.length := by omega
      go_wp2
      go_ret
      exact ⟨ret_int hc3.out.symm, hM1⟩

set_option maxRecDepth 100000 in
theorem rd_Asked {w : World} {cs : List Value} (h : Rd Try.prog w 125 cs) : ∃ x : Asked, cs = x.cells := by
  obtain ⟨hl, hf⟩ := h.struct Try.underlying125
  have hl2 : cs.length = 6 := hl.trans (by kernel_rfl)
  have c1 : Try.prog.cellsOf 3 = 1 := by kernel_rfl
  have c2 : Try.prog.cellsOf 4 = 1 := by kernel_rfl
  have c3 : Try.prog.cellsOf 97 = 2 := by kernel_rfl
  match cs, hl2 with
  | [q0, q1, q2, q3, q4, q5], _ =>
    obtain ⟨n0, e0, _⟩ := (hf 0 _ rfl).int Try.underlying3
    obtain ⟨x1, e1⟩ := rd_Space (hf 1 _ rfl)
    obtain ⟨x2, e2⟩ := rd_Space (hf 2 _ rfl)
    obtain ⟨b3, e3⟩ := (hf 3 _ rfl).bool Try.underlying4
    simp [c1, c2, c3, Space.cells] at e0 e1 e2 e3
    exact ⟨⟨n0, x1, x2, b3⟩, by simp [Asked.cells, e0, e1, e2, e3]⟩
set_option maxRecDepth 100000 in
theorem rd_Kept {w : World} {cs : List Value} (h : Rd Try.prog w 28 cs) : ∃ x : KeptT, KeptIn false (fun k => k < w.heap.size) w cs x ∧ x.fits 9223372036854775807 ∧ ∀ m ∈ x.memos, m.ok := by
  obtain ⟨hl, hf⟩ := h.struct Try.underlying28
  have hl2 : cs.length = 2 := hl.trans (by kernel_rfl)
  have c1 : Try.prog.cellsOf 25 = 1 := by kernel_rfl
  have c2 : Try.prog.cellsOf 26 = 1 := by kernel_rfl
  match cs, hl2 with
  | [q0, q1], _ =>
    obtain ⟨a, l, c, e0, h1, h2, h3⟩ := (hf 0 _ rfl).list (rep := fun w' r x => MemoIn false (fun k => k < w.heap.size) w' r x ∧ (x.frames.length ≤ 9223372036854775807 ∧ x.ok)) (sz := 10) Try.underlying25 (by kernel_rfl) (by decide) (fun cs h => by
      obtain ⟨x, a, c, e, ho, hn, hs⟩ := rd_Memo h
      exact ⟨x, ⟨a, c, e, hs, fun h => by cases h⟩, hn, ho⟩)
    obtain ⟨h4, h5⟩ := h3.split2
    obtain ⟨a', l', c', e1, h1', h2', h3'⟩ := (hf 1 _ rfl).list (rep := Flat Asked.cells) (sz := 6) Try.underlying26 (by kernel_rfl) (by decide) (fun cs h => rd_Asked h)
    simp [c1, c2] at e0 e1
    unfold maxLen at h2 h2'
    exact ⟨⟨l, l'⟩, ⟨a, c, a', c', by simp [e0, e1], h4, h3', fun h => by cases h⟩, ⟨by show l.length ≤ _; omega, by show l'.length ≤ _; omega, fun m hm => (h5 m hm).1⟩, fun m hm => (h5 m hm).2⟩

end Go.Proofs.Ytkkjjhooamlljaa
namespace Go.Proofs.Ytkkjjhooamlljaa
open Go.RowKit

structure Engine where
  tree : List Node
  kept : KeptT
  frames : List Frame
  root : Int
  wide : Int
  high : Int
  rtl : Bool
  deriving DecidableEq, Inhabited
/-- An engine, read from its cells; o: it may be written. -/
def EngineIn (o : Bool) (R : Nat → Prop) (w : World) (cs : List Value) (x : Engine) : Prop :=
  ∃ t k0 k1 f c, cs = [t, k0, k1, .slice f x.frames.length c, .int .i64 x.root, .int .i64 x.wide, .int .i64 x.high, .bool x.rtl] ∧ TreeIn o R w [t] x.tree ∧ KeptIn o R w [k0, k1] x.kept ∧ SliceAt (Flat Frame.cells) 5 R w f x.frames ∧ (o = true → Wr 69 5 R w f x.frames.length)
theorem EngineIn.mod {o : Bool} {R S : Nat → Prop} {w w' : World} {cs : List Value} {x : Engine} (h : EngineIn o R w cs x) (hm : Mod S w w') (hs : ∀ k, R k → ¬ S k) : EngineIn o R w' cs x := by
  obtain ⟨t, k0, k1, f, c, h1, h2, h3, h4, h5⟩ := h
  exact ⟨t, k0, k1, f, c, h1, h2.mod hm hs, h3.mod hm hs, h4.flatMod hm hs, fun ho => (h5 ho).mod hm hs⟩
theorem EngineIn.keep {o : Bool} {R : Nat → Prop} {w w' : World} {cs : List Value} {x : Engine} (h : EngineIn o R w cs x) (hm : Mod (fun _ => False) w w') : EngineIn o R w' cs x := h.mod hm fun _ _ f => f
theorem EngineIn.wide {o : Bool} {R S : Nat → Prop} {w : World} {cs : List Value} {x : Engine} (h : EngineIn o R w cs x) (hs : ∀ k, k < w.heap.size → R k → S k) : EngineIn o S w cs x := by
  obtain ⟨t, k0, k1, f, c, h1, h2, h3, h4, h5⟩ := h
  exact ⟨t, k0, k1, f, c, h1, h2.wide hs, h3.wide hs, SliceAt.wide h4 hs, fun ho => (h5 ho).weaken hs⟩
/-- Lengths that a walk can bear. -/
def Engine.fits (n : Nat) (x : Engine) : Prop := treeFits n x.tree ∧ x.kept.fits n ∧ x.frames.length ≤ n
def Engine.cost (x : Engine) : Nat := treeCost x.tree + x.kept.cost + x.frames.length
theorem Engine.fits_of {x : Engine} {n : Nat} (h : x.cost ≤ n) : x.fits n := by
  unfold Engine.cost at h
  exact ⟨treeFits_of (by omega), KeptT.fits_of (by omega), by omega⟩
theorem TreeIn.one {o : Bool} {R : Nat → Prop} {w : World} {cs : List Value} {l : List Node} (h : TreeIn o R w cs l) : ∃ t, cs = [t] ∧ t.oneCell' = true := by
  obtain ⟨a, c, rfl, _⟩ := h
  exact ⟨_, rfl, rfl⟩
theorem KeptIn.two {o : Bool} {R : Nat → Prop} {w : World} {cs : List Value} {x : KeptT} (h : KeptIn o R w cs x) : ∃ p q, cs = [p, q] ∧ p.oneCell' = true ∧ q.oneCell' = true := by
  obtain ⟨m, c, a, c', rfl, _⟩ := h
  exact ⟨_, _, rfl, rfl, rfl⟩

set_option maxRecDepth 100000 in
set_option maxHeartbeats 4000000 in
theorem toEngine_any (x : Engine) (o : Bool) (cs : List Value) (R : Nat → Prop) (w : World) (hf : x.fits 1048576) (h : EngineIn o R w cs x) :
    Calls Try.prog 6 #[.agg cs.toArray] w fun e w' => ∃ cs', e = .returned (.agg cs'.toArray) ∧ EngineIn true (fun b => w.heap.size ≤ b) w' cs' x ∧ Mod (fun _ => False) w w' := by
  obtain ⟨t, k0, k1, f, c, rfl, h1, h2, h3, _⟩ := h
  obtain ⟨f1, f2, f3⟩ := hf
  obtain ⟨ta, tc, et, ht⟩ := h1
  obtain ⟨ka, kc, kb, kc', ek, hk⟩ := h2
  simp only [List.cons.injEq, and_true] at et ek
  obtain rfl := et
  obtain ⟨rfl, rfl⟩ := ek
  have H1 := hid (show TreeIn o R w [.slice ta x.tree.length tc] x.tree from ⟨ta, tc, rfl, ht⟩)
  have H2 := hid (show KeptIn o R w [.slice ka x.kept.memos.length kc, .slice kb x.kept.asked.length kc'] x.kept from ⟨ka, kc, kb, kc', rfl, hk⟩)
  have H3 := hid h3
  have F1 := hid f1
  have F2 := hid f2
  clear ht hk h3 f1 f2
  go_enter Try.func6, Try.ntmps6
  go_wp2_with fail
  refine (toTree_any x.tree o [.slice ta x.tree.length tc] R _ F1.out (H1.out.keep (by (repeat (first | with_reducible exact Mod.refl _ _ | with_reducible refine Mod.drewN ?_ _ | with_reducible refine Mod.drew ?_ | with_reducible refine Mod.alloc ?_ _ | ((with_reducible refine Mod.setNew ?_ ?_ _ _ _); (rotate_left; omega)) | with_reducible refine Mod.setAt ?_ _ _ _ ))))).mono ?_
  rintro e w1 ⟨cs1, rfl, ⟨g1, c1, rfl, s1⟩, hm1⟩
  obtain ⟨hq1, hz1⟩ := mcell hm1
  have hs1 := hm1.size
  repeat (rw [World.size_alloc] at hs1)
  have hr1_0 : w.heap.size < w1.heap.size := by omega
  have hr1_1 : w.heap.size + 1 < w1.heap.size := by omega
  have hr1_2 : w.heap.size + 1 + 1 < w1.heap.size := by omega
  have hM1 : Mod (fun _ => False) w w1 := by (repeat (first | with_reducible exact Mod.refl _ _ | with_reducible refine Mod.drewN ?_ _ | with_reducible refine Mod.drew ?_ | with_reducible refine Mod.alloc ?_ _ | ((with_reducible refine Mod.setNew ?_ ?_ _ _ _); (rotate_left; omega)) | with_reducible refine Mod.setAt ?_ _ _ _ | with_reducible exact hm1 | with_reducible refine Mod.thenNone ?_ hm1 ))
  have hB1 : w.heap.size + 1 + 1 + 1 ≤ w1.heap.size := by have := hm1.size; simpa using this
  have S1 := hid (TreeIn.wide (show TreeIn true _ w1 _ x.tree from ⟨g1, c1, rfl, s1⟩) (S := fun b => w.heap.size + 1 + 1 + 1 ≤ b) (fun k _ hk => by simpa using hk))
  clear s1 hm1
  go_wp2_with fail
  refine (toKept_any x.kept o [.slice ka x.kept.memos.length kc, .slice kb x.kept.asked.length kc'] R _ F2.out (H2.out.keep (by (repeat (first | with_reducible exact Mod.refl _ _ | with_reducible refine Mod.drewN ?_ _ | with_reducible refine Mod.drew ?_ | with_reducible refine Mod.alloc ?_ _ | ((with_reducible refine Mod.setNew ?_ ?_ _ _ _); (rotate_left; omega)) | with_reducible refine Mod.setAt ?_ _ _ _ | with_reducible exact hM1 | with_reducible refine Mod.thenNone ?_ hM1 ))))).mono ?_
  rintro e w2 ⟨cs2, rfl, ⟨g2, c2, g2', c2', rfl, s2⟩, hm2⟩
  obtain ⟨hq2, hz2⟩ := mcell hm2
  have hs2 := hm2.size
  repeat (rw [World.size_setCell] at hs2)
  have hr2_0 : w.heap.size < w2.heap.size := by omega
  have hr2_1 : w.heap.size + 1 < w2.heap.size := by omega
  have hr2_2 : w.heap.size + 1 + 1 < w2.heap.size := by omega
  have hM2 : Mod (fun _ => False) w w2 := by (repeat (first | with_reducible exact Mod.refl _ _ | with_reducible refine Mod.drewN ?_ _ | with_reducible refine Mod.drew ?_ | with_reducible refine Mod.alloc ?_ _ | ((with_reducible refine Mod.setNew ?_ ?_ _ _ _); (rotate_left; omega)) | with_reducible refine Mod.setAt ?_ _ _ _ | with_reducible exact hm2 | with_reducible refine Mod.thenNone ?_ hm2 | with_reducible exact hM1 | with_reducible refine Mod.thenNone ?_ hM1 ))
  have hB2 : w.heap.size + 1 + 1 + 1 ≤ w2.heap.size := by have := hm2.size; simp only [World.size_setCell] at this; omega
  have hms1 : Mod (fun k => k = w.heap.size + 1 + 1) w1 (w1.setCell ⟨w.heap.size + 1 + 1, 0, none⟩ (.slice g1 x.tree.length c1)) := (Mod.refl _ _).setAt _ _ _
  have hlow : ∀ k, w.heap.size + 1 + 1 + 1 ≤ k → ¬ k = w.heap.size + 1 + 1 := by omega
  have S1' := hid ((S1.out.mod hms1 hlow).keep hm2)
  have S2 := hid (KeptIn.wide (show KeptIn true _ w2 _ x.kept from ⟨g2, c2, g2', c2', rfl, s2⟩) (S := fun b => w.heap.size + 1 + 1 + 1 ≤ b) (fun k _ hk => Nat.le_trans hB1 (by simpa using hk)))
  clear s2 hm2 hms1 S1
  go_wp2_with fail
  refine (toFrameS_any x.frames _ _ R _ f3 (H3.out.flatKeep (by (repeat (first | with_reducible exact Mod.refl _ _ | with_reducible refine Mod.drewN ?_ _ | with_reducible refine Mod.drew ?_ | with_reducible refine Mod.alloc ?_ _ | ((with_reducible refine Mod.setNew ?_ ?_ _ _ _); (rotate_left; omega)) | with_reducible refine Mod.setAt ?_ _ _ _ | with_reducible exact hM2 | with_reducible refine Mod.thenNone ?_ hM2 ))))).mono ?_
  intro e w3 hh
  obtain ⟨g3, rfl, hg3, s3, u3, hm3⟩ := hh.wr (sz := 5) (fun _ => rfl)
  obtain ⟨hq3, hz3⟩ := mcell hm3
  have hs3 := hm3.size
  repeat (rw [World.size_setCell] at hs3)
  have hr3_0 : w.heap.size < w3.heap.size := by omega
  have hr3_1 : w.heap.size + 1 < w3.heap.size := by omega
  have hr3_2 : w.heap.size + 1 + 1 < w3.heap.size := by omega
  have hM3 : Mod (fun _ => False) w w3 := by (repeat (first | with_reducible exact Mod.refl _ _ | with_reducible refine Mod.drewN ?_ _ | with_reducible refine Mod.drew ?_ | with_reducible refine Mod.alloc ?_ _ | ((with_reducible refine Mod.setNew ?_ ?_ _ _ _); (rotate_left; omega)) | with_reducible refine Mod.setAt ?_ _ _ _ | with_reducible exact hm3 | with_reducible refine Mod.thenNone ?_ hm3 | with_reducible exact hM2 | with_reducible refine Mod.thenNone ?_ hM2 ))
  have hms2 : Mod (fun k => k = w.heap.size + 1 + 1) w2 ((w2.setCell ⟨w.heap.size + 1 + 1, 1, none⟩ (.slice g2 x.kept.memos.length c2)).setCell ⟨w.heap.size + 1 + 1, 2, none⟩ (.slice g2' x.kept.asked.length c2')) := ((Mod.refl _ _).setAt _ _ _).setAt _ _ _
  have S1'' := hid ((S1'.out.mod hms2 hlow).keep hm3)
  have S2' := hid ((S2.out.mod hms2 hlow).keep hm3)
  have S3 := hid (SliceAt.wide s3 (S := fun b => w.heap.size + 1 + 1 + 1 ≤ b) (fun k _ hk => Nat.le_trans hB2 (by simpa using hk)))
  have U3 := hid (u3.weaken (S := fun b => w.heap.size + 1 + 1 + 1 ≤ b) (fun k _ hk => Nat.le_trans hB2 (by simpa using hk)))
  clear hh s3 u3 hms2 hm3 S1' S2 hg3
  go_wp2
  have hfin : ∀ W : World, Mod (fun k => k = w.heap.size + 1 + 1 ∨ k = w.heap.size + 1) w3 W → EngineIn true (fun b => w.heap.size ≤ b) W [.slice g1 x.tree.length c1, .slice g2 x.kept.memos.length c2, .slice g2' x.kept.asked.length c2', .slice (some ⟨g3, 0, none⟩) x.frames.length x.frames.length, .int .i64 x.root, .int .i64 x.wide, .int .i64 x.high, .bool x.rtl] x := by
    intro W hW
    have k1 : ∀ k, w.heap.size + 1 + 1 + 1 ≤ k → ¬ (k = w.heap.size + 1 + 1 ∨ k = w.heap.size + 1) := by omega
    exact EngineIn.wide ⟨_, _, _, _, _, rfl, S1''.out.mod hW k1, S2'.out.mod hW k1, S3.out.flatMod hW k1, fun _ => U3.out.mod hW k1⟩ (fun k _ hk => by show w.heap.size ≤ k; omega)
  refine bodyPost_ret (v := .agg [.slice g1 x.tree.length c1, .slice g2 x.kept.memos.length c2, .slice g2' x.kept.asked.length c2', .slice (some ⟨g3, 0, none⟩) x.frames.length x.frames.length, .int .i64 x.root, .int .i64 x.wide, .int .i64 x.high, .bool x.rtl].toArray) ?_ rfl ⟨_, rfl, hfin _ ?_, ?_⟩
  · simp [results, Try.results6, go_sem, *]
  · iterate 8 refine Mod.setCell ?_ (fun _ => .inl (.inr rfl)) _
    iterate 5 refine Mod.setCell ?_ (fun _ => .inl (.inl rfl)) _
    exact Mod.refl _ _
  · (repeat (first | with_reducible exact Mod.refl _ _ | with_reducible refine Mod.drewN ?_ _ | with_reducible refine Mod.drew ?_ | with_reducible refine Mod.alloc ?_ _ | ((with_reducible refine Mod.setNew ?_ ?_ _ _ _); (rotate_left; omega)) | with_reducible refine Mod.setAt ?_ _ _ _ | with_reducible exact hM3 | with_reducible refine Mod.thenNone ?_ hM3 ))

set_option maxHeartbeats 4000000 in
theorem eqEngine_same (x : Engine) (o o' : Bool) (cs cs' : List Value) (R S : Nat → Prop) (w : World) (hf : x.fits 1048576) (h : EngineIn o R w cs x) (h' : EngineIn o' S w cs' x) :
    Calls Try.prog 8 #[.agg cs.toArray, .agg cs'.toArray] w fun e w' => e = .returned (.bool true) ∧ Mod (fun _ => False) w w' := by
  obtain ⟨t, k0, k1, f, c, rfl, h1, h2, h3, _⟩ := h
  obtain ⟨t', k0', k1', f', c', rfl, h1', h2', h3', _⟩ := h'
  obtain ⟨f1, f2, f3⟩ := hf
  obtain ⟨ta, tc, et, ht⟩ := h1
  obtain ⟨ka, kc, kb, kc', ek, hk⟩ := h2
  obtain ⟨ta', tc', et', ht'⟩ := h1'
  obtain ⟨ka', kd, kb', kd', ek', hk'⟩ := h2'
  simp only [List.cons.injEq, and_true] at et ek et' ek'
  obtain rfl := et
  obtain ⟨rfl, rfl⟩ := ek
  obtain rfl := et'
  obtain ⟨rfl, rfl⟩ := ek'
  have H1 := hid (show TreeIn o R w [.slice ta x.tree.length tc] x.tree from ⟨ta, tc, rfl, ht⟩)
  have H2 := hid (show KeptIn o R w [.slice ka x.kept.memos.length kc, .slice kb x.kept.asked.length kc'] x.kept from ⟨ka, kc, kb, kc', rfl, hk⟩)
  have H1' := hid (show TreeIn o' S w [.slice ta' x.tree.length tc'] x.tree from ⟨ta', tc', rfl, ht'⟩)
  have H2' := hid (show KeptIn o' S w [.slice ka' x.kept.memos.length kd, .slice kb' x.kept.asked.length kd'] x.kept from ⟨ka', kd, kb', kd', rfl, hk'⟩)
  have H3 := hid h3
  have H3' := hid h3'
  have F1 := hid f1
  have F2 := hid f2
  clear ht hk ht' hk' h3 h3' f1 f2
  go_enter Try.func8, Try.ntmps8
  go_wp2_with fail
  refine (eqTree_same x.tree o o' [.slice ta x.tree.length tc] [.slice ta' x.tree.length tc'] R S _ F1.out (H1.out.keep (by (repeat (first | with_reducible exact Mod.refl _ _ | with_reducible refine Mod.drewN ?_ _ | with_reducible refine Mod.drew ?_ | with_reducible refine Mod.alloc ?_ _ | ((with_reducible refine Mod.setNew ?_ ?_ _ _ _); (rotate_left; omega)) | with_reducible refine Mod.setAt ?_ _ _ _ )))) (H1'.out.keep (by (repeat (first | with_reducible exact Mod.refl _ _ | with_reducible refine Mod.drewN ?_ _ | with_reducible refine Mod.drew ?_ | with_reducible refine Mod.alloc ?_ _ | ((with_reducible refine Mod.setNew ?_ ?_ _ _ _); (rotate_left; omega)) | with_reducible refine Mod.setAt ?_ _ _ _ ))))).mono ?_
  rintro e w1 ⟨rfl, hm1⟩
  obtain ⟨hq1, hz1⟩ := mcell hm1
  have hs1 := hm1.size
  repeat (rw [World.size_alloc] at hs1)
  have hr1_0 : w.heap.size < w1.heap.size := by omega
  have hr1_1 : w.heap.size + 1 < w1.heap.size := by omega
  have hM1 : Mod (fun _ => False) w w1 := by (repeat (first | with_reducible exact Mod.refl _ _ | with_reducible refine Mod.drewN ?_ _ | with_reducible refine Mod.drew ?_ | with_reducible refine Mod.alloc ?_ _ | ((with_reducible refine Mod.setNew ?_ ?_ _ _ _); (rotate_left; omega)) | with_reducible refine Mod.setAt ?_ _ _ _ | with_reducible exact hm1 | with_reducible refine Mod.thenNone ?_ hm1 ))
  clear hm1
  go_wp2_with fail
  refine (eqKept_same x.kept o o' [.slice ka x.kept.memos.length kc, .slice kb x.kept.asked.length kc'] [.slice ka' x.kept.memos.length kd, .slice kb' x.kept.asked.length kd'] R S _ F2.out (H2.out.keep hM1) (H2'.out.keep hM1)).mono ?_
  rintro e w2 ⟨rfl, hm2⟩
  obtain ⟨hq2, hz2⟩ := mcell hm2
  have hs2 := hm2.size
  repeat (unfold World.drewN at hs2)
  have hr2_0 : w.heap.size < w2.heap.size := by omega
  have hr2_1 : w.heap.size + 1 < w2.heap.size := by omega
  have hM2 := hM1.thenNone hm2
  clear hm2
  go_wp2_with fail
  refine (eqFrameS_any x.frames x.frames _ _ _ _ R S _ (by omega) (by omega) (H3.out.flatKeep hM2) (H3'.out.flatKeep hM2)).mono ?_
  rintro e w3 ⟨rfl, hm3⟩
  obtain ⟨hq3, hz3⟩ := mcell hm3
  have hs3 := hm3.size
  repeat (unfold World.drewN at hs3)
  have hr3_0 : w.heap.size < w3.heap.size := by omega
  have hr3_1 : w.heap.size + 1 < w3.heap.size := by omega
  rw [decide_eq_true rfl]
  have hM3 := hM2.thenNone hm3
  clear hm3
  go_wp2
  go_ret
  exact ⟨rfl, hM3⟩

theorem szRes_next {left : Int} {a b : Nat} (h : (a : Int) ≤ left) : szRes left (a + b) = szRes (left - a) b := by
  unfold szRes
  split <;> split <;> omega
set_option maxHeartbeats 4000000 in
theorem szEngine_any (x : Engine) (o : Bool) (cs : List Value) (R : Nat → Prop) (left : Int) (w : World) (h0 : 0 ≤ left) (h1 : left ≤ 1048576) (hf : x.fits 9223372036854775807) (h : EngineIn o R w cs x) :
    Calls Try.prog 4 #[.agg cs.toArray, .int .i64 left] w fun e w' => e = .returned (.int .i64 (szRes left x.cost)) ∧ Mod (fun _ => False) w w' := by
  obtain ⟨t, k0, k1, f, c, rfl, p1, p2, _, _⟩ := h
  obtain ⟨f1, f2, f3⟩ := hf
  obtain ⟨ta, tc, et, ht⟩ := p1
  obtain ⟨ka, kc, kb, kc', ek, hk⟩ := p2
  simp only [List.cons.injEq, and_true] at et ek
  obtain rfl := et
  obtain ⟨rfl, rfl⟩ := ek
  have H1 := hid (show TreeIn o R w [.slice ta x.tree.length tc] x.tree from ⟨ta, tc, rfl, ht⟩)
  have H2 := hid (show KeptIn o R w [.slice ka x.kept.memos.length kc, .slice kb x.kept.asked.length kc'] x.kept from ⟨ka, kc, kb, kc', rfl, hk⟩)
  have F1 := hid f1
  have F2 := hid f2
  clear ht hk f1 f2
  go_enter Try.func4, Try.ntmps4
  go_wp2_with fail
  refine (szTree_any x.tree o [.slice ta x.tree.length tc] R left _ h0 h1 F1.out (H1.out.keep (by (repeat (first | with_reducible exact Mod.refl _ _ | with_reducible refine Mod.drewN ?_ _ | with_reducible refine Mod.drew ?_ | with_reducible refine Mod.alloc ?_ _ | ((with_reducible refine Mod.setNew ?_ ?_ _ _ _); (rotate_left; omega)) | with_reducible refine Mod.setAt ?_ _ _ _ ))))).mono ?_
  rintro e w1 ⟨rfl, hm1⟩
  obtain ⟨hq1, hz1⟩ := mcell hm1
  have hs1 := hm1.size
  repeat (rw [World.size_alloc] at hs1)
  have hr1_0 : w.heap.size < w1.heap.size := by omega
  have hM1 : Mod (fun _ => False) w w1 := by (repeat (first | with_reducible exact Mod.refl _ _ | with_reducible refine Mod.drewN ?_ _ | with_reducible refine Mod.drew ?_ | with_reducible refine Mod.alloc ?_ _ | ((with_reducible refine Mod.setNew ?_ ?_ _ _ _); (rotate_left; omega)) | with_reducible refine Mod.setAt ?_ _ _ _ | with_reducible exact hm1 | with_reducible refine Mod.thenNone ?_ hm1 ))
  clear hm1
  by_cases hs : left < treeCost x.tree
  · rw [szRes_less hs]
    have hc := hid (szRes_less (left := left) (n := x.cost) (by unfold Engine.cost; omega))
    go_wp2
    go_ret
    exact ⟨ret_int hc.out.symm, hM1⟩
  · rw [szRes_more (by omega)]
    have hc := hid (show szRes left x.cost = szRes (left - treeCost x.tree) (x.kept.cost + x.frames.length) from by
      rw [← szRes_next (by omega)]
      unfold Engine.cost
      rw [Nat.add_assoc])
    have q0 : 0 ≤ left - treeCost x.tree := by omega
    have q1 : left - treeCost x.tree ≤ 1048576 := by omega
    generalize left - (treeCost x.tree : Int) = q at hc q0 q1
    clear hs
    go_wp2_with fail
    refine (szKept_any x.kept o [.slice ka x.kept.memos.length kc, .slice kb x.kept.asked.length kc'] R q _ q0 q1 F2.out (H2.out.keep hM1)).mono ?_
    rintro e w2 ⟨rfl, hm2⟩
    obtain ⟨hq2, hz2⟩ := mcell hm2
    have hs2 := hm2.size
    repeat (unfold World.drewN at hs2)
    have hr2_0 : w.heap.size < w2.heap.size := by omega
    have hM2 := hM1.thenNone hm2
    clear hm2
    by_cases hs : q < x.kept.cost
    · rw [szRes_less hs]
      have hc2 := hid (hc.out.trans (szRes_less (by omega)))
      clear hc
      go_wp2
      go_ret
      exact ⟨ret_int hc2.out.symm, hM2⟩
    · rw [szRes_more (by omega)]
      have hc2 := hid (hc.out.trans (szRes_next (by omega)))
      have r0 : 0 ≤ q - x.kept.cost := by omega
      have r1 : q - x.kept.cost ≤ 1048576 := by omega
      generalize q - (x.kept.cost : Int) = r at hc2 r0 r1
      clear hs hc
      go_wp2_with fail
      refine (szFrameS_any _ _ _ _ r0 r1 f3 _).mono ?_
      rintro e w3 ⟨rfl, rfl⟩
      by_cases hs : r < x.frames.length
      · rw [if_pos hs]
        have hc3 := hid (hc2.out.trans (szRes_less hs))
        clear hc2
        go_wp2
        go_ret
        exact ⟨ret_int hc3.out.symm, hM2⟩
      · rw [if_neg hs]
        have hc3 := hid (hc2.out.trans (szRes_more (by omega)))
        have s0 : 0 ≤ r - x.frames.length := by omega
        clear hc2
        go_wp2
        go_ret
        exact ⟨ret_int hc3.out.symm, hM2⟩

set_option maxRecDepth 100000 in
theorem rd_Engine {w : World} {cs : List Value} (h : Rd Try.prog w 31 cs) : ∃ x : Engine, EngineIn false (fun k => k < w.heap.size) w cs x ∧ x.fits 9223372036854775807 := by
  obtain ⟨hl, hf⟩ := h.struct Try.underlying31
  have hl2 : cs.length = 8 := hl.trans (by kernel_rfl)
  have c1 : Try.prog.cellsOf 24 = 1 := by kernel_rfl
  have c2 : Try.prog.cellsOf 28 = 2 := by kernel_rfl
  have c3 : Try.prog.cellsOf 29 = 1 := by kernel_rfl
  have c4 : Try.prog.cellsOf 3 = 1 := by kernel_rfl
  have c5 : Try.prog.cellsOf 4 = 1 := by kernel_rfl
  match cs, hl2 with
  | [q0, q1, q2, q3, q4, q5, q6, q7], _ =>
    obtain ⟨tr, e0, t1⟩ := rd_Tree (hf 0 _ rfl)
    obtain ⟨ke, e1, t2, _⟩ := rd_Kept (hf 1 _ rfl)
    obtain ⟨a, l, c, e2, h1, h2, h3⟩ := (hf 2 _ rfl).list (rep := Flat Frame.cells) (sz := 5) Try.underlying29 (by kernel_rfl) (by decide) (fun cs h => by
      obtain ⟨x, e, _⟩ := rd_Frame h
      exact ⟨x, e⟩)
    obtain ⟨n3, e3, _⟩ := (hf 3 _ rfl).int Try.underlying3
    obtain ⟨n4, e4, _⟩ := (hf 4 _ rfl).int Try.underlying3
    obtain ⟨n5, e5, _⟩ := (hf 5 _ rfl).int Try.underlying3
    obtain ⟨b6, e6⟩ := (hf 6 _ rfl).bool Try.underlying4
    simp [c1, c2, c3, c4, c5] at e0 e1 e2 e3 e4 e5 e6
    unfold maxLen at h2
    exact ⟨⟨tr, ke, l, n3, n4, n5, b6⟩, ⟨q0, q1, q2, a, c, by simp [e2, e3, e4, e5, e6], e0, e1, h3, fun h => by cases h⟩, t1, t2, by show l.length ≤ _; omega⟩

end Go.Proofs.Ytkkjjhooamlljaa
namespace Go.Proofs.Ytkkjjhooamlljaa
open Go.RowKit

/-- An engine's cells, written out. -/
theorem EngineIn.lit {o : Bool} {R : Nat → Prop} {w : World} {cs : List Value} {x : Engine} (h : EngineIn o R w cs x) : ∃ ta tc ka kc kb kd fa fc, cs = [.slice ta x.tree.length tc, .slice ka x.kept.memos.length kc, .slice kb x.kept.asked.length kd, .slice fa x.frames.length fc, .int .i64 x.root, .int .i64 x.wide, .int .i64 x.high, .bool x.rtl] ∧ EngineIn o R w [.slice ta x.tree.length tc, .slice ka x.kept.memos.length kc, .slice kb x.kept.asked.length kd, .slice fa x.frames.length fc, .int .i64 x.root, .int .i64 x.wide, .int .i64 x.high, .bool x.rtl] x := by
  have h0 := h
  obtain ⟨t, k0, k1, f, c, rfl, ⟨ta, tc, et, _⟩, ⟨ka, kc, kb, kc', ek, _⟩, _, _⟩ := h
  simp only [List.cons.injEq, and_true] at et ek
  obtain rfl := et
  obtain ⟨rfl, rfl⟩ := ek
  exact ⟨ta, tc, ka, kc, kb, kc', f, c, rfl, h0⟩
/-- An engine's value reads as the engine. -/
def EngAt (x : Engine) (w : World) (v : Value) : Prop := ∃ cs : List Value, v = .agg cs.toArray ∧ ∃ o R, EngineIn o R w cs x
theorem EngAt.keep {x : Engine} {w w' : World} {v : Value} (h : EngAt x w v) (hm : Mod (fun _ => False) w w') : EngAt x w' v := by
  obtain ⟨cs, h1, o, R, h2⟩ := h
  exact ⟨cs, h1, o, R, EngineIn.keep h2 hm⟩
theorem toEngine_at (x : Engine) (o : Bool) (cs : List Value) (R : Nat → Prop) (w : World) (hf : x.fits 1048576) (h : EngineIn o R w cs x) :
    Calls Try.prog 6 #[.agg cs.toArray] w fun e w' => ∃ v, e = .returned v ∧ EngAt x w' v ∧ Mod (fun _ => False) w w' :=
  (toEngine_any x o cs R w hf h).mono fun _ _ ⟨cs', he, h1, hm⟩ => ⟨_, he, ⟨cs', rfl, _, _, h1⟩, hm⟩

end Go.Proofs.Ytkkjjhooamlljaa
namespace Go.Proofs.Ytkkjjhooamlljaa
open Go.RowKit
set_option linter.unusedVariables false
set_option linter.unusedSimpArgs false

def framesO (fs : List Frame) (q : Option Addr × Nat) : Own := ⟨.slice q.1 fs.length q.2, 69, 5, fs.length, (fs.map Frame.cells).flatten⟩
def framesM (fs : List Frame) (q : Option Addr × Nat) (k : Int) : Own := ⟨.slice q.1 fs.length q.2, 69, 5, fs.length, Frame.marks k fs.length⟩
def bareV (l : List PNode) (a : Option Addr) (c : Nat) (fs : List Frame) (q : Option Addr × Nat) (root wide high : Int) (rtl : Bool) : List Value := [.slice a l.length c, .slice none 0 0, .slice none 0 0, .slice q.1 fs.length q.2, .int .i64 root, .int .i64 wide, .int .i64 high, .bool rtl]
set_option maxRecDepth 100000 in
set_option maxHeartbeats 4000000 in
theorem heldMemoS_nil (q0 : Int) (hq : 1 ≤ q0) (w : World) : Calls Try.prog 48 #[.slice none 0 0, .int .i64 q0] w fun e w' => e = .returned (.int .i64 q0) ∧ Mod (fun _ => False) w w' := by
  refine calls_sx Try.func48 rfl rfl (fun a h1 h2 h3 => ((Fr.nil h1 h2).arg (h3 1 _ rfl)).arg (h3 0 _ rfl)) ?_
  repeat (first | refine SX.seq ?_ | refine SXl.nil ?_ | refine SX.region ?_ | refine SQ.thenNormal ?_ | refine SX.block ?_ | (refine l_assign ?_; (refine SXl.v (OpW.assign rfl) rfl ?_ ?_ ?_); rfl; rfl))
  refine SX.loopi (fun k : Nat => k = 0) (fun _ => 0) (fun _ => []) (fun _ => []) (fun _ => []) (fun k => [(0, .slice none 0 0), (1, .int .i64 q0), (5, .int .i64 k)]) 0 rfl ?_ (fun _ hl => hl) ?_
  · (repeat (first | exact subF_nil _ | (refine subF_cons rfl ?_) | (refine subF_consv rfl (by rfl) ?_)))
  · rintro k rfl
    repeat (first | refine SX.seq ?_ | refine SXl.nil ?_ | refine SX.region ?_ | refine SQ.thenNormal ?_ | refine SX.condF rfl ?_ | (refine l_move ?_; (refine SXl.v (OpW.move rfl) rfl ?_ ?_ ?_); rfl; rfl) | (refine l_assign ?_; (refine SXl.v (OpW.assign rfl) rfl ?_ ?_ ?_); rfl; rfl) | (refine l_len ?_; (refine SXl.v (OpW.len rfl) rfl ?_ ?_ ?_); rfl; rfl) | (refine l_lss ?_; (refine SXl.v (OpW.lssF rfl rfl (by omega)) rfl ?_ ?_ ?_); rfl; rfl) | refine SX.ret ?_ | refine SX.exit ?_ | refine SQ.thenExit ?_ | refine SQ.blockExit ?_)
    refine SQ.body1 rfl rfl (fun w' hl => ⟨rfl, hl.mod⟩)
set_option maxRecDepth 100000 in
set_option maxHeartbeats 4000000 in
theorem heldKept_nil (q0 : Int) (hq : 1 ≤ q0) (hq1 : q0 ≤ 1000000000000) (w : World) : Calls Try.prog 26 #[.agg #[.slice none 0 0, .slice none 0 0], .int .i64 q0] w fun e w' => e = .returned (.int .i64 q0) ∧ Mod (fun _ => False) w w' := by
  have hA := fun (w' : World) => heldAskedS_any 0 0 none 0 0 w' q0 (by omega) (by omega) (by omega) (.inl rfl)
  have e0 : q0 + ((0 : Nat) : Int) * 6 = q0 := by omega
  rw [e0] at hA
  refine calls_sx Try.func26 rfl rfl (fun a h1 h2 h3 => ((Fr.nil h1 h2).arg (h3 1 _ rfl)).arg (h3 0 _ rfl)) ?_
  repeat (first | refine SX.seq ?_ | refine SXl.nil ?_ | refine SX.region ?_ | refine SQ.thenNormal ?_ | refine SX.skip ?_ | refine SX.condF rfl ?_ | (refine l_call ?_; (first | refine SXl.v (OpW.call rfl (fun w hl => heldMemoS_nil q0 hq _)) rfl ?_ ?_ ?_ | refine SXl.v (OpW.call rfl (fun w hl => hA _)) rfl ?_ ?_ ?_); rfl; rfl) | (refine l_load ?_; (refine SXl.v (OpW.load 0 rfl rfl rfl) rfl ?_ ?_ ?_); rfl; rfl) | (refine l_fieldAddr ?_; (refine SXl.v (OpW.fieldAddr rfl) rfl ?_ ?_ ?_); rfl; rfl) | (refine l_move ?_; (refine SXl.v (OpW.move rfl) rfl ?_ ?_ ?_); rfl; rfl) | (refine l_assign ?_; (refine SXl.v (OpW.assign rfl) rfl ?_ ?_ ?_); rfl; rfl) | (refine l_lss ?_; (refine SXl.v (OpW.lssF rfl rfl (by omega)) rfl ?_ ?_ ?_); rfl; rfl) | (refine l_box ?_; refine SXl.box ?_ ?_ rfl rfl (fun g => ?_); rfl; rfl) | refine SX.ret ?_)
  refine SQ.body1 rfl rfl (fun w' hl => ⟨rfl, hl.mod⟩)
theorem at_mid {α : Type} (A C : List α) (u u' : α) : (A ++ u :: C)[A.length]? = some u ∧ (A ++ u :: C).set A.length u' = A ++ u' :: C := by
  refine ⟨?_, ?_⟩
  · rw [List.getElem?_append_right (Nat.le_refl _), Nat.sub_self]; rfl
  · rw [List.set_append_right _ _ (Nat.le_refl _), Nat.sub_self]; rfl
section
variable {W : World} {R : Rg W} {L : List Blk} {O : List Own} {E : List Res}
set_option maxRecDepth 100000 in
set_option maxHeartbeats 4000000 in
theorem markTree_o (l : List PNode) (a : Option Addr) (c : Nat) (w : World) (q0 : Int) (hq0 : 1 ≤ q0) (hq1 : q0 ≤ 100000000000) (hlen : l.length ≤ 1048576) (hfit : ∀ x ∈ bare l, x.fits 1048576) (hcost : costTo l l.length ≤ 100000000) (hl : Loc W R L (treeO l a c ++ O) E w) :
    Calls Try.prog 22 #[.agg #[.slice a l.length c], .int .i64 q0] w fun e w' => e = .returned (.int .i64 (q0 + costTo l l.length)) ∧ Loc W R L (treeM l a c q0 l.length ++ O) E w' := by
  refine calls_sxW hl Try.func22 rfl rfl (fun a h1 h2 h3 => ((Fr.nil h1 h2).arg (h3 1 _ rfl)).arg (h3 0 _ rfl)) ?_
  repeat (first | refine SX.seq ?_ | refine SXl.nil ?_ | refine SX.region ?_ | refine SQ.thenNormal ?_ | (refine l_load ?_; (refine SXl.v (OpW.load 0 rfl rfl rfl) rfl ?_ ?_ ?_); rfl; rfl) | (refine l_fieldAddr ?_; (refine SXl.v (OpW.fieldAddr rfl) rfl ?_ ?_ ?_); rfl; rfl) | (refine l_move ?_; (refine SXl.v (OpW.move rfl) rfl ?_ ?_ ?_); rfl; rfl) | (refine l_assign ?_; (refine SXl.v (OpW.assign rfl) rfl ?_ ?_ ?_); rfl; rfl) | (refine l_box ?_; refine SXl.box ?_ ?_ rfl rfl (fun g => ?_); rfl; rfl))
  refine l_call ?_
  refine SXl.callW rfl rfl rfl (fun w' hl => markNodeS_o l a c w' q0 hq0 hq1 hlen hfit hcost hl) ?_
  repeat (first | refine SX.seq ?_ | refine SXl.nil ?_ | refine SX.region ?_ | refine SQ.thenNormal ?_ | (refine l_move ?_; (refine SXl.v (OpW.move rfl) rfl ?_ ?_ ?_); rfl; rfl) | (refine l_assign ?_; (refine SXl.v (OpW.assign rfl) rfl ?_ ?_ ?_); rfl; rfl) | refine SX.ret ?_)
  refine SQ.body1 rfl rfl (fun w' hl => ⟨rfl, hl.drop1⟩)
set_option maxRecDepth 100000 in
set_option maxHeartbeats 4000000 in
theorem heldTree_o (l : List PNode) (a : Option Addr) (c : Nat) (w : World) (q0 : Int) (hq0 : 1 ≤ q0) (hq1 : q0 ≤ 100000000000) (hlen : l.length ≤ 1048576) (hfit : ∀ x ∈ bare l, x.fits 1048576) (hcost : costTo l l.length ≤ 100000000) (hl : Loc W R L (treeM l a c q0 l.length ++ O) E w) :
    Calls Try.prog 25 #[.agg #[.slice a l.length c], .int .i64 q0] w fun e w' => e = .returned (.int .i64 (q0 + costTo l l.length)) ∧ Loc W R L (treeM l a c q0 l.length ++ O) E w' := by
  refine calls_sxW hl Try.func25 rfl rfl (fun a h1 h2 h3 => ((Fr.nil h1 h2).arg (h3 1 _ rfl)).arg (h3 0 _ rfl)) ?_
  repeat (first | refine SX.seq ?_ | refine SXl.nil ?_ | refine SX.region ?_ | refine SQ.thenNormal ?_ | (refine l_load ?_; (refine SXl.v (OpW.load 0 rfl rfl rfl) rfl ?_ ?_ ?_); rfl; rfl) | (refine l_fieldAddr ?_; (refine SXl.v (OpW.fieldAddr rfl) rfl ?_ ?_ ?_); rfl; rfl) | (refine l_move ?_; (refine SXl.v (OpW.move rfl) rfl ?_ ?_ ?_); rfl; rfl) | (refine l_assign ?_; (refine SXl.v (OpW.assign rfl) rfl ?_ ?_ ?_); rfl; rfl) | (refine l_box ?_; refine SXl.box ?_ ?_ rfl rfl (fun g => ?_); rfl; rfl))
  refine l_call ?_
  refine SXl.callW rfl rfl rfl (fun w' hl => heldNodeS_o l a c w' q0 hq0 hq1 hlen hfit hcost hl) ?_
  repeat (first | refine SX.seq ?_ | refine SXl.nil ?_ | refine SX.region ?_ | refine SQ.thenNormal ?_ | refine SX.skip ?_ | refine SX.condF rfl ?_ | (refine l_move ?_; (refine SXl.v (OpW.move rfl) rfl ?_ ?_ ?_); rfl; rfl) | (refine l_assign ?_; (refine SXl.v (OpW.assign rfl) rfl ?_ ?_ ?_); rfl; rfl) | (refine l_lss ?_; (refine SXl.v (OpW.lssF rfl rfl (by omega)) rfl ?_ ?_ ?_); rfl; rfl) | refine SX.ret ?_)
  refine SQ.body1 rfl rfl (fun w' hl => ⟨rfl, hl.drop1⟩)
set_option maxRecDepth 100000 in
set_option maxHeartbeats 4000000 in
theorem markEngine_o (l : List PNode) (a : Option Addr) (c : Nat) (fs : List Frame) (q : Option Addr × Nat) (root wide high : Int) (rtl : Bool) (w : World) (hlen : l.length ≤ 1048576) (hfit : ∀ x ∈ bare l, x.fits 1048576) (hcost : costTo l l.length ≤ 100000000) (hfs : fs.length ≤ 1048576) (hl : Loc W R L (treeO l a c ++ framesO fs q :: O) E w) :
    Calls Try.prog 9 #[.agg (bareV l a c fs q root wide high rtl).toArray, .int .i64 1] w fun e w' => e = .returned (.int .i64 (1 + costTo l l.length + fs.length * 5)) ∧ Loc W R L (treeM l a c 1 l.length ++ framesM fs q (1 + costTo l l.length) :: O) E w' := by
  unfold bareV
  refine calls_sxW hl Try.func9 rfl rfl (fun a h1 h2 h3 => ((Fr.nil h1 h2).arg (h3 1 _ rfl)).arg (h3 0 _ rfl)) ?_
  have hK := fun (w' : World) => (markKept_any 0 0 0 0 none none (fun _ => False) w' (1 + costTo l l.length) (by omega) (by omega) (by omega) (by omega) (.inl rfl) (.inl rfl)).mono (R' := fun e w2 => e = .returned (.int .i64 (1 + costTo l l.length)) ∧ Mod (fun _ => False) w' w2) (fun e w2 ⟨p, he, h1, h2, hm, _⟩ => ⟨by rw [he]; congr 2; omega, hm⟩)
  repeat (first | refine SX.seq ?_ | refine SXl.nil ?_ | refine SX.region ?_ | refine SQ.thenNormal ?_ | (refine l_load ?_; (refine SXl.v (OpW.loadRow 0 rfl rfl rfl rfl) rfl ?_ ?_ ?_); rfl; rfl) | (refine l_fieldAddr ?_; (refine SXl.v (OpW.fieldAddr rfl) rfl ?_ ?_ ?_); rfl; rfl) | (refine l_move ?_; (refine SXl.v (OpW.move rfl) rfl ?_ ?_ ?_); rfl; rfl) | (refine l_assign ?_; (refine SXl.v (OpW.assign rfl) rfl ?_ ?_ ?_); rfl; rfl) | (refine l_box ?_; refine SXl.box ?_ ?_ rfl rfl (fun g => ?_); rfl; rfl))
  refine l_call ?_
  refine SXl.callW rfl rfl rfl (fun w' hl => markTree_o l a c w' 1 (by omega) (by omega) hlen hfit hcost hl) ?_
  repeat (first | refine SX.seq ?_ | refine SXl.nil ?_ | refine SX.region ?_ | refine SQ.thenNormal ?_ | (refine l_call ?_; (refine SXl.v (OpW.call rfl (fun w hl => hK _)) rfl ?_ ?_ ?_); rfl; rfl) | (refine l_load ?_; (first | refine SXl.v (OpW.load 0 rfl rfl rfl) rfl ?_ ?_ ?_ | refine SXl.v (OpW.loadRow 0 rfl rfl rfl rfl) rfl ?_ ?_ ?_); rfl; rfl) | (refine l_fieldAddr ?_; (refine SXl.v (OpW.fieldAddr rfl) rfl ?_ ?_ ?_); rfl; rfl) | (refine l_move ?_; (refine SXl.v (OpW.move rfl) rfl ?_ ?_ ?_); rfl; rfl) | (refine l_assign ?_; (refine SXl.v (OpW.assign rfl) rfl ?_ ?_ ?_); rfl; rfl))
  refine l_call ?_
  refine SXl.callR2 (o := framesO fs q) (o' := framesM fs q (1 + costTo l l.length)) (treeM l a c 1 l.length).length rfl rfl rfl (at_mid _ _ _ (framesM fs q (1 + costTo l l.length))).1 (fun w' hl => markFrame_o (1 + costTo l l.length) (by omega) (by omega) hfs (hl.own (framesO fs q) (by simp)).1) rfl (at_mid _ _ _ _).2 ?_
  repeat (first | refine SX.seq ?_ | refine SXl.nil ?_ | refine SX.region ?_ | refine SQ.thenNormal ?_ | (refine l_move ?_; (refine SXl.v (OpW.move rfl) rfl ?_ ?_ ?_); rfl; rfl) | (refine l_assign ?_; (refine SXl.v (OpW.assign rfl) rfl ?_ ?_ ?_); rfl; rfl) | refine SX.ret ?_)
  refine SQ.body1 rfl rfl (fun w' hl => ⟨rfl, hl.drop1⟩)
set_option maxRecDepth 100000 in
set_option maxHeartbeats 4000000 in
theorem heldEngine_o (l : List PNode) (a : Option Addr) (c : Nat) (fs : List Frame) (q : Option Addr × Nat) (root wide high : Int) (rtl : Bool) (w : World) (hlen : l.length ≤ 1048576) (hfit : ∀ x ∈ bare l, x.fits 1048576) (hcost : costTo l l.length ≤ 100000000) (hfs : fs.length ≤ 1048576) (hl : Loc W R L (treeM l a c 1 l.length ++ framesM fs q (1 + costTo l l.length) :: O) E w) :
    Calls Try.prog 10 #[.agg (bareV l a c fs q root wide high rtl).toArray, .int .i64 1] w fun e w' => e = .returned (.int .i64 (1 + costTo l l.length + fs.length * 5)) ∧ Loc W R L (treeM l a c 1 l.length ++ framesM fs q (1 + costTo l l.length) :: O) E w' := by
  unfold bareV
  refine calls_sxW hl Try.func10 rfl rfl (fun a h1 h2 h3 => ((Fr.nil h1 h2).arg (h3 1 _ rfl)).arg (h3 0 _ rfl)) ?_
  repeat (first | refine SX.seq ?_ | refine SXl.nil ?_ | refine SX.region ?_ | refine SQ.thenNormal ?_ | (refine l_load ?_; (refine SXl.v (OpW.loadRow 0 rfl rfl rfl rfl) rfl ?_ ?_ ?_); rfl; rfl) | (refine l_fieldAddr ?_; (refine SXl.v (OpW.fieldAddr rfl) rfl ?_ ?_ ?_); rfl; rfl) | (refine l_move ?_; (refine SXl.v (OpW.move rfl) rfl ?_ ?_ ?_); rfl; rfl) | (refine l_assign ?_; (refine SXl.v (OpW.assign rfl) rfl ?_ ?_ ?_); rfl; rfl) | (refine l_box ?_; refine SXl.box ?_ ?_ rfl rfl (fun g => ?_); rfl; rfl))
  refine l_call ?_
  refine SXl.callW rfl rfl rfl (fun w' hl => heldTree_o l a c w' 1 (by omega) (by omega) hlen hfit hcost hl) ?_
  repeat (first | refine SX.seq ?_ | refine SXl.nil ?_ | refine SX.region ?_ | refine SQ.thenNormal ?_ | refine SX.skip ?_ | refine SX.condF rfl ?_ | (refine l_call ?_; (first | refine SXl.v (OpW.call rfl (fun w hl => heldKept_nil _ (by omega) (by omega) _)) rfl ?_ ?_ ?_ | refine SXl.v (OpW.call rfl (fun w hl => heldFrame_o (1 + costTo l l.length) (by omega) (by omega) hfs (hl.own (framesM fs q (1 + costTo l l.length)) (by simp)).1)) rfl ?_ ?_ ?_); rfl; rfl) | (refine l_load ?_; (first | refine SXl.v (OpW.load 0 rfl rfl rfl) rfl ?_ ?_ ?_ | refine SXl.v (OpW.loadRow 0 rfl rfl rfl rfl) rfl ?_ ?_ ?_); rfl; rfl) | (refine l_fieldAddr ?_; (refine SXl.v (OpW.fieldAddr rfl) rfl ?_ ?_ ?_); rfl; rfl) | (refine l_move ?_; (refine SXl.v (OpW.move rfl) rfl ?_ ?_ ?_); rfl; rfl) | (refine l_assign ?_; (refine SXl.v (OpW.assign rfl) rfl ?_ ?_ ?_); rfl; rfl) | (refine l_lss ?_; (refine SXl.v (OpW.lssF rfl rfl (by omega)) rfl ?_ ?_ ?_); rfl; rfl) | refine SX.ret ?_)
  refine SQ.body1 rfl rfl (fun w' hl => ⟨rfl, hl.drop1⟩)
end
end Go.Proofs.Ytkkjjhooamlljaa
namespace Go.Proofs.Ytkkjjhooamlljaa
open Go.RowKit
set_option linter.unusedVariables false
set_option linter.unusedSimpArgs false

theorem fold_over : ∀ (r : List Value) (k : Nat) (c : List Value), (r.zipIdx k).foldl (fun (cs : Array Value) (p : Value × Nat) => cs.setIfInBounds (0 + p.2) p.1) c.toArray = (over c k r).toArray
  | [], _, _ => rfl
  | v :: r, k, c => by
    rw [List.zipIdx_cons, List.foldl_cons]
    have := fold_over r (k + 1) (c.set k v)
    simp only [Nat.zero_add] at this ⊢
    rw [over, ← this]
    simp
theorem fill_one {r c : List Value} {v : Value} {sz : Nat} (hv : v.cells = r.toArray) (hr : r.length = sz) (hc : c.length = sz) : Instr.fill (fun i => some (i * sz, sz)) c.toArray [(0, v)] = some r.toArray := by
  have h0 : over c 0 r = r := by
    have := over_all r c [] (by omega)
    simpa using this
  unfold Instr.fill
  simp only [hv, Nat.zero_mul, List.size_toArray, hr, hc]
  rw [if_neg (by simp)]
  unfold Instr.fill
  have := fold_over r 0 c
  rw [h0] at this
  rw [← Array.foldl_toList, Array.toList_zipIdx]
  simp only [Nat.zero_add] at this
  simpa using this
section
variable {P : Program} {n : Nat} {W : World} {R : Rg W} {L : List Blk} {O : List Own} {E : List Res} {f : List (Nat × Value)} {Q : Exit → Act → World → Prop} {ops : Array Oper} {rest : List Oper} {dn : Nat} {T e : TypeId} {x : Operand} {ty : TypeId} {pos : String} {af : Array Edge} {gd : Option (Nat × Bool)}
theorem SXl.litRow1 {sz by_ : Nat} {z v : Value} {r : List Value} [t : TSl P T e sz] [te : TEl P e sz by_ z] (hw : wantO ops f ⟨some dn, .buildSlice T 1 #[(0, x)], ty, pos, af, gd⟩ = some true) (hd : Nat.blt dn n = true)
    (hx : evO f x = some v) (hv : v.cells = r.toArray) (hr : r.length = sz) (h0 : 0 < sz) (hs : sz ≤ 16777216)
    (h : ∀ g, SXl P n W R ops (⟨g, r, e⟩ :: L) O E ((dn, .slice (some ⟨g, 0, none⟩) 1 1) :: f) rest Q) : SXl P n W R ops L O E f (⟨some dn, .buildSlice T 1 #[(0, x)], ty, pos, af, gd⟩ :: rest) Q :=
  SXl.litRow (parts := [(0, x)]) (vals := [(0, v)]) (cells := r) (z := z) hw hd (by simp [evP, hx]) (by omega) (by omega) (by
    have := fill_one (c := ((Array.range (1 * sz)).map (fun i => z.cells[i % z.cells.size]!)).toList) hv hr (by simp)
    rw [Array.toArray_toList] at this
    exact this) h
theorem SXl.lit0R {sz by_ : Nat} {z : Value} [t : TSl P T e sz] [te : TEl P e sz by_ z] (hw : wantO ops f ⟨some dn, .buildSlice T 0 #[], ty, pos, af, gd⟩ = some true) (hd : Nat.blt dn n = true) (hR : ∀ k, ¬ R.q k)
    (h : ∀ g, SXl P n W R ops L (⟨.slice (some ⟨g, 0, none⟩) 0 0, e, sz, 0, []⟩ :: O) E ((dn, .slice (some ⟨g, 0, none⟩) 0 0) :: f) rest Q) : SXl P n W R ops L O E f (⟨some dn, .buildSlice T 0 #[], ty, pos, af, gd⟩ :: rest) Q :=
  SXl.stepn (V := fun g => .slice (some ⟨g, 0, none⟩) 0 0) (L' := fun _ => L) (O' := fun g => ⟨.slice (some ⟨g, 0, none⟩) 0 0, e, sz, 0, []⟩ :: O) hw rfl hd (fun a w hf hl => by
    obtain ⟨i0, q1, q2, q3, q4, q5, q6⟩ := te.h
    refine ⟨w.heap.size, w.alloc (.cells #[] e), ?_, ((hl.alloc [] e).toOwn (m := 0) (hR _) (by simp) (by unfold maxLen; omega))⟩
    simp only [execOp, Instr.buildSlice, Sem.run_bind, run_underlying t.h.1, Result.andThen_ok, sizeOf, typeInfo, run_program, q1, Sem.run_pure, q3]
    have e4 : Array.map (fun _ : Nat => (default : Value)) (Array.range 0) = #[] := by simp
    simp [newRow, q1, q2, q3, e4, Instr.fill]
    done) h
end
end Go.Proofs.Ytkkjjhooamlljaa
namespace Go.Proofs.Ytkkjjhooamlljaa
open Go.RowKit
set_option linter.unusedVariables false
set_option linter.unusedSimpArgs false

end Go.Proofs.Ytkkjjhooamlljaa
namespace Go.Proofs.Ytkkjjhooamlljaa
open Go.RowKit
set_option linter.unusedVariables false
set_option linter.unusedSimpArgs false

end Go.Proofs.Ytkkjjhooamlljaa
namespace Go.Proofs.Ytkkjjhooamlljaa
open Go.RowKit
set_option linter.unusedVariables false
set_option linter.unusedSimpArgs false

end Go.Proofs.Ytkkjjhooamlljaa
