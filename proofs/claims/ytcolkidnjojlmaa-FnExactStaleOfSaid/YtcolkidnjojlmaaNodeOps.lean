/-
  PROVED: the exact laws' copy, comparison and count of one node. Condition: a bound on the lengths.
-/
import Derived.Test.YtcolkidnjojlmaaNode
import Derived.Test.YtcolkidnjojlmaaNest
namespace Go.Proofs.Ytcolkidnjojlmaa
open Go.RowKit
attribute [local irreducible] Style.cells nodeRow

/-- A node's cells read as the node; o: its slices may be written. -/
def NodeIn (o : Bool) (R : Nat → Prop) (w : World) (cs : List Value) (x : Node) : Prop :=
  ∃ k c t c', cs = nodeRow x.up k x.kids.length c x.style x.measured t x.rules.length c' ∧ IntSlice R w k x.kids ∧ SliceAt (Flat Rule.cells) 3 R w t x.rules ∧ (o = true → Wr 3 1 R w k x.kids.length ∧ Wr 208 3 R w t x.rules.length)
theorem NodeIn.mod {o : Bool} {R S : Nat → Prop} {w w' : World} {cs : List Value} {x : Node} (h : NodeIn o R w cs x) (hm : Mod S w w') (hs : ∀ k, R k → ¬ S k) : NodeIn o R w' cs x := by
  obtain ⟨k, c, t, c', h1, h2, h3, h4⟩ := h
  exact ⟨k, c, t, c', h1, h2.flatMod hm hs, h3.flatMod hm hs, fun ho => ⟨(h4 ho).1.mod hm hs, (h4 ho).2.mod hm hs⟩⟩
theorem NodeIn.keep {o : Bool} {R : Nat → Prop} {w w' : World} {cs : List Value} {x : Node} (h : NodeIn o R w cs x) (hm : Mod (fun _ => False) w w') : NodeIn o R w' cs x := h.mod hm fun _ _ f => f
theorem NodeIn.wide {o : Bool} {R S : Nat → Prop} {w : World} {cs : List Value} {x : Node} (h : NodeIn o R w cs x) (hs : ∀ k, k < w.heap.size → R k → S k) : NodeIn o S w cs x := by
  obtain ⟨k, c, t, c', h1, h2, h3, h4⟩ := h
  exact ⟨k, c, t, c', h1, SliceAt.wide h2 hs, SliceAt.wide h3 hs, fun ho => ⟨(h4 ho).1.weaken hs, (h4 ho).2.weaken hs⟩⟩
theorem NodeIn.len {o : Bool} {R : Nat → Prop} {w : World} {cs : List Value} {x : Node} (h : NodeIn o R w cs x) : cs.length = 64 := by
  obtain ⟨k, c, t, c', rfl, _⟩ := h
  exact nodeRow_len _ _ _ _ _ _ _ _ _

set_option maxRecDepth 100000 in
set_option maxHeartbeats 4000000 in
theorem toNode_any (x : Node) (o : Bool) (cs : List Value) (R : Nat → Prop) (w : World) (hk : x.kids.length ≤ 1048576) (hr : x.rules.length ≤ 1048576) (h : NodeIn o R w cs x) :
    Calls Try.prog 137 #[.agg cs.toArray] w fun e w' => ∃ cs', e = .returned (.agg cs'.toArray) ∧ NodeIn true (fun b => w.heap.size ≤ b) w' cs' x ∧ Mod (fun _ => False) w w' := by
  obtain ⟨ka, kc, ra, rc, rfl, h1, h2, _⟩ := h
  have H1 := hid h1
  have H2 := hid h2
  clear h1 h2
  have hz := zero_as zero_node
  go_enter Try.func137, Try.ntmps137
  go_wp2_with fail
  refine (toIntS_any x.kids _ _ R _ hk (H1.out.flatKeep (by (repeat (first | with_reducible exact Mod.refl _ _ | with_reducible refine Mod.drewN ?_ _ | with_reducible refine Mod.drew ?_ | with_reducible refine Mod.alloc ?_ _ | ((with_reducible refine Mod.setNew ?_ ?_ _ _ _); (rotate_left; omega)) | with_reducible refine Mod.setAt ?_ _ _ _ ))))).mono ?_
  rintro e w1 ⟨g1, rfl, hg1, hb1, hm1⟩
  have hM1 : Mod (fun _ => False) w w1 := by (repeat (first | with_reducible exact Mod.refl _ _ | with_reducible refine Mod.drewN ?_ _ | with_reducible refine Mod.drew ?_ | with_reducible refine Mod.alloc ?_ _ | ((with_reducible refine Mod.setNew ?_ ?_ _ _ _); (rotate_left; omega)) | with_reducible refine Mod.setAt ?_ _ _ _ | with_reducible exact hm1 | with_reducible refine Mod.thenNone ?_ hm1 ))
  have hA1 : w1.heap[w.heap.size]? = some (.cells (nodeRow x.up ka x.kids.length kc x.style x.measured ra x.rules.length rc).toArray 185 (0, 0)) := hm1.blk (al3a _ _ _ _) (fun f => f)
  have hC1 : w1.heap[w.heap.size + 1]? = some (.cells (nodeRow 0 none 0 0 Style.zero false none 0 0).toArray 137 (0, 0)) := hm1.blk (al3b _ _ _ _) (fun f => f)
  have hD1 : w1.heap[w.heap.size + 1 + 1]? = some (.cells (nodeRow x.up none 0 0 Style.zero false none 0 0).toArray 137 (0, 0)) := hm1.blk (al3c _ _ _ _) (fun f => f)
  simp only [World.size_alloc] at hg1
  have hgA : w.heap.size + 1 + 1 < g1 := by omega
  obtain ⟨hr1, ho1, _⟩ := row_blk hA1 2 60 (by rw [nodeRow_len]; omega)
  rw [nodeRow_style] at ho1
  have d1 := blk_cell hD1 (nodeRow_1 _ _ _ _ _ _ _ _ _)
  have z1 := blk_free hD1 1
  have hr1_0 : w.heap.size < w1.heap.size := (Array.getElem?_eq_some_iff.1 hA1).1
  have hr1_1 : w.heap.size + 1 < w1.heap.size := (Array.getElem?_eq_some_iff.1 hC1).1
  have hr1_2 : w.heap.size + 1 + 1 < w1.heap.size := (Array.getElem?_eq_some_iff.1 hD1).1
  have hD1' := set_in (j := 1) (v := .slice (some ⟨g1, 0, none⟩) x.kids.length x.kids.length) hD1
  rw [nodeRow_set1] at hD1'
  have hA1' := set_far (c := w.heap.size + 1 + 1) (j := 1) (v := .slice (some ⟨g1, 0, none⟩) x.kids.length x.kids.length) hA1 (by omega)
  have hC1' := set_far (c := w.heap.size + 1 + 1) (j := 1) (v := .slice (some ⟨g1, 0, none⟩) x.kids.length x.kids.length) hC1 (by omega)
  have hb1' := set_far (c := w.heap.size + 1 + 1) (j := 1) (v := .slice (some ⟨g1, 0, none⟩) x.kids.length x.kids.length) hb1 (by omega)
  have hM1' : Mod (fun _ => False) w (w1.setCell ⟨w.heap.size + 1 + 1, 1, none⟩ (.slice (some ⟨g1, 0, none⟩) x.kids.length x.kids.length)) := hM1.setNew (by omega) _ _ _
  have HA := hid hA1'
  have HC := hid hC1'
  have HD := hid hD1'
  have HB := hid hb1'
  have HM := hid hM1'
  clear hm1 hg1 hA1 hC1 hD1 hb1 hM1 hA1' hC1' hD1' hb1' hM1'
  go_wp2_with fail
  rw [rowOf_setCell _ _ _ _ _ _ _ (by omega), ho1]
  refine (toStyle_row x.style _).mono ?_
  rintro e w2 ⟨rfl, hm2⟩
  have hA2 := hm2.blk HA.out (fun f => f)
  have hC2 := hm2.blk HC.out (fun f => f)
  have hD2 := hm2.blk HD.out (fun f => f)
  have hb2 := hm2.blk HB.out (fun f => f)
  have hM2 := HM.out.thenNone hm2
  clear HA HC HD HB HM hm2 hr1 ho1 d1 z1 hr1_0 hr1_1 hr1_2
  obtain ⟨hr3, _, hw3⟩ := row_blk hD2 2 60 (by rw [nodeRow_len]; omega)
  have hr2_0 : w.heap.size < w2.heap.size := (Array.getElem?_eq_some_iff.1 hA2).1
  have hr2_1 : w.heap.size + 1 < w2.heap.size := (Array.getElem?_eq_some_iff.1 hC2).1
  have hr2_2 : w.heap.size + 1 + 1 < w2.heap.size := (Array.getElem?_eq_some_iff.1 hD2).1
  have c62 := blk_cell hA2 (nodeRow_62 _ _ _ _ _ _ _ _ _)
  have c63 := blk_cell hA2 (nodeRow_63 _ _ _ _ _ _ _ _ _)
  have d62 := blk_cell hD2 (nodeRow_62 _ _ _ _ _ _ _ _ _)
  have z62 := blk_free hD2 62
  have e62 := (cell_setCells (w := w2) (w.heap.size + 1 + 1) 2 w.heap.size 62 x.style.cells (by omega)).trans c62
  have e63 := (cell_setCells (w := w2) (w.heap.size + 1 + 1) 2 w.heap.size 63 x.style.cells (by omega)).trans c63
  have f62 := (cell_style_apart w2 (w.heap.size + 1 + 1) 2 62 x.style (by omega)).trans d62
  clear c62 c63 d62
  have hD2' := set_in (j := 62) (v := .bool x.measured) (nodeRow_put (s' := x.style) hD2)
  rw [nodeRow_set62] at hD2'
  have hC2' : ((w2.setCells (w.heap.size + 1 + 1) 2 x.style.cells).setCell ⟨w.heap.size + 1 + 1, 62, none⟩ (.bool x.measured)).heap[w.heap.size + 1]? = _ := (set_far (c := w.heap.size + 1 + 1) ((setCells_far _ (by omega) _ _ _).trans hC2) (by omega))
  have hb2' : ((w2.setCells (w.heap.size + 1 + 1) 2 x.style.cells).setCell ⟨w.heap.size + 1 + 1, 62, none⟩ (.bool x.measured)).heap[g1]? = _ := (set_far (c := w.heap.size + 1 + 1) ((setCells_far _ (by omega) _ _ _).trans hb2) (by omega))
  have hM2' : Mod (fun _ => False) w ((w2.setCells (w.heap.size + 1 + 1) 2 x.style.cells).setCell ⟨w.heap.size + 1 + 1, 62, none⟩ (.bool x.measured)) := (hM2.setCellsNew (by omega) _ _).setNew (by omega) _ _ _
  have HC := hid hC2'
  have HD := hid hD2'
  have HB := hid hb2'
  have HM := hid hM2'
  clear hA2 hC2 hD2 hb2 hM2 hC2' hD2' hb2' hM2'
  go_wp2_with fail
  refine (toTable_any x.rules ra rc R _ hr (H2.out.flatKeep HM.out)).mono ?_
  rintro e w3 ⟨g2, rfl, hg2, hb3, hm3⟩
  have hC3 := hm3.blk HC.out (fun f => f)
  have hD3 := hm3.blk HD.out (fun f => f)
  have hB3 := hm3.blk HB.out (fun f => f)
  have hM3 := HM.out.thenNone hm3
  simp only [World.size_setCell, setCells_size] at hg2
  clear HC HD HB HM hm3 hr3 hw3 hr2_0 hr2_1 e62 e63 f62 z62
  obtain ⟨hq0, hq1, _⟩ := row_blk hD3 0 64 (by rw [nodeRow_len]; omega)
  rw [List.drop_zero, List.take_of_length_le (by rw [nodeRow_len]; omega)] at hq1
  obtain ⟨hq2, _, hq3⟩ := row_blk hC3 0 64 (by rw [nodeRow_len]; omega)
  have d63 := blk_cell hD3 (nodeRow_63 _ _ _ _ _ _ _ _ _)
  have z63 := blk_free hD3 63
  have HB := hid hB3
  have HB' := hid hb3
  have HM := hid hM3
  clear hC3 hD3 hB3 hb3 hM3
  dsimp only
  repeat (first | go_values | go_skip | go_guarded | go_step | go_upon | go_back)
  have hfin : ∀ b, b ≠ w.heap.size + 1 → b ≠ w.heap.size + 1 + 1 → (((w3.setCell ⟨w.heap.size + 1 + 1, 63, none⟩ (.slice (some ⟨g2, 0, none⟩) x.rules.length x.rules.length)).setCells (w.heap.size + 1) 0 (nodeRow x.up (some ⟨g1, 0, none⟩) x.kids.length x.kids.length x.style x.measured (some ⟨g2, 0, none⟩) x.rules.length x.rules.length))).heap[b]? = w3.heap[b]? := fun b h1 h2 =>
    (setCells_far _ h1 _ _ _).trans (Below.heap_setCell _ _ _ _ h2)
  have hB := (hfin g1 (by omega) (by omega)).trans HB.out
  have hB' := (hfin g2 (by omega) (by omega)).trans HB'.out
  refine bodyPost_ret (v := .agg (nodeRow x.up (some ⟨g1, 0, none⟩) x.kids.length x.kids.length x.style x.measured (some ⟨g2, 0, none⟩) x.rules.length x.rules.length).toArray) ?_ ?_ ?_
  · refine results_row (b := w.heap.size + 1) Try.results137 ?_ Try.underlying137 rfl (by kernel_rfl) ?_
    · rfl
    · refine range_setCells ?_
      simp only [hasRow_setCell, nodeRow_len, hq2]
  · rfl
  · refine ⟨_, rfl, ⟨_, _, _, _, rfl, ?_, ?_, fun _ => ⟨?_, ?_⟩⟩, ?_⟩
    · exact SliceAt.wide (flat_of_blk (sz := 1) hB (fun _ => rfl)) (fun k _ (hk : k = g1) => by show w.heap.size ≤ k; omega)
    · exact SliceAt.wide (flat_of_blk (sz := 3) hB' (fun _ => rfl)) (fun k _ (hk : k = g2) => by show w.heap.size ≤ k; omega)
    · exact wr_of_blk hB (icells_length _) (by show w.heap.size ≤ g1; omega)
    · exact wr_of_blk hB' (flat_length (cells := Rule.cells) (sz := 3) (fun _ => rfl) _) (by show w.heap.size ≤ g2; omega)
    · refine Mod.setCellsNew ?_ (by omega) _ _
      refine Mod.setNew ?_ (by omega) _ _ _
      exact HM.out

set_option maxRecDepth 100000 in
set_option maxHeartbeats 4000000 in
theorem eqNode_same (x : Node) (o o' : Bool) (cs cs' : List Value) (R S : Nat → Prop) (w : World) (hk : x.kids.length ≤ 1048576) (hr : x.rules.length ≤ 1048576) (h : NodeIn o R w cs x) (h' : NodeIn o' S w cs' x) :
    Calls Try.prog 145 #[.agg cs.toArray, .agg cs'.toArray] w fun e w' => e = .returned (.bool true) ∧ Mod (fun _ => False) w w' := by
  obtain ⟨ka, kc, ra, rc, rfl, h1, h2, _⟩ := h
  obtain ⟨ka', kc', ra', rc', rfl, h1', h2', _⟩ := h'
  have H1 := hid h1
  have H2 := hid h2
  have H1' := hid h1'
  have H2' := hid h2'
  clear h1 h2 h1' h2'
  go_enter Try.func145, Try.ntmps145
  go_wp2_with fail
  refine (eqIntS_any x.kids x.kids _ _ _ _ R S _ (by omega) (by omega) (H1.out.flatKeep (by (repeat (first | with_reducible exact Mod.refl _ _ | with_reducible refine Mod.drewN ?_ _ | with_reducible refine Mod.drew ?_ | with_reducible refine Mod.alloc ?_ _ | ((with_reducible refine Mod.setNew ?_ ?_ _ _ _); (rotate_left; omega)) | with_reducible refine Mod.setAt ?_ _ _ _ )))) (H1'.out.flatKeep (by (repeat (first | with_reducible exact Mod.refl _ _ | with_reducible refine Mod.drewN ?_ _ | with_reducible refine Mod.drew ?_ | with_reducible refine Mod.alloc ?_ _ | ((with_reducible refine Mod.setNew ?_ ?_ _ _ _); (rotate_left; omega)) | with_reducible refine Mod.setAt ?_ _ _ _ ))))).mono ?_
  rintro e w1 ⟨rfl, hm1⟩
  rw [decide_eq_true rfl]
  have hM1 : Mod (fun _ => False) w w1 := by (repeat (first | with_reducible exact Mod.refl _ _ | with_reducible refine Mod.drewN ?_ _ | with_reducible refine Mod.drew ?_ | with_reducible refine Mod.alloc ?_ _ | ((with_reducible refine Mod.setNew ?_ ?_ _ _ _); (rotate_left; omega)) | with_reducible refine Mod.setAt ?_ _ _ _ | with_reducible exact hm1 | with_reducible refine Mod.thenNone ?_ hm1 ))
  have hA1 : w1.heap[w.heap.size]? = some (.cells (nodeRow x.up ka x.kids.length kc x.style x.measured ra x.rules.length rc).toArray 137 (0, 0)) := hm1.blk (al2a _ _ _) (fun f => f)
  have hB1 : w1.heap[w.heap.size + 1]? = some (.cells (nodeRow x.up ka' x.kids.length kc' x.style x.measured ra' x.rules.length rc').toArray 137 (0, 0)) := hm1.blk (al2b _ _ _) (fun f => f)
  obtain ⟨hr1, ho1, _⟩ := row_blk hA1 2 60 (by rw [nodeRow_len]; omega)
  rw [nodeRow_style] at ho1
  obtain ⟨hr2, ho2, _⟩ := row_blk hB1 2 60 (by rw [nodeRow_len]; omega)
  rw [nodeRow_style] at ho2
  have HA := hid hA1
  have HB := hid hB1
  have HM := hid hM1
  clear hm1 hA1 hB1 hM1
  go_wp2_with fail
  refine (eqStyle_row x.style _).mono ?_
  rintro e w2 ⟨rfl, hm2⟩
  have hA2 := hm2.blk HA.out (fun f => f)
  have hB2 := hm2.blk HB.out (fun f => f)
  have hM2 := HM.out.thenNone hm2
  clear HA HB HM hm2 hr1 ho1 hr2 ho2
  have c62 := blk_cell hA2 (nodeRow_62 _ _ _ _ _ _ _ _ _)
  have c63 := blk_cell hA2 (nodeRow_63 _ _ _ _ _ _ _ _ _)
  have d62 := blk_cell hB2 (nodeRow_62 _ _ _ _ _ _ _ _ _)
  have d63 := blk_cell hB2 (nodeRow_63 _ _ _ _ _ _ _ _ _)
  have HM := hid hM2
  clear hA2 hB2 hM2
  go_wp2_with fail
  refine (eqTable_any x.rules x.rules _ _ _ _ R S _ (by omega) (by omega) (H2.out.flatKeep HM.out) (H2'.out.flatKeep HM.out)).mono ?_
  rintro e w3 ⟨rfl, hm3⟩
  rw [decide_eq_true rfl]
  go_wp2
  go_ret
  exact ⟨rfl, HM.out.thenNone hm3⟩

/-- What a node counts besides itself. -/
def Node.cost (x : Node) : Nat := x.kids.length + x.rules.length
set_option maxRecDepth 100000 in
set_option maxHeartbeats 4000000 in
theorem szNode_any (x : Node) (o : Bool) (cs : List Value) (R : Nat → Prop) (left : Int) (w : World) (h0 : 0 ≤ left) (h1 : left ≤ 1048576) (hk : x.kids.length ≤ 9223372036854775807) (hr : x.rules.length ≤ 9223372036854775807) (h : NodeIn o R w cs x) :
    Calls Try.prog 128 #[.agg cs.toArray, .int .i64 left] w fun e w' => e = .returned (.int .i64 (szRes left x.cost)) ∧ Mod (fun _ => False) w w' := by
  obtain ⟨ka, kc, ra, rc, rfl, _, _, _⟩ := h
  go_enter Try.func128, Try.ntmps128
  go_wp2_with fail
  refine (szIntS_any _ _ _ _ h0 h1 hk _).mono ?_
  rintro e w1 ⟨rfl, hw1⟩
  have hA : w1.heap[w.heap.size]? = some (.cells (nodeRow x.up ka x.kids.length kc x.style x.measured ra x.rules.length rc).toArray 185 (0, 0)) := by
    rw [← hw1]
    exact heap_alloc_new _ _
  have hM : Mod (fun _ => False) w w1 := by
    rw [← hw1]
    (repeat (first | with_reducible exact Mod.refl _ _ | with_reducible refine Mod.drewN ?_ _ | with_reducible refine Mod.drew ?_ | with_reducible refine Mod.alloc ?_ _ | ((with_reducible refine Mod.setNew ?_ ?_ _ _ _); (rotate_left; omega)) | with_reducible refine Mod.setAt ?_ _ _ _ ))
  have c63 := blk_cell hA (nodeRow_63 _ _ _ _ _ _ _ _ _)
  clear hA hw1
  by_cases hs : left < x.kids.length
  · rw [if_pos hs]
    have hc := hid (szRes_less (left := left) (n := x.cost) (by unfold Node.cost; omega))
    go_wp2
    go_ret
    exact ⟨ret_int hc.out.symm, hM⟩
  · rw [if_neg hs]
    have h2 : 0 ≤ left - x.kids.length := by omega
    go_wp2_with fail
    refine (szTable_any _ _ _ _ h2 (by omega) hr _).mono ?_
    rintro e w2 ⟨rfl, hm2⟩
    by_cases hs2 : left - x.kids.length < x.rules.length
    · rw [if_pos hs2]
      have hc := hid (szRes_less (left := left) (n := x.cost) (by unfold Node.cost; omega))
      go_wp2
      go_ret
      exact ⟨ret_int hc.out.symm, hM.thenNone hm2⟩
    · rw [if_neg hs2]
      have h3 : 0 ≤ left - x.kids.length - x.rules.length := by omega
      have hc := hid (show left - x.kids.length - x.rules.length = szRes left x.cost by rw [szRes_more (by unfold Node.cost; omega)]; unfold Node.cost; omega)
      go_wp2
      go_ret
      exact ⟨ret_int hc.out, hM.thenNone hm2⟩

end Go.Proofs.Ytcolkidnjojlmaa
