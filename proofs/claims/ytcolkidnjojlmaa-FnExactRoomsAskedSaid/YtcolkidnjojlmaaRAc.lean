/-
  PROVED: contracts of functions and words on memory, several texts put together: what each says stands at its theorems. Conditions: as told there.
-/
import Derived.Test.YtcolkidnjojlmaaRAb
import Derived.Test.YtcolkidnjojlmaaChecked
import Derived.Deep.RegionHeld3
import Derived.Deep.QuietTactic
import Derived.BigQuiet
import Derived.Outline
import Derived.StillTailTactics
import Derived.WalkLawsBesides
namespace Go.Proofs.Ytcolkidnjojlmaa
open Go.RowKit
attribute [local irreducible] Style.cells nodeRow

/-- A node's cells read as the node; o: its slices may be written. -/
def NodeIn (o : Bool) (R : Nat → Prop) (w : World) (cs : List Value) (x : Node) : Prop :=
  ∃ k c t c', cs = nodeRow x.up k x.kids.length c x.style x.measured t x.rules.length c' ∧ IntSlice R w k x.kids ∧ SliceAt (Flat Rule.cells) 3 R w t x.rules ∧ (o = true → Wr 3 1 R w k x.kids.length ∧ Wr 208 3 R w t x.rules.length)
theorem NodeIn.mod {o : Bool} {R S : Nat → Prop} {w w' : World} {cs : List Value} {x : Node} (h : NodeIn o R w cs x) (hm : Mod S w w') (hs : ∀ k, R k → ¬ S k) : NodeIn o R w' cs x := by
  obtain ⟨k, c, t, c', h1, h2, h3, h4⟩ := h
  exact ⟨k, c, t, c', h1, h2.flatMod hm hs, h3.flatMod hm hs, fun ho => ⟨(h4 ho).1.mod hm hs, (h4 ho).2.mod hm hs⟩⟩
theorem NodeIn.keep {o : Bool} {R : Nat → Prop} {w w' : World} {cs : List Value} {x : Node} (h : NodeIn o R w cs x) (hm : Mod (fun _ => False) w w') : NodeIn o R w' cs x := h.mod hm fun _ _ f => f
theorem NodeIn.wide {o : Bool} {R S : Nat → Prop} {w : World} {cs : List Value} {x : Node} (h : NodeIn o R w cs x) (hs : ∀ k, k < w.heap.size → R k → S k) : NodeIn o S w cs x := by
  obtain ⟨k, c, t, c', h1, h2, h3, h4⟩ := h
  exact ⟨k, c, t, c', h1, SliceAt.wide h2 hs, SliceAt.wide h3 hs, fun ho => ⟨(h4 ho).1.weaken hs, (h4 ho).2.weaken hs⟩⟩
theorem NodeIn.len {o : Bool} {R : Nat → Prop} {w : World} {cs : List Value} {x : Node} (h : NodeIn o R w cs x) : cs.length = 64 := by
  obtain ⟨k, c, t, c', rfl, _⟩ := h
  exact nodeRow_len _ _ _ _ _ _ _ _ _

set_option maxRecDepth 100000 in
set_option maxHeartbeats 4000000 in
theorem toNode_any (x : Node) (o : Bool) (cs : List Value) (R : Nat → Prop) (w : World) (hk : x.kids.length ≤ 1048576) (hr : x.rules.length ≤ 1048576) (h : NodeIn o R w cs x) :
    Calls Try.prog 137 #[.agg cs.toArray] w fun e w' => ∃ cs', e = .returned (.agg cs'.toArray) ∧ NodeIn true (fun b => w.heap.size ≤ b) w' cs' x ∧ Mod (fun _ => False) w w' := by
  obtain ⟨ka, kc, ra, rc, rfl, h1, h2, _⟩ := h
  have H1 := hid h1
  have H2 := hid h2
  clear h1 h2
  have hz := zero_as zero_node
  go_enter Try.func137, Try.ntmps137
  go_wp2_with fail
  refine (toIntS_any x.kids _ _ R _ hk (H1.out.flatKeep (by (repeat (first | with_reducible exact Mod.refl _ _ | with_reducible refine Mod.drewN ?_ _ | with_reducible refine Mod.drew ?_ | with_reducible refine Mod.alloc ?_ _ | ((with_reducible refine Mod.setNew ?_ ?_ _ _ _); (rotate_left; omega)) | with_reducible refine Mod.setAt ?_ _ _ _ ))))).mono ?_
  rintro e w1 ⟨g1, rfl, hg1, hb1, hm1⟩
  have hM1 : Mod (fun _ => False) w w1 := by (repeat (first | with_reducible exact Mod.refl _ _ | with_reducible refine Mod.drewN ?_ _ | with_reducible refine Mod.drew ?_ | with_reducible refine Mod.alloc ?_ _ | ((with_reducible refine Mod.setNew ?_ ?_ _ _ _); (rotate_left; omega)) | with_reducible refine Mod.setAt ?_ _ _ _ | with_reducible exact hm1 | with_reducible refine Mod.thenNone ?_ hm1 ))
  have hA1 : w1.heap[w.heap.size]? = some (.cells (nodeRow x.up ka x.kids.length kc x.style x.measured ra x.rules.length rc).toArray 185 (0, 0)) := hm1.blk (al3a _ _ _ _) (fun f => f)
  have hC1 : w1.heap[w.heap.size + 1]? = some (.cells (nodeRow 0 none 0 0 Style.zero false none 0 0).toArray 137 (0, 0)) := hm1.blk (al3b _ _ _ _) (fun f => f)
  have hD1 : w1.heap[w.heap.size + 1 + 1]? = some (.cells (nodeRow x.up none 0 0 Style.zero false none 0 0).toArray 137 (0, 0)) := hm1.blk (al3c _ _ _ _) (fun f => f)
  simp only [World.size_alloc] at hg1
  have hgA : w.heap.size + 1 + 1 < g1 := by omega
  obtain ⟨hr1, ho1, _⟩ := row_blk hA1 2 60 (by rw [nodeRow_len]; omega)
  rw [nodeRow_style] at ho1
  have d1 := blk_cell hD1 (nodeRow_1 _ _ _ _ _ _ _ _ _)
  have z1 := blk_free hD1 1
  have hr1_0 : w.heap.size < w1.heap.size := (Array.getElem?_eq_some_iff.1 hA1).1
  have hr1_1 : w.heap.size + 1 < w1.heap.size := (Array.getElem?_eq_some_iff.1 hC1).1
  have hr1_2 : w.heap.size + 1 + 1 < w1.heap.size := (Array.getElem?_eq_some_iff.1 hD1).1
  have hD1' := set_in (j := 1) (v := .slice (some ⟨g1, 0, none⟩) x.kids.length x.kids.length) hD1
  rw [nodeRow_set1] at hD1'
  have hA1' := set_far (c := w.heap.size + 1 + 1) (j := 1) (v := .slice (some ⟨g1, 0, none⟩) x.kids.length x.kids.length) hA1 (by omega)
  have hC1' := set_far (c := w.heap.size + 1 + 1) (j := 1) (v := .slice (some ⟨g1, 0, none⟩) x.kids.length x.kids.length) hC1 (by omega)
  have hb1' := set_far (c := w.heap.size + 1 + 1) (j := 1) (v := .slice (some ⟨g1, 0, none⟩) x.kids.length x.kids.length) hb1 (by omega)
  have hM1' : Mod (fun _ => False) w (w1.setCell ⟨w.heap.size + 1 + 1, 1, none⟩ (.slice (some ⟨g1, 0, none⟩) x.kids.length x.kids.length)) := hM1.setNew (by omega) _ _ _
  have HA := hid hA1'
  have HC := hid hC1'
  have HD := hid hD1'
  have HB := hid hb1'
  have HM := hid hM1'
  clear hm1 hg1 hA1 hC1 hD1 hb1 hM1 hA1' hC1' hD1' hb1' hM1'
  go_wp2_with fail
  rw [rowOf_setCell _ _ _ _ _ _ _ (by omega), ho1]
  refine (toStyle_row x.style _).mono ?_
  rintro e w2 ⟨rfl, hm2⟩
  have hA2 := hm2.blk HA.out (fun f => f)
  have hC2 := hm2.blk HC.out (fun f => f)
  have hD2 := hm2.blk HD.out (fun f => f)
  have hb2 := hm2.blk HB.out (fun f => f)
  have hM2 := HM.out.thenNone hm2
  clear HA HC HD HB HM hm2 hr1 ho1 d1 z1 hr1_0 hr1_1 hr1_2
  obtain ⟨hr3, _, hw3⟩ := row_blk hD2 2 60 (by rw [nodeRow_len]; omega)
  have hr2_0 : w.heap.size < w2.heap.size := (Array.getElem?_eq_some_iff.1 hA2).1
  have hr2_1 : w.heap.size + 1 < w2.heap.size := (Array.getElem?_eq_some_iff.1 hC2).1
  have hr2_2 : w.heap.size + 1 + 1 < w2.heap.size := (Array.getElem?_eq_some_iff.1 hD2).1
  have c62 := blk_cell hA2 (nodeRow_62 _ _ _ _ _ _ _ _ _)
  have c63 := blk_cell hA2 (nodeRow_63 _ _ _ _ _ _ _ _ _)
  have d62 := blk_cell hD2 (nodeRow_62 _ _ _ _ _ _ _ _ _)
  have z62 := blk_free hD2 62
  have e62 := (cell_setCells (w := w2) (w.heap.size + 1 + 1) 2 w.heap.size 62 x.style.cells (by omega)).trans c62
  have e63 := (cell_setCells (w := w2) (w.heap.size + 1 + 1) 2 w.heap.size 63 x.style.cells (by omega)).trans c63
  have f62 := (cell_style_apart w2 (w.heap.size + 1 + 1) 2 62 x.style (by omega)).trans d62
  clear c62 c63 d62
  have hD2' := set_in (j := 62) (v := .bool x.measured) (nodeRow_put (s' := x.style) hD2)
  rw [nodeRow_set62] at hD2'
  have hC2' : ((w2.setCells (w.heap.size + 1 + 1) 2 x.style.cells).setCell ⟨w.heap.size + 1 + 1, 62, none⟩ (.bool x.measured)).heap[w.heap.size + 1]? = _ := (set_far (c := w.heap.size + 1 + 1) ((setCells_far _ (by omega) _ _ _).trans hC2) (by omega))
  have hb2' : ((w2.setCells (w.heap.size + 1 + 1) 2 x.style.cells).setCell ⟨w.heap.size + 1 + 1, 62, none⟩ (.bool x.measured)).heap[g1]? = _ := (set_far (c := w.heap.size + 1 + 1) ((setCells_far _ (by omega) _ _ _).trans hb2) (by omega))
  have hM2' : Mod (fun _ => False) w ((w2.setCells (w.heap.size + 1 + 1) 2 x.style.cells).setCell ⟨w.heap.size + 1 + 1, 62, none⟩ (.bool x.measured)) := (hM2.setCellsNew (by omega) _ _).setNew (by omega) _ _ _
  have HC := hid hC2'
  have HD := hid hD2'
  have HB := hid hb2'
  have HM := hid hM2'
  clear hA2 hC2 hD2 hb2 hM2 hC2' hD2' hb2' hM2'
  go_wp2_with fail
  refine (toTable_any x.rules ra rc R _ hr (H2.out.flatKeep HM.out)).mono ?_
  rintro e w3 ⟨g2, rfl, hg2, hb3, hm3⟩
  have hC3 := hm3.blk HC.out (fun f => f)
  have hD3 := hm3.blk HD.out (fun f => f)
  have hB3 := hm3.blk HB.out (fun f => f)
  have hM3 := HM.out.thenNone hm3
  simp only [World.size_setCell, setCells_size] at hg2
  clear HC HD HB HM hm3 hr3 hw3 hr2_0 hr2_1 e62 e63 f62 z62
  obtain ⟨hq0, hq1, _⟩ := row_blk hD3 0 64 (by rw [nodeRow_len]; omega)
  rw [List.drop_zero, List.take_of_length_le (by rw [nodeRow_len]; omega)] at hq1
  obtain ⟨hq2, _, hq3⟩ := row_blk hC3 0 64 (by rw [nodeRow_len]; omega)
  have d63 := blk_cell hD3 (nodeRow_63 _ _ _ _ _ _ _ _ _)
  have z63 := blk_free hD3 63
  have HB := hid hB3
  have HB' := hid hb3
  have HM := hid hM3
  clear hC3 hD3 hB3 hb3 hM3
  dsimp only
  repeat (first | go_values | go_skip | go_guarded | go_step | go_upon | go_back)
  have hfin : ∀ b, b ≠ w.heap.size + 1 → b ≠ w.heap.size + 1 + 1 → (((w3.setCell ⟨w.heap.size + 1 + 1, 63, none⟩ (.slice (some ⟨g2, 0, none⟩) x.rules.length x.rules.length)).setCells (w.heap.size + 1) 0 (nodeRow x.up (some ⟨g1, 0, none⟩) x.kids.length x.kids.length x.style x.measured (some ⟨g2, 0, none⟩) x.rules.length x.rules.length))).heap[b]? = w3.heap[b]? := fun b h1 h2 =>
    (setCells_far _ h1 _ _ _).trans (Below.heap_setCell _ _ _ _ h2)
  have hB := (hfin g1 (by omega) (by omega)).trans HB.out
  have hB' := (hfin g2 (by omega) (by omega)).trans HB'.out
  refine bodyPost_ret (v := .agg (nodeRow x.up (some ⟨g1, 0, none⟩) x.kids.length x.kids.length x.style x.measured (some ⟨g2, 0, none⟩) x.rules.length x.rules.length).toArray) ?_ ?_ ?_
  · refine results_row (b := w.heap.size + 1) Try.results137 ?_ Try.underlying137 rfl (by kernel_rfl) ?_
    · rfl
    · refine range_setCells ?_
      simp only [hasRow_setCell, nodeRow_len, hq2]
  · rfl
  · refine ⟨_, rfl, ⟨_, _, _, _, rfl, ?_, ?_, fun _ => ⟨?_, ?_⟩⟩, ?_⟩
    · exact SliceAt.wide (flat_of_blk (sz := 1) hB (fun _ => rfl)) (fun k _ (hk : k = g1) => by show w.heap.size ≤ k; omega)
    · exact SliceAt.wide (flat_of_blk (sz := 3) hB' (fun _ => rfl)) (fun k _ (hk : k = g2) => by show w.heap.size ≤ k; omega)
    · exact wr_of_blk hB (icells_length _) (by show w.heap.size ≤ g1; omega)
    · exact wr_of_blk hB' (flat_length (cells := Rule.cells) (sz := 3) (fun _ => rfl) _) (by show w.heap.size ≤ g2; omega)
    · refine Mod.setCellsNew ?_ (by omega) _ _
      refine Mod.setNew ?_ (by omega) _ _ _
      exact HM.out

set_option maxRecDepth 100000 in
set_option maxHeartbeats 4000000 in
theorem eqNode_same (x : Node) (o o' : Bool) (cs cs' : List Value) (R S : Nat → Prop) (w : World) (hk : x.kids.length ≤ 1048576) (hr : x.rules.length ≤ 1048576) (h : NodeIn o R w cs x) (h' : NodeIn o' S w cs' x) :
    Calls Try.prog 145 #[.agg cs.toArray, .agg cs'.toArray] w fun e w' => e = .returned (.bool true) ∧ Mod (fun _ => False) w w' := by
  obtain ⟨ka, kc, ra, rc, rfl, h1, h2, _⟩ := h
  obtain ⟨ka', kc', ra', rc', rfl, h1', h2', _⟩ := h'
  have H1 := hid h1
  have H2 := hid h2
  have H1' := hid h1'
  have H2' := hid h2'
  clear h1 h2 h1' h2'
  go_enter Try.func145, Try.ntmps145
  go_wp2_with fail
  refine (eqIntS_any x.kids x.kids _ _ _ _ R S _ (by omega) (by omega) (H1.out.flatKeep (by (repeat (first | with_reducible exact Mod.refl _ _ | with_reducible refine Mod.drewN ?_ _ | with_reducible refine Mod.drew ?_ | with_reducible refine Mod.alloc ?_ _ | ((with_reducible refine Mod.setNew ?_ ?_ _ _ _); (rotate_left; omega)) | with_reducible refine Mod.setAt ?_ _ _ _ )))) (H1'.out.flatKeep (by (repeat (first | with_reducible exact Mod.refl _ _ | with_reducible refine Mod.drewN ?_ _ | with_reducible refine Mod.drew ?_ | with_reducible refine Mod.alloc ?_ _ | ((with_reducible refine Mod.setNew ?_ ?_ _ _ _); (rotate_left; omega)) | with_reducible refine Mod.setAt ?_ _ _ _ ))))).mono ?_
  rintro e w1 ⟨rfl, hm1⟩
  rw [decide_eq_true rfl]
  have hM1 : Mod (fun _ => False) w w1 := by (repeat (first | with_reducible exact Mod.refl _ _ | with_reducible refine Mod.drewN ?_ _ | with_reducible refine Mod.drew ?_ | with_reducible refine Mod.alloc ?_ _ | ((with_reducible refine Mod.setNew ?_ ?_ _ _ _); (rotate_left; omega)) | with_reducible refine Mod.setAt ?_ _ _ _ | with_reducible exact hm1 | with_reducible refine Mod.thenNone ?_ hm1 ))
  have hA1 : w1.heap[w.heap.size]? = some (.cells (nodeRow x.up ka x.kids.length kc x.style x.measured ra x.rules.length rc).toArray 137 (0, 0)) := hm1.blk (al2a _ _ _) (fun f => f)
  have hB1 : w1.heap[w.heap.size + 1]? = some (.cells (nodeRow x.up ka' x.kids.length kc' x.style x.measured ra' x.rules.length rc').toArray 137 (0, 0)) := hm1.blk (al2b _ _ _) (fun f => f)
  obtain ⟨hr1, ho1, _⟩ := row_blk hA1 2 60 (by rw [nodeRow_len]; omega)
  rw [nodeRow_style] at ho1
  obtain ⟨hr2, ho2, _⟩ := row_blk hB1 2 60 (by rw [nodeRow_len]; omega)
  rw [nodeRow_style] at ho2
  have HA := hid hA1
  have HB := hid hB1
  have HM := hid hM1
  clear hm1 hA1 hB1 hM1
  go_wp2_with fail
  refine (eqStyle_row x.style _).mono ?_
  rintro e w2 ⟨rfl, hm2⟩
  have hA2 := hm2.blk HA.out (fun f => f)
  have hB2 := hm2.blk HB.out (fun f => f)
  have hM2 := HM.out.thenNone hm2
  clear HA HB HM hm2 hr1 ho1 hr2 ho2
  have c62 := blk_cell hA2 (nodeRow_62 _ _ _ _ _ _ _ _ _)
  have c63 := blk_cell hA2 (nodeRow_63 _ _ _ _ _ _ _ _ _)
  have d62 := blk_cell hB2 (nodeRow_62 _ _ _ _ _ _ _ _ _)
  have d63 := blk_cell hB2 (nodeRow_63 _ _ _ _ _ _ _ _ _)
  have HM := hid hM2
  clear hA2 hB2 hM2
  go_wp2_with fail
  refine (eqTable_any x.rules x.rules _ _ _ _ R S _ (by omega) (by omega) (H2.out.flatKeep HM.out) (H2'.out.flatKeep HM.out)).mono ?_
  rintro e w3 ⟨rfl, hm3⟩
  rw [decide_eq_true rfl]
  go_wp2
  go_ret
  exact ⟨rfl, HM.out.thenNone hm3⟩

/-- What a node counts besides itself. -/
def Node.cost (x : Node) : Nat := x.kids.length + x.rules.length
set_option maxRecDepth 100000 in
set_option maxHeartbeats 4000000 in
theorem szNode_any (x : Node) (o : Bool) (cs : List Value) (R : Nat → Prop) (left : Int) (w : World) (h0 : 0 ≤ left) (h1 : left ≤ 1048576) (hk : x.kids.length ≤ 9223372036854775807) (hr : x.rules.length ≤ 9223372036854775807) (h : NodeIn o R w cs x) :
    Calls Try.prog 128 #[.agg cs.toArray, .int .i64 left] w fun e w' => e = .returned (.int .i64 (szRes left x.cost)) ∧ Mod (fun _ => False) w w' := by
  obtain ⟨ka, kc, ra, rc, rfl, _, _, _⟩ := h
  go_enter Try.func128, Try.ntmps128
  go_wp2_with fail
  refine (szIntS_any _ _ _ _ h0 h1 hk _).mono ?_
  rintro e w1 ⟨rfl, hw1⟩
  have hA : w1.heap[w.heap.size]? = some (.cells (nodeRow x.up ka x.kids.length kc x.style x.measured ra x.rules.length rc).toArray 185 (0, 0)) := by
    rw [← hw1]
    exact heap_alloc_new _ _
  have hM : Mod (fun _ => False) w w1 := by
    rw [← hw1]
    (repeat (first | with_reducible exact Mod.refl _ _ | with_reducible refine Mod.drewN ?_ _ | with_reducible refine Mod.drew ?_ | with_reducible refine Mod.alloc ?_ _ | ((with_reducible refine Mod.setNew ?_ ?_ _ _ _); (rotate_left; omega)) | with_reducible refine Mod.setAt ?_ _ _ _ ))
  have c63 := blk_cell hA (nodeRow_63 _ _ _ _ _ _ _ _ _)
  clear hA hw1
  by_cases hs : left < x.kids.length
  · rw [if_pos hs]
    have hc := hid (szRes_less (left := left) (n := x.cost) (by unfold Node.cost; omega))
    go_wp2
    go_ret
    exact ⟨ret_int hc.out.symm, hM⟩
  · rw [if_neg hs]
    have h2 : 0 ≤ left - x.kids.length := by omega
    go_wp2_with fail
    refine (szTable_any _ _ _ _ h2 (by omega) hr _).mono ?_
    rintro e w2 ⟨rfl, hm2⟩
    by_cases hs2 : left - x.kids.length < x.rules.length
    · rw [if_pos hs2]
      have hc := hid (szRes_less (left := left) (n := x.cost) (by unfold Node.cost; omega))
      go_wp2
      go_ret
      exact ⟨ret_int hc.out.symm, hM.thenNone hm2⟩
    · rw [if_neg hs2]
      have h3 : 0 ≤ left - x.kids.length - x.rules.length := by omega
      have hc := hid (show left - x.kids.length - x.rules.length = szRes left x.cost by rw [szRes_more (by unfold Node.cost; omega)]; unfold Node.cost; omega)
      go_wp2
      go_ret
      exact ⟨ret_int hc.out, hM.thenNone hm2⟩

end Go.Proofs.Ytcolkidnjojlmaa
namespace Go.Proofs.Ytcolkidnjojlmaa
open Go.RowKit
attribute [local irreducible] Style.cells nodeRow

abbrev NodeSlice (o : Bool) (R : Nat → Prop) (w : World) (a : Option Addr) (l : List Node) : Prop := SliceAt (NodeIn o R) 64 R w a l
theorem NodeSlice.mod {o : Bool} {R S : Nat → Prop} {w w' : World} {a : Option Addr} {l : List Node} (h : NodeSlice o R w a l) (hm : Mod S w w') (hs : ∀ k, R k → ¬ S k) : NodeSlice o R w' a l := SliceAt.mod h hm hs fun _ _ hx => hx.mod hm hs
theorem NodeSlice.keep {o : Bool} {R : Nat → Prop} {w w' : World} {a : Option Addr} {l : List Node} (h : NodeSlice o R w a l) (hm : Mod (fun _ => False) w w') : NodeSlice o R w' a l := h.mod hm fun _ _ f => f
/-- Lengths that a walk can bear. -/
def Node.fits (n : Nat) (x : Node) : Prop := x.kids.length ≤ n ∧ x.rules.length ≤ n

theorem info_Node : (Try.prog.info? 137).map (fun i => (i.zero, i.size, i.bytes)) = some (some (.agg (nodeRow 0 none 0 0 Style.zero false none 0 0).toArray), 64, 536) := by kernel_rfl
/-- A row of a slice, as the walk loads it. -/
theorem row_of_get {w : World} {b p : Nat} {r : List Value} {n : Nat} (hn : r.length = n) (h0 : 0 < n) (h : ∀ j v, r[j]? = some v → w.cell? ⟨b, p + j, none⟩ = some v) : hasRow w b p n = true ∧ rowOf w b p n = r.toArray := by
  subst hn
  exact rowOf_told h0 h

set_option maxRecDepth 100000 in
set_option maxHeartbeats 4000000 in
theorem toNodeS_any (l : List Node) (o : Bool) (a : Option Addr) (c : Nat) (R : Nat → Prop) (w : World) (hl : l.length ≤ 1048576) (hf : ∀ x ∈ l, x.fits 1048576) (h : NodeSlice o R w a l) :
    Calls Try.prog 94 #[.slice a l.length c] w (NewNest (NodeIn true) 137 64 w l) := by
  have H := hid h
  have HF := hid hf
  clear h hf
  obtain ⟨i0, hi, hz0, hz1, hz2⟩ := info_parts info_Node
  have hmk : ∀ W : World, (Instr.makeSlice 59 (.int .i64 (l.length : Int)) (.int .i64 (l.length : Int))).run Try.prog W = .ok (.slice (some ⟨W.heap.size, 0, none⟩) l.length l.length) (W.alloc (.cells (madeCells (Value.cells (.agg (nodeRow 0 none 0 0 Style.zero false none 0 0).toArray)) (l.length * 64)) 137)) := by
    intro W
    have := run_make (P := Try.prog) W 59 137 i0 _ Try.underlying59 hi hz0 .i64 .i64 l.length l.length (by omega) (by omega) (by rw [hz2]; omega) (by omega)
    simpa [hz1] using this
  clear hz0 hz1 hz2 hi
  go_enter Try.func94, Try.ntmps94
  go_wp2
  go_loopw [4] (fun i wr => ∃ (k : Nat) (rows : List (List Value)), k ≤ l.length ∧ i = .int .i64 k ∧ Hid (rows.length = k ∧ (∀ r ∈ rows, r.length = 64) ∧ (∀ (i : Nat) (r : List Value) (x : Node), rows[i]? = some r → l[i]? = some x → NodeIn true (fun b => w.heap.size < b) wr r x)) ∧ Filled w.heap.size 137 (l.length * 64) wr rows.flatten ∧ Mod (fun _ => False) w wr) (fun i _ => l.length - (intOf i).toNat)
  case atStart => exact ⟨0, [], by omega, rfl, hid ⟨rfl, (fun _ h => by simp at h), (fun _ _ _ h => by simp at h)⟩, Filled.made w _ _ _ (size_madeCells _ _), (Mod.refl _ w).alloc _⟩
  case round =>
    obtain ⟨k, rows, hk, rfl, HR, hF, hM⟩ := hrel
    clear hmk
    by_cases hlt : k < l.length
    · obtain ⟨b, o', x, r, rfl, hb, hbw, hx, hin, hrl', hc⟩ := (H.out.keep hM).get hlt
      obtain ⟨hxk, hxr⟩ := HF.out x (List.mem_of_getElem? hx.out)
      obtain ⟨q0, q1⟩ := row_of_get hrl' (by omega) hc
      have Hin := hid hin
      have hF0 := hF.size
      have HFl := hid hF
      have HM := hid hM
      clear hc hrl' hin hF hM
      go_wp2_with fail
      refine (toNode_any x o r R _ hxk hxr (Hin.out.keep (by (repeat (first | with_reducible exact Mod.refl _ _ | with_reducible refine Mod.drewN ?_ _ | with_reducible refine Mod.drew ?_ | with_reducible refine Mod.alloc ?_ _ | ((with_reducible refine Mod.setNew ?_ ?_ _ _ _); (rotate_left; omega)) | with_reducible refine Mod.setAt ?_ _ _ _ ))))).mono ?_
      rintro e w1 ⟨cs1, rfl, ⟨k1, c1, t1, c1', rfl, n1, n2, n3⟩, hm1⟩
      have HN := hid (show NodeIn true (fun b => wr.heap.size ≤ b) w1 (nodeRow x.up k1 x.kids.length c1 x.style x.measured t1 x.rules.length c1') x from ⟨k1, c1, t1, c1', rfl, n1, n2, n3⟩)
      have hF1 := HFl.out.mod hm1 (fun f => f)
      have q2 := hF1.row (k * 64) 64 (by omega)
      have q3 := hF1.open
      have HF1 := hid hF1
      have Hm1 := hid hm1
      clear n1 n2 n3 hF1 hm1 q0 q1
      go_wp2
      go_roundw
      case rel =>
        obtain ⟨hrl, hrs, hrep⟩ := HR.out
        have hmr : Mod (fun k => k = w.heap.size) wr (w1.setCells w.heap.size (k * 64) (nodeRow x.up k1 x.kids.length c1 x.style x.measured t1 x.rules.length c1')) := Mod.setCells (R := fun k => k = w.heap.size) (Hm1.out.mono (fun _ _ f => f.elim)) (fun _ => .inl rfl) _ _
        have hms : Mod (fun k => k = w.heap.size) w1 (w1.setCells w.heap.size (k * 64) (nodeRow x.up k1 x.kids.length c1 x.style x.measured t1 x.rules.length c1')) := Mod.setCells (R := fun k => k = w.heap.size) (Mod.refl _ _) (fun _ => .inl rfl) _ _
        refine ⟨k + 1, rows ++ [nodeRow x.up k1 x.kids.length c1 x.style x.measured t1 x.rules.length c1'], by omega, by go_num, hid ⟨by simp [hrl], lens_succ hrs (nodeRow_len _ _ _ _ _ _ _ _ _), ?_⟩, ?_, ?_⟩
        · refine rows_succ hx hrl (rows_map hrep fun r x hq => hq.mod hmr (fun k hk e => by omega)) ?_
          exact (HN.out.mod hms (fun k hk (e : k = w.heap.size) => by omega)).wide (fun k _ hk => by show w.heap.size < k; omega)
        · have hl0 := flatten_length hrs
          rw [hrl] at hl0
          rw [List.flatten_append, List.flatten_singleton]
          exact HF1.out.pushRow _ hl0.symm (by rw [nodeRow_len]; omega)
        · exact (HM.out.thenNone Hm1.out).setCellsNew (Nat.le_refl _) _ _
      case measure => simp [intOf]; omega
    · have hk' : k = l.length := by omega
      subst hk'
      obtain ⟨hrl, hrs, hrep⟩ := HR.out
      go_wp2
      go_ret
      refine ⟨w.heap.size, rows, rfl, Nat.le_refl _, ?_, hrl, hrs, rows_map hrep fun r x hq => hq.wide fun _ _ hk => Nat.le_of_lt hk, hM⟩
      exact hF.full (by rw [flatten_length hrs, hrl])

set_option maxRecDepth 100000 in
set_option maxHeartbeats 4000000 in
theorem eqNodeS_same (l : List Node) (o o' : Bool) (a a' : Option Addr) (c c' : Nat) (R S : Nat → Prop) (w : World) (hl : l.length ≤ 1048576) (hf : ∀ x ∈ l, x.fits 1048576) (h : NodeSlice o R w a l) (h' : NodeSlice o' S w a' l) :
    Calls Try.prog 103 #[.slice a l.length c, .slice a' l.length c'] w fun e w' => e = .returned (.bool true) ∧ Mod (fun _ => False) w w' := by
  have H := hid h
  have H' := hid h'
  have HF := hid hf
  clear h h' hf
  have hn0 : ((l.length : Int) != (l.length : Int)) = false := by simp
  go_enter Try.func103, Try.ntmps103
  go_wp2
  go_loopw [5] (fun i wr => ∃ k : Nat, k ≤ l.length ∧ i = .int .i64 k ∧ Mod (fun _ => False) w wr) (fun i _ => l.length - (intOf i).toNat)
  case atStart => exact ⟨0, by omega, rfl, Mod.refl _ _⟩
  case round =>
    obtain ⟨k, hk, rfl, hM⟩ := hrel
    by_cases hlt : k < l.length
    · obtain ⟨b, o1, x, r, rfl, hb, hbw, hx, hin, hrl, hc⟩ := (H.out.keep hM).get hlt
      obtain ⟨b', o2, y, r', rfl, hb', hbw', hy, hin', hrl', hd⟩ := (H'.out.keep hM).get hlt
      obtain rfl : x = y := Option.some.inj (hx.out.symm.trans hy.out)
      obtain ⟨hxk, hxr⟩ := HF.out x (List.mem_of_getElem? hx.out)
      obtain ⟨q0, q1⟩ := row_of_get hrl (by omega) hc
      obtain ⟨q2, q3⟩ := row_of_get hrl' (by omega) hd
      have Hin := hid hin
      have Hin' := hid hin'
      have HM := hid hM
      clear hc hd hrl hrl' hin hin' hM
      go_wp2
      go_still_tail 8, (by kernel_rfl)
      go_wp2_with fail
      try rw [q1]
      try rw [q3]
      refine (eqNode_same x o o' r r' R S _ hxk hxr (Hin.out.keep (by (repeat (first | with_reducible exact Mod.refl _ _ | with_reducible refine Mod.drewN ?_ _ | with_reducible refine Mod.drew ?_ | with_reducible refine Mod.alloc ?_ _ | ((with_reducible refine Mod.setNew ?_ ?_ _ _ _); (rotate_left; omega)) | with_reducible refine Mod.setAt ?_ _ _ _ )))) (Hin'.out.keep (by (repeat (first | with_reducible exact Mod.refl _ _ | with_reducible refine Mod.drewN ?_ _ | with_reducible refine Mod.drew ?_ | with_reducible refine Mod.alloc ?_ _ | ((with_reducible refine Mod.setNew ?_ ?_ _ _ _); (rotate_left; omega)) | with_reducible refine Mod.setAt ?_ _ _ _ ))))).mono ?_
      rintro e w1 ⟨rfl, hm1⟩
      go_wp2
      go_roundw
      case rel => exact ⟨k + 1, by omega, by go_num, HM.out.drew.thenNone hm1⟩
      case measure => simp [intOf]; omega
    · go_wp2
      go_ret
      exact ⟨rfl, hM⟩

set_option maxRecDepth 100000 in
set_option maxHeartbeats 4000000 in
theorem szNodeS_any (l : List Node) (o : Bool) (a : Option Addr) (c : Nat) (R : Nat → Prop) (left : Int) (w : World) (h0 : 0 ≤ left) (h1 : left ≤ 1048576) (hl : l.length ≤ 9223372036854775807) (hf : ∀ x ∈ l, x.fits 9223372036854775807) (h : NodeSlice o R w a l) :
    Calls Try.prog 87 #[.slice a l.length c, .int .i64 left] w fun e w' => e = .returned (.int .i64 (szRes left (l.length + costs Node.cost l))) ∧ Mod (fun _ => False) w w' := by
  have H := hid h
  have HF := hid hf
  clear h hf
  by_cases hs : left < l.length
  · rw [szRes_less (by omega)]
    have h2 : left - l.length < 0 := by omega
    have h3 : -9223372036854775807 ≤ left - l.length := by omega
    go_enter Try.func87, Try.ntmps87
    go_wp2
    go_ret
    exact ⟨rfl, Mod.refl _ _⟩
  · have h2 : 0 ≤ left - l.length := by omega
    go_enter Try.func87, Try.ntmps87
    go_wp2
    go_loopw [1, 5] (fun z i wr => ∃ (k : Nat) (q : Int), k ≤ l.length ∧ z = .int .i64 q ∧ Hid (q = left - l.length - costs Node.cost (l.take k)) ∧ 0 ≤ q ∧ q ≤ 1048576 ∧ i = .int .i64 k ∧ Mod (fun _ => False) w wr) (fun _ i _ => l.length - (intOf i).toNat)
    case atStart => exact ⟨0, _, by omega, rfl, hid (by simp [costs]), h2, by omega, rfl, Mod.refl _ _⟩
    case round =>
      obtain ⟨k, q, hk, rfl, hq, q1, q2, rfl, hM⟩ := hrel
      by_cases hlt : k < l.length
      · obtain ⟨b, o', x, r, rfl, hb, hbw, hx, hin, hrl', hc⟩ := (H.out.keep hM).get hlt
        obtain ⟨hxk, hxr⟩ := HF.out x (List.mem_of_getElem? hx.out)
        obtain ⟨p0, p1⟩ := row_of_get hrl' (by omega) hc
        have Hin := hid hin
        have HM := hid hM
        clear hc hrl' hin hM
        have hs1 := hid (costs_succ Node.cost hx)
        have hs2 := hid (costs_take Node.cost l (k + 1))
        go_wp2_with fail
        refine (szNode_any x o r R q _ q1 q2 hxk hxr (Hin.out.keep (by (repeat (first | with_reducible exact Mod.refl _ _ | with_reducible refine Mod.drewN ?_ _ | with_reducible refine Mod.drew ?_ | with_reducible refine Mod.alloc ?_ _ | ((with_reducible refine Mod.setNew ?_ ?_ _ _ _); (rotate_left; omega)) | with_reducible refine Mod.setAt ?_ _ _ _ ))))).mono ?_
        rintro e w1 ⟨rfl, hm1⟩
        have HM1 := hid (HM.out.thenNone hm1)
        clear hm1
        by_cases hsx : q < x.cost
        · rw [szRes_less hsx]
          have hlast := hid (szRes_less (left := left) (n := l.length + costs Node.cost l) (by have := hs1.out; have := hs2.out; have := hq.out; omega))
          go_wp2
          go_ret
          exact ⟨ret_int hlast.out.symm, HM1.out⟩
        · rw [szRes_more (by omega)]
          have q3 : 0 ≤ q - x.cost := by omega
          have hq2 := hid (show q - x.cost = left - l.length - costs Node.cost (l.take (k + 1)) by have := hs1.out; have := hq.out; omega)
          go_wp2
          go_roundw
          case rel => exact ⟨k + 1, _, by omega, rfl, hq2, q3, by omega, by go_num, HM1.out⟩
          case measure => simp [intOf]; omega
      · have hk' : k = l.length := by omega
        subst hk'
        have hlast := hid (show q = szRes left (l.length + costs Node.cost l) by have h5 := hq.out; rw [List.take_length] at h5; rw [szRes_more (by omega)]; omega)
        go_wp2
        go_ret
        exact ⟨ret_int hlast.out, hM⟩

end Go.Proofs.Ytcolkidnjojlmaa
namespace Go.Proofs.Ytcolkidnjojlmaa
open Go.RowKit

theorem cut_at (cs : List Value) (o n m : Nat) (h : o + n = m) : cs.drop o = (cs.drop o).take n ++ cs.drop m := by
  subst h
  rw [← List.drop_drop, List.take_append_drop]

set_option maxRecDepth 100000 in
set_option maxHeartbeats 4000000 in
theorem rdA_Val {w : World} {cs : List Value} (h : Rd Try.prog w 175 cs) : ∃ x : Val, cs = x.cells := by
  obtain ⟨hl, hf⟩ := h.struct Try.underlying175
  have hl2 : cs.length = 2 := hl.trans (by kernel_rfl)
  have cz0 : Try.prog.cellsOf 3 = 1 := by kernel_rfl
  match cs, hl2 with
  | [q0, q1], _ =>
    obtain ⟨v0, e0, _⟩ := (hf 0 _ rfl).int Try.underlying3
    simp [cz0] at e0
    obtain ⟨v1, e1, _⟩ := (hf 1 _ rfl).int Try.underlying3
    simp [cz0] at e1
    exact ⟨⟨v0, v1⟩, by simp [Val.cells, e0, e1]⟩

set_option maxRecDepth 100000 in
set_option maxHeartbeats 4000000 in
theorem rdA_Sides {w : World} {cs : List Value} (h : Rd Try.prog w 177 cs) : ∃ x : Sides, cs = x.cells := by
  obtain ⟨hl, hf⟩ := h.struct Try.underlying177
  have hl2 : cs.length = 12 := hl.trans (by kernel_rfl)
  have cz0 : Try.prog.cellsOf 175 = 2 := by kernel_rfl
  match cs, hl2 with
  | [q0, q1, q2, q3, q4, q5, q6, q7, q8, q9, q10, q11], _ =>
    obtain ⟨v0, e0⟩ := rdA_Val (hf 0 _ rfl)
    simp [cz0, Val.cells] at e0
    obtain ⟨v1, e1⟩ := rdA_Val (hf 1 _ rfl)
    simp [cz0, Val.cells] at e1
    obtain ⟨v2, e2⟩ := rdA_Val (hf 2 _ rfl)
    simp [cz0, Val.cells] at e2
    obtain ⟨v3, e3⟩ := rdA_Val (hf 3 _ rfl)
    simp [cz0, Val.cells] at e3
    obtain ⟨v4, e4⟩ := rdA_Val (hf 4 _ rfl)
    simp [cz0, Val.cells] at e4
    obtain ⟨v5, e5⟩ := rdA_Val (hf 5 _ rfl)
    simp [cz0, Val.cells] at e5
    exact ⟨⟨v0, v1, v2, v3, v4, v5⟩, by simp [Sides.cells, e0, e1, e2, e3, e4, e5]⟩

set_option maxRecDepth 100000 in
set_option maxHeartbeats 4000000 in
theorem rdA_Edges {w : World} {cs : List Value} (h : Rd Try.prog w 178 cs) : ∃ x : Edges, cs = x.cells := by
  obtain ⟨hl, hf⟩ := h.struct Try.underlying178
  have hl2 : cs.length = 4 := hl.trans (by kernel_rfl)
  have cz0 : Try.prog.cellsOf 3 = 1 := by kernel_rfl
  match cs, hl2 with
  | [q0, q1, q2, q3], _ =>
    obtain ⟨v0, e0, _⟩ := (hf 0 _ rfl).int Try.underlying3
    simp [cz0] at e0
    obtain ⟨v1, e1, _⟩ := (hf 1 _ rfl).int Try.underlying3
    simp [cz0] at e1
    obtain ⟨v2, e2, _⟩ := (hf 2 _ rfl).int Try.underlying3
    simp [cz0] at e2
    obtain ⟨v3, e3, _⟩ := (hf 3 _ rfl).int Try.underlying3
    simp [cz0] at e3
    exact ⟨⟨v0, v1, v2, v3⟩, by simp [Edges.cells, e0, e1, e2, e3]⟩

set_option maxRecDepth 100000 in
set_option maxHeartbeats 4000000 in
theorem rdA_Style {w : World} {cs : List Value} (h : Rd Try.prog w 180 cs) : ∃ x : Style, cs = x.cells := by
  obtain ⟨hl, hf⟩ := h.struct Try.underlying180
  have hl2 : cs.length = 60 := hl.trans (by kernel_rfl)
  have cz0 : Try.prog.cellsOf 178 = 4 := by kernel_rfl
  have cz1 : Try.prog.cellsOf 177 = 12 := by kernel_rfl
  have cz2 : Try.prog.cellsOf 175 = 2 := by kernel_rfl
  have cz3 : Try.prog.cellsOf 4 = 1 := by kernel_rfl
  have cz4 : Try.prog.cellsOf 3 = 1 := by kernel_rfl
  obtain ⟨v0, e0, _⟩ := (hf 0 _ rfl).int Try.underlying3
  replace e0 : (cs.drop 0).take (Try.prog.cellsOf 3) = [.int .i64 v0] := e0
  rw [cz4] at e0
  obtain ⟨v1, e1, _⟩ := (hf 1 _ rfl).int Try.underlying3
  replace e1 : (cs.drop 1).take (Try.prog.cellsOf 3) = [.int .i64 v1] := e1
  rw [cz4] at e1
  obtain ⟨v2, e2, _⟩ := (hf 2 _ rfl).int Try.underlying3
  replace e2 : (cs.drop 2).take (Try.prog.cellsOf 3) = [.int .i64 v2] := e2
  rw [cz4] at e2
  obtain ⟨v3, e3, _⟩ := (hf 3 _ rfl).int Try.underlying3
  replace e3 : (cs.drop 3).take (Try.prog.cellsOf 3) = [.int .i64 v3] := e3
  rw [cz4] at e3
  obtain ⟨v4, e4, _⟩ := (hf 4 _ rfl).int Try.underlying3
  replace e4 : (cs.drop 4).take (Try.prog.cellsOf 3) = [.int .i64 v4] := e4
  rw [cz4] at e4
  obtain ⟨v5, e5, _⟩ := (hf 5 _ rfl).int Try.underlying3
  replace e5 : (cs.drop 5).take (Try.prog.cellsOf 3) = [.int .i64 v5] := e5
  rw [cz4] at e5
  obtain ⟨v6, e6⟩ := (hf 6 _ rfl).bool Try.underlying4
  replace e6 : (cs.drop 6).take (Try.prog.cellsOf 4) = [.bool v6] := e6
  rw [cz3] at e6
  obtain ⟨v7, e7⟩ := (hf 7 _ rfl).bool Try.underlying4
  replace e7 : (cs.drop 7).take (Try.prog.cellsOf 4) = [.bool v7] := e7
  rw [cz3] at e7
  obtain ⟨v8, e8, _⟩ := (hf 8 _ rfl).int Try.underlying3
  replace e8 : (cs.drop 8).take (Try.prog.cellsOf 3) = [.int .i64 v8] := e8
  rw [cz4] at e8
  obtain ⟨v9, e9, _⟩ := (hf 9 _ rfl).int Try.underlying3
  replace e9 : (cs.drop 9).take (Try.prog.cellsOf 3) = [.int .i64 v9] := e9
  rw [cz4] at e9
  obtain ⟨v10, e10, _⟩ := (hf 10 _ rfl).int Try.underlying3
  replace e10 : (cs.drop 10).take (Try.prog.cellsOf 3) = [.int .i64 v10] := e10
  rw [cz4] at e10
  obtain ⟨v11, e11⟩ := rdA_Val (hf 11 _ rfl)
  replace e11 : (cs.drop 11).take (Try.prog.cellsOf 175) = v11.cells := e11
  rw [cz2] at e11
  obtain ⟨v12, e12⟩ := rdA_Val (hf 12 _ rfl)
  replace e12 : (cs.drop 13).take (Try.prog.cellsOf 175) = v12.cells := e12
  rw [cz2] at e12
  obtain ⟨v13, e13⟩ := rdA_Val (hf 13 _ rfl)
  replace e13 : (cs.drop 15).take (Try.prog.cellsOf 175) = v13.cells := e13
  rw [cz2] at e13
  obtain ⟨v14, e14⟩ := rdA_Val (hf 14 _ rfl)
  replace e14 : (cs.drop 17).take (Try.prog.cellsOf 175) = v14.cells := e14
  rw [cz2] at e14
  obtain ⟨v15, e15⟩ := rdA_Val (hf 15 _ rfl)
  replace e15 : (cs.drop 19).take (Try.prog.cellsOf 175) = v15.cells := e15
  rw [cz2] at e15
  obtain ⟨v16, e16⟩ := rdA_Val (hf 16 _ rfl)
  replace e16 : (cs.drop 21).take (Try.prog.cellsOf 175) = v16.cells := e16
  rw [cz2] at e16
  obtain ⟨v17, e17⟩ := rdA_Val (hf 17 _ rfl)
  replace e17 : (cs.drop 23).take (Try.prog.cellsOf 175) = v17.cells := e17
  rw [cz2] at e17
  obtain ⟨v18, e18, _⟩ := (hf 18 _ rfl).int Try.underlying3
  replace e18 : (cs.drop 25).take (Try.prog.cellsOf 3) = [.int .i64 v18] := e18
  rw [cz4] at e18
  obtain ⟨v19, e19⟩ := rdA_Sides (hf 19 _ rfl)
  replace e19 : (cs.drop 26).take (Try.prog.cellsOf 177) = v19.cells := e19
  rw [cz1] at e19
  obtain ⟨v20, e20⟩ := rdA_Sides (hf 20 _ rfl)
  replace e20 : (cs.drop 38).take (Try.prog.cellsOf 177) = v20.cells := e20
  rw [cz1] at e20
  obtain ⟨v21, e21⟩ := rdA_Edges (hf 21 _ rfl)
  replace e21 : (cs.drop 50).take (Try.prog.cellsOf 178) = v21.cells := e21
  rw [cz0] at e21
  obtain ⟨v22, e22⟩ := rdA_Edges (hf 22 _ rfl)
  replace e22 : (cs.drop 54).take (Try.prog.cellsOf 178) = v22.cells := e22
  rw [cz0] at e22
  obtain ⟨v23, e23, _⟩ := (hf 23 _ rfl).int Try.underlying3
  replace e23 : (cs.drop 58).take (Try.prog.cellsOf 3) = [.int .i64 v23] := e23
  rw [cz4] at e23
  obtain ⟨v24, e24, _⟩ := (hf 24 _ rfl).int Try.underlying3
  replace e24 : (cs.drop 59).take (Try.prog.cellsOf 3) = [.int .i64 v24] := e24
  rw [cz4] at e24
  have hz : cs.drop 60 = [] := List.drop_eq_nil_of_le (by omega)
  clear hf hl hl2 h
  refine ⟨⟨v0, v1, v2, v3, v4, v5, v6, v7, v8, v9, v10, v11, v12, v13, v14, v15, v16, v17, v18, v19, v20, v21, v22, v23, v24⟩, ?_⟩
  show cs.drop 0 = _
  rw [cut_at cs 0 1 1 rfl, e0, cut_at cs 1 1 2 rfl, e1, cut_at cs 2 1 3 rfl, e2, cut_at cs 3 1 4 rfl, e3, cut_at cs 4 1 5 rfl, e4, cut_at cs 5 1 6 rfl, e5, cut_at cs 6 1 7 rfl, e6, cut_at cs 7 1 8 rfl, e7, cut_at cs 8 1 9 rfl, e8, cut_at cs 9 1 10 rfl, e9, cut_at cs 10 1 11 rfl, e10, cut_at cs 11 2 13 rfl, e11, cut_at cs 13 2 15 rfl, e12, cut_at cs 15 2 17 rfl, e13, cut_at cs 17 2 19 rfl, e14, cut_at cs 19 2 21 rfl, e15, cut_at cs 21 2 23 rfl, e16, cut_at cs 23 2 25 rfl, e17, cut_at cs 25 1 26 rfl, e18, cut_at cs 26 12 38 rfl, e19, cut_at cs 38 12 50 rfl, e20, cut_at cs 50 4 54 rfl, e21, cut_at cs 54 4 58 rfl, e22, cut_at cs 58 1 59 rfl, e23, cut_at cs 59 1 60 rfl, e24, hz]
  rfl

end Go.Proofs.Ytcolkidnjojlmaa
namespace Go.Proofs.Ytcolkidnjojlmaa
open Go.RowKit

theorem NodeSlice.wide {o : Bool} {R S : Nat → Prop} {w : World} {a : Option Addr} {l : List Node} (h : NodeSlice o R w a l) (hs : ∀ k, k < w.heap.size → R k → S k) : NodeSlice o S w a l := SliceAt.wideBy h hs fun _ _ hx => hx.wide hs
/-- A tree, read from its cells; o: it may be written. -/
def TreeIn (o : Bool) (R : Nat → Prop) (w : World) (cs : List Value) (l : List Node) : Prop :=
  ∃ a c, cs = [.slice a l.length c] ∧ NodeSlice o R w a l ∧ (o = true → Wr 137 64 R w a l.length)
theorem TreeIn.mod {o : Bool} {R S : Nat → Prop} {w w' : World} {cs : List Value} {x : List Node} (h : TreeIn o R w cs x) (hm : Mod S w w') (hs : ∀ k, R k → ¬ S k) : TreeIn o R w' cs x := by
  obtain ⟨a, c, h1, h2, h3⟩ := h
  exact ⟨a, c, h1, NodeSlice.mod h2 hm hs, fun ho => (h3 ho).mod hm hs⟩
theorem TreeIn.keep {o : Bool} {R : Nat → Prop} {w w' : World} {cs : List Value} {x : List Node} (h : TreeIn o R w cs x) (hm : Mod (fun _ => False) w w') : TreeIn o R w' cs x := h.mod hm fun _ _ f => f
theorem TreeIn.wide {o : Bool} {R S : Nat → Prop} {w : World} {cs : List Value} {x : List Node} (h : TreeIn o R w cs x) (hs : ∀ k, k < w.heap.size → R k → S k) : TreeIn o S w cs x := by
  obtain ⟨a, c, h1, h2, h3⟩ := h
  exact ⟨a, c, h1, NodeSlice.wide h2 hs, fun ho => (h3 ho).weaken hs⟩
/-- Lengths that a walk can bear. -/
def treeFits (n : Nat) (l : List Node) : Prop := l.length ≤ n ∧ ∀ x ∈ l, x.fits n
def treeCost (l : List Node) : Nat := l.length + costs Node.cost l
theorem treeFits_of {l : List Node} {n : Nat} (h : treeCost l ≤ n) : treeFits n l := by
  unfold treeCost at h
  refine ⟨by omega, fun x hx => ?_⟩
  have := costs_mem Node.cost hx
  have e : x.cost = x.kids.length + x.rules.length := rfl
  unfold Node.fits
  omega

set_option maxHeartbeats 2000000 in
theorem toTree_any (x : List Node) (o : Bool) (cs : List Value) (R : Nat → Prop) (w : World) (hf : treeFits 1048576 x) (h : TreeIn o R w cs x) :
    Calls Try.prog 48 #[.agg cs.toArray] w fun e w' => ∃ cs', e = .returned (.agg cs'.toArray) ∧ TreeIn true (fun b => w.heap.size ≤ b) w' cs' x ∧ Mod (fun _ => False) w w' := by
  obtain ⟨a, c, rfl, h1, _⟩ := h
  obtain ⟨f1, f2⟩ := hf
  have H1 := hid h1
  have F2 := hid f2
  clear h1 f2
  go_enter Try.func48, Try.ntmps48
  go_wp2_with fail
  refine (toNodeS_any x o _ _ R _ f1 F2.out (H1.out.keep (by (repeat (first | with_reducible exact Mod.refl _ _ | with_reducible refine Mod.drewN ?_ _ | with_reducible refine Mod.drew ?_ | with_reducible refine Mod.alloc ?_ _ | ((with_reducible refine Mod.setNew ?_ ?_ _ _ _); (rotate_left; omega)) | with_reducible refine Mod.setAt ?_ _ _ _ ))))).mono ?_
  intro e w1 hh
  obtain ⟨g1, rfl, hg1, s1, u1, hm1⟩ := hh.use
  obtain ⟨hq1, hz1⟩ := mcell hm1
  have hs1 := hm1.size
  repeat (first | rw [World.size_alloc] at hs1 | rw [World.size_setCell] at hs1 | rw [World.size_drew] at hs1 | unfold World.drewN at hs1)
  have hr1_0 : w.heap.size < w1.heap.size := by omega
  have hr1_1 : w.heap.size + 1 < w1.heap.size := by omega
  have hr1_2 : w.heap.size + 1 + 1 < w1.heap.size := by omega
  have hM1 : Mod (fun _ => False) w w1 := by (repeat (first | with_reducible exact Mod.refl _ _ | with_reducible refine Mod.drewN ?_ _ | with_reducible refine Mod.drew ?_ | with_reducible refine Mod.alloc ?_ _ | ((with_reducible refine Mod.setNew ?_ ?_ _ _ _); (rotate_left; omega)) | with_reducible refine Mod.setAt ?_ _ _ _ | with_reducible exact hm1 | with_reducible refine Mod.thenNone ?_ hm1 ))
  have S1 := hid (NodeSlice.wide s1 (S := fun b => w.heap.size + 1 + 1 + 1 ≤ b) (fun k _ hk => by simpa using hk))
  have U1 := hid (u1.weaken (S := fun b => w.heap.size + 1 + 1 + 1 ≤ b) (fun k _ hk => by simpa using hk))
  clear hh s1 u1 hm1
  go_wp2
  have hfin : ∀ W : World, Mod (fun k => k = w.heap.size + 1 + 1 ∨ k = w.heap.size + 1) w1 W → TreeIn true (fun b => w.heap.size ≤ b) W [.slice (some ⟨g1, 0, none⟩) x.length x.length] x := by
    intro W hW
    have k1 : ∀ k, w.heap.size + 1 + 1 + 1 ≤ k → ¬ (k = w.heap.size + 1 + 1 ∨ k = w.heap.size + 1) := by omega
    exact TreeIn.wide ⟨_, _, rfl, NodeSlice.mod S1.out hW k1, fun _ => U1.out.mod hW k1⟩ (fun k _ hk => by show w.heap.size ≤ k; omega)
  refine bodyPost_ret (v := .agg [.slice (some ⟨g1, 0, none⟩) x.length x.length].toArray) ?_ rfl ⟨_, rfl, hfin _ ?_, ?_⟩
  · simp [results, Try.results48, go_sem, *]
  · refine Mod.setCell (Mod.setCell (Mod.refl _ _) (fun _ => .inl (.inl rfl)) _) (fun _ => .inl (.inr rfl)) _
  · (repeat (first | with_reducible exact Mod.refl _ _ | with_reducible refine Mod.drewN ?_ _ | with_reducible refine Mod.drew ?_ | with_reducible refine Mod.alloc ?_ _ | ((with_reducible refine Mod.setNew ?_ ?_ _ _ _); (rotate_left; omega)) | with_reducible refine Mod.setAt ?_ _ _ _ | with_reducible exact hM1 | with_reducible refine Mod.thenNone ?_ hM1 ))

set_option maxHeartbeats 2000000 in
theorem eqTree_same (x : List Node) (o o' : Bool) (cs cs' : List Value) (R S : Nat → Prop) (w : World) (hf : treeFits 1048576 x) (h : TreeIn o R w cs x) (h' : TreeIn o' S w cs' x) :
    Calls Try.prog 51 #[.agg cs.toArray, .agg cs'.toArray] w fun e w' => e = .returned (.bool true) ∧ Mod (fun _ => False) w w' := by
  obtain ⟨m, c, rfl, h1, _⟩ := h
  obtain ⟨m', d, rfl, h1', _⟩ := h'
  obtain ⟨f1, f3⟩ := hf
  have H1 := hid h1
  have H1' := hid h1'
  have F3 := hid f3
  clear h1 h1' f3
  go_enter Try.func51, Try.ntmps51
  go_wp2_with fail
  refine (eqNodeS_same x o o' _ _ _ _ R S _ f1 F3.out (H1.out.keep (by (repeat (first | with_reducible exact Mod.refl _ _ | with_reducible refine Mod.drewN ?_ _ | with_reducible refine Mod.drew ?_ | with_reducible refine Mod.alloc ?_ _ | ((with_reducible refine Mod.setNew ?_ ?_ _ _ _); (rotate_left; omega)) | with_reducible refine Mod.setAt ?_ _ _ _ )))) (H1'.out.keep (by (repeat (first | with_reducible exact Mod.refl _ _ | with_reducible refine Mod.drewN ?_ _ | with_reducible refine Mod.drew ?_ | with_reducible refine Mod.alloc ?_ _ | ((with_reducible refine Mod.setNew ?_ ?_ _ _ _); (rotate_left; omega)) | with_reducible refine Mod.setAt ?_ _ _ _ ))))).mono ?_
  rintro e w1 ⟨rfl, hm1⟩
  have hM1 : Mod (fun _ => False) w w1 := by (repeat (first | with_reducible exact Mod.refl _ _ | with_reducible refine Mod.drewN ?_ _ | with_reducible refine Mod.drew ?_ | with_reducible refine Mod.alloc ?_ _ | ((with_reducible refine Mod.setNew ?_ ?_ _ _ _); (rotate_left; omega)) | with_reducible refine Mod.setAt ?_ _ _ _ | with_reducible exact hm1 | with_reducible refine Mod.thenNone ?_ hm1 ))
  go_wp2
  go_ret
  exact ⟨rfl, hM1⟩

set_option maxHeartbeats 2000000 in
theorem szTree_any (x : List Node) (o : Bool) (cs : List Value) (R : Nat → Prop) (left : Int) (w : World) (h0 : 0 ≤ left) (h1 : left ≤ 1048576) (hf : treeFits 9223372036854775807 x) (h : TreeIn o R w cs x) :
    Calls Try.prog 45 #[.agg cs.toArray, .int .i64 left] w fun e w' => e = .returned (.int .i64 (szRes left (treeCost x))) ∧ Mod (fun _ => False) w w' := by
  obtain ⟨m, c, rfl, hs, _⟩ := h
  obtain ⟨f1, f3⟩ := hf
  have H := hid hs
  have F3 := hid f3
  clear hs f3
  go_enter Try.func45, Try.ntmps45
  go_wp2_with fail
  refine (szNodeS_any x o _ _ R left _ h0 h1 f1 F3.out (H.out.keep (by (repeat (first | with_reducible exact Mod.refl _ _ | with_reducible refine Mod.drewN ?_ _ | with_reducible refine Mod.drew ?_ | with_reducible refine Mod.alloc ?_ _ | ((with_reducible refine Mod.setNew ?_ ?_ _ _ _); (rotate_left; omega)) | with_reducible refine Mod.setAt ?_ _ _ _ ))))).mono ?_
  rintro e w1 ⟨rfl, hm1⟩
  have hM1 : Mod (fun _ => False) w w1 := by (repeat (first | with_reducible exact Mod.refl _ _ | with_reducible refine Mod.drewN ?_ _ | with_reducible refine Mod.drew ?_ | with_reducible refine Mod.alloc ?_ _ | ((with_reducible refine Mod.setNew ?_ ?_ _ _ _); (rotate_left; omega)) | with_reducible refine Mod.setAt ?_ _ _ _ | with_reducible exact hm1 | with_reducible refine Mod.thenNone ?_ hm1 ))
  by_cases hs : left < (x.length + costs Node.cost x : Nat)
  · rw [szRes_less hs]
    have hc := hid (szRes_less (left := left) (n := treeCost x) hs)
    go_wp2
    go_ret
    exact ⟨ret_int hc.out.symm, hM1⟩
  · rw [szRes_more (by omega)]
    have hc := hid (szRes_more (left := left) (n := treeCost x) (by unfold treeCost; omega))
    have h2 : 0 ≤ left - (x.length + costs Node.cost x : Nat) := by omega
    unfold treeCost at hc
    generalize left - ((x.length + costs Node.cost x : Nat) : Int) = q at hc h2
    go_wp2
    go_ret
    exact ⟨ret_int hc.out.symm, hM1⟩

set_option maxRecDepth 100000 in
theorem rd_int {w : World} {cs : List Value} (h : Rd Try.prog w 3 cs) : ∃ x : Int, cs = icell x := by
  obtain ⟨x, e, _⟩ := h.int Try.underlying3
  exact ⟨x, e⟩
set_option maxRecDepth 100000 in
theorem rd_Node {w : World} {cs : List Value} (h : Rd Try.prog w 185 cs) : ∃ x : Node, NodeIn false (fun k => k < w.heap.size) w cs x ∧ x.fits 9223372036854775807 := by
  obtain ⟨hl, hf⟩ := h.struct Try.underlying185
  have hl2 : cs.length = 64 := hl.trans (by kernel_rfl)
  have z1 : Try.prog.cellsOf 3 = 1 := by kernel_rfl
  have z2 : Try.prog.cellsOf 29 = 1 := by kernel_rfl
  have z3 : Try.prog.cellsOf 180 = 60 := by kernel_rfl
  have z4 : Try.prog.cellsOf 4 = 1 := by kernel_rfl
  have z5 : Try.prog.cellsOf 183 = 1 := by kernel_rfl
  obtain ⟨up, e0, _⟩ := (hf 0 _ rfl).int Try.underlying3
  replace e0 : (cs.drop 0).take (Try.prog.cellsOf 3) = [.int .i64 up] := e0
  rw [z1] at e0
  obtain ⟨a, l, c, e1, h1, h2, h3⟩ := (hf 1 _ rfl).list (rep := Flat icell) (sz := 1) Try.underlying29 (by kernel_rfl) (by decide) (fun cs h => rd_int h)
  replace e1 : (cs.drop 1).take (Try.prog.cellsOf 29) = [.slice a l.length c] := e1
  rw [z2] at e1
  obtain ⟨s, e2⟩ := rdA_Style (hf 2 _ rfl)
  replace e2 : (cs.drop 2).take (Try.prog.cellsOf 180) = s.cells := e2
  rw [z3] at e2
  obtain ⟨m, e3⟩ := (hf 3 _ rfl).bool Try.underlying4
  replace e3 : (cs.drop 62).take (Try.prog.cellsOf 4) = [.bool m] := e3
  rw [z4] at e3
  obtain ⟨a', l', c', e4, h1', h3'⟩ := rd_Table (hf 4 _ rfl)
  replace e4 : (cs.drop 63).take (Try.prog.cellsOf 183) = [.slice a' l'.length c'] := e4
  rw [z5] at e4
  have hz : cs.drop 64 = [] := List.drop_eq_nil_of_le (by omega)
  have e : cs = nodeRow up a l.length c s m a' l'.length c' := by
    show cs.drop 0 = _
    rw [cut_at cs 0 1 1 rfl, e0, cut_at cs 1 1 2 rfl, e1, cut_at cs 2 60 62 rfl, e2, cut_at cs 62 1 63 rfl, e3, cut_at cs 63 1 64 rfl, e4, hz]
    simp [nodeRow]
  unfold maxLen at h2
  exact ⟨⟨up, l, s, m, l'⟩, ⟨a, c, a', c', e, h3, h3', fun h => by cases h⟩, by show l.length ≤ _; omega, h1'⟩
set_option maxRecDepth 100000 in
theorem rd_Tree {w : World} {cs : List Value} (h : Rd Try.prog w 49 cs) : ∃ x : List Node, TreeIn false (fun k => k < w.heap.size) w cs x ∧ treeFits 9223372036854775807 x := by
  obtain ⟨hl, hf⟩ := h.struct Try.underlying49
  have hl2 : cs.length = 1 := hl.trans (by kernel_rfl)
  have c1 : Try.prog.cellsOf 47 = 1 := by kernel_rfl
  match cs, hl2 with
  | [q0], _ =>
    obtain ⟨a, l, c, e0, h1, h2, h3⟩ := (hf 0 _ rfl).list (rep := fun w' r x => NodeIn false (fun k => k < w.heap.size) w' r x ∧ x.fits 9223372036854775807) (sz := 64) Try.underlying47 (by kernel_rfl) (by decide) (fun cs h => rd_Node h)
    obtain ⟨h4, h5⟩ := h3.split2
    simp [c1] at e0
    unfold maxLen at h2
    exact ⟨l, ⟨a, c, by simp [e0], h4, fun h => by cases h⟩, by omega, h5⟩

end Go.Proofs.Ytcolkidnjojlmaa
namespace Go.Proofs.Ytcolkidnjojlmaa
open Go.RowKit

theorem toSpace_any (x : Space) (w : World) : Calls Try.prog 138 #[.agg #[.int .i64 x.mode, .int .i64 x.n]] w fun e w' => e = .returned (.agg #[.int .i64 x.mode, .int .i64 x.n]) ∧ Mod (fun _ => False) w w' := by
  go_enter Try.func138, Try.ntmps138
  go_wp2
  refine bodyPost_ret (v := .agg #[.int .i64 x.mode, .int .i64 x.n]) (by simp [results, Try.results138, go_sem]) rfl ⟨rfl, by (repeat (first | with_reducible exact Mod.refl _ _ | with_reducible refine Mod.drewN ?_ _ | with_reducible refine Mod.drew ?_ | with_reducible refine Mod.alloc ?_ _ | ((with_reducible refine Mod.setNew ?_ ?_ _ _ _); (rotate_left; omega)) | with_reducible refine Mod.setAt ?_ _ _ _ ))⟩

end Go.Proofs.Ytcolkidnjojlmaa
namespace Go.Proofs.Ytcolkidnjojlmaa
open Go.RowKit

/-- A frame of machine numbers. -/
def Frame.ok (x : Frame) : Prop := I64 x.node ∧ I64 x.x ∧ I64 x.y ∧ I64 x.wide ∧ I64 x.high
end Go.Proofs.Ytcolkidnjojlmaa
namespace Go.Proofs.Ytcolkidnjojlmaa
open Go.RowKit

/-- A marked element's cells, its first mark q. -/
def Frame.marked (q : Int) : List Value := [.int .i64 (q), .int .i64 (q + 1), .int .i64 (q + 1 + 1), .int .i64 (q + 1 + 1 + 1), .int .i64 (q + 1 + 1 + 1 + 1)]
def Frame.marks (q : Int) : Nat → List Value
  | 0 => []
  | k + 1 => Frame.marks q k ++ Frame.marked (q + k * 5)
theorem Frame.marks_length (q : Int) (k : Nat) : (Frame.marks q k).length = k * 5 := by
  induction k with
  | zero => simp [Frame.marks]
  | succ k ih => simp [Frame.marks, Frame.marked, ih]; omega

theorem Frame.marks_at (q0 : Int) (n k j : Nat) (v : Value) (hk : k < n) (hj : (Frame.marked (q0 + k * 5))[j]? = some v) : (Frame.marks q0 n)[k * 5 + j]? = some v := by
  have hjl : j < 5 := by
    have := (List.getElem?_eq_some_iff.1 hj).1
    simpa [Frame.marked] using this
  induction n with
  | zero => omega
  | succ n ih =>
    have hl := Frame.marks_length q0 n
    unfold Frame.marks
    by_cases e : k = n
    · subst e
      rw [List.getElem?_append_right (by omega), hl, Nat.add_sub_cancel_left]
      exact hj
    · rw [List.getElem?_append_left (by rw [hl]; omega)]
      exact ih (by omega)
end Go.Proofs.Ytcolkidnjojlmaa
namespace Go.Proofs.Ytcolkidnjojlmaa
open Go.RowKit

/-- What holds after a struct with one new slice of frames was made. -/
def NewFrames (l : List Frame) (v : Nat → Value) (w : World) (en : Ending) (w' : World) : Prop :=
  ∃ g, en = .returned (v g) ∧ w.heap.size ≤ g ∧ w'.heap[g]? = some (.cells (l.map Frame.cells).flatten.toArray 166 (0, 0)) ∧ Mod (fun _ => False) w w'

/-- A memo of machine numbers. -/
def Memo.ok (x : Memo) : Prop := I64 x.node ∧ I64 x.bw ∧ I64 x.bh ∧ ∀ f ∈ x.frames, f.ok
set_option maxRecDepth 100000 in
theorem rd_Space {w : World} {cs : List Value} (h : Rd Try.prog w 141 cs) : ∃ x : Space, cs = x.cells := by
  obtain ⟨hl, hf⟩ := h.struct Try.underlying141
  have hl2 : cs.length = 2 := hl.trans (by kernel_rfl)
  have c1 : Try.prog.cellsOf 3 = 1 := by kernel_rfl
  match cs, hl2 with
  | [c0, c1'], _ =>
    obtain ⟨n0, e0, _⟩ := (hf 0 _ rfl).int Try.underlying3
    obtain ⟨n1, e1, _⟩ := (hf 1 _ rfl).int Try.underlying3
    simp [c1] at e0 e1
    exact ⟨⟨n0, n1⟩, by simp [Space.cells, e0, e1]⟩
/-- A memo's value reads as the memo. -/
def MemoAt (x : Memo) (w : World) (v : Value) : Prop := ∃ a c, v = .agg #[.int .i64 x.node, .int .i64 x.wide.mode, .int .i64 x.wide.n, .int .i64 x.high.mode, .int .i64 x.high.n, .bool x.rtl, .int .i64 x.bw, .int .i64 x.bh, .int .i64 x.bb, .slice a x.frames.length c] ∧ ∃ R, SliceAt (Flat Frame.cells) 5 R w a x.frames
theorem MemoAt.keep {x : Memo} {w w' : World} {v : Value} (h : MemoAt x w v) (hm : Mod (fun _ => False) w w') : MemoAt x w' v := by
  obtain ⟨a, c, h1, R, h2⟩ := h
  exact ⟨a, c, h1, R, h2.flatKeep hm⟩
theorem NewFrames.at {w w' : World} {x : Memo} {en : Ending} (h : NewFrames x.frames (fun g => .agg #[.int .i64 x.node, .int .i64 x.wide.mode, .int .i64 x.wide.n, .int .i64 x.high.mode, .int .i64 x.high.n, .bool x.rtl, .int .i64 x.bw, .int .i64 x.bh, .int .i64 x.bb, .slice (some ⟨g, 0, none⟩) x.frames.length x.frames.length]) w en w') :
    ∃ v, en = .returned v ∧ MemoAt x w' v ∧ Mod (fun _ => False) w w' := by
  obtain ⟨g, he, hg, hb, hm⟩ := h
  exact ⟨_, he, ⟨_, _, rfl, _, flat_of_blk hb (fun _ => rfl)⟩, hm⟩

end Go.Proofs.Ytcolkidnjojlmaa
namespace Go.Proofs.Ytcolkidnjojlmaa
open Go.RowKit

/-- A memo's cells, its frames' slice among them. -/
def memoRow (x : Memo) (a : Option Addr) (c : Nat) : List Value := [.int .i64 x.node, .int .i64 x.wide.mode, .int .i64 x.wide.n, .int .i64 x.high.mode, .int .i64 x.high.n, .bool x.rtl, .int .i64 x.bw, .int .i64 x.bh, .int .i64 x.bb, .slice a x.frames.length c]
/-- A memo's cells read as the memo; o: its frames may be written. -/
def MemoIn (o : Bool) (R : Nat → Prop) (w : World) (cs : List Value) (x : Memo) : Prop :=
  ∃ a c, cs = memoRow x a c ∧ SliceAt (Flat Frame.cells) 5 R w a x.frames ∧ (o = true → Wr 166 5 R w a x.frames.length)
theorem MemoIn.mod {o : Bool} {R S : Nat → Prop} {w w' : World} {cs : List Value} {x : Memo} (h : MemoIn o R w cs x) (hm : Mod S w w') (hs : ∀ k, R k → ¬ S k) : MemoIn o R w' cs x := by
  obtain ⟨a, c, h1, h2, h3⟩ := h
  exact ⟨a, c, h1, h2.flatMod hm hs, fun ho => (h3 ho).mod hm hs⟩
theorem MemoIn.keep {o : Bool} {R : Nat → Prop} {w w' : World} {cs : List Value} {x : Memo} (h : MemoIn o R w cs x) (hm : Mod (fun _ => False) w w') : MemoIn o R w' cs x := h.mod hm fun _ _ f => f
theorem MemoIn.wide {o : Bool} {R S : Nat → Prop} {w : World} {cs : List Value} {x : Memo} (h : MemoIn o R w cs x) (hs : ∀ k, k < w.heap.size → R k → S k) : MemoIn o S w cs x := by
  obtain ⟨a, c, h1, h2, h3⟩ := h
  exact ⟨a, c, h1, SliceAt.wide h2 hs, fun ho => (h3 ho).weaken hs⟩
abbrev MemoSlice (o : Bool) (R : Nat → Prop) (w : World) (a : Option Addr) (l : List Memo) : Prop := SliceAt (MemoIn o R) 10 R w a l
theorem MemoSlice.mod {o : Bool} {R S : Nat → Prop} {w w' : World} {a : Option Addr} {l : List Memo} (h : MemoSlice o R w a l) (hm : Mod S w w') (hs : ∀ k, R k → ¬ S k) : MemoSlice o R w' a l := SliceAt.mod h hm hs fun _ _ hx => hx.mod hm hs
theorem MemoSlice.keep {o : Bool} {R : Nat → Prop} {w w' : World} {a : Option Addr} {l : List Memo} (h : MemoSlice o R w a l) (hm : Mod (fun _ => False) w w') : MemoSlice o R w' a l := h.mod hm fun _ _ f => f

/-- What a memo counts besides itself. -/
def Memo.cost (x : Memo) : Nat := x.frames.length
end Go.Proofs.Ytcolkidnjojlmaa
namespace Go.Proofs.Ytcolkidnjojlmaa
open Go.RowKit

/-- The frames of a slice of memos may be written. -/
def MemoSh (R : Nat → Prop) (g n : Nat) (w : World) : Prop := ∀ i, i < n → ∃ a m c, w.cell? ⟨g, i * 10 + 9, none⟩ = some (.slice a m c) ∧ m ≤ 1048576 ∧ Wr 166 5 R w a m
/-- A slice of memos that may be written, its frames too. -/
def MemoWr (R : Nat → Prop) (w : World) (a : Option Addr) (n : Nat) : Prop :=
  n = 0 ∨ ∃ g N, a = some ⟨g, 0, none⟩ ∧ R g ∧ n * 10 ≤ N ∧ Filled g 110 N w [] ∧ MemoSh R g n w
theorem MemoSh.set {R : Nat → Prop} {g n : Nat} {w : World} (h : MemoSh R g n w) (j : Nat) (v : Value) (hj : j % 10 ≠ 9) : MemoSh R g n (w.setCell ⟨g, j, none⟩ v) := fun i hi => by
  obtain ⟨a, m, c, h1, h2, h3⟩ := h i hi
  refine ⟨a, m, c, ?_, h2, h3.set g j none v⟩
  have hne : (⟨g, j, none⟩ : Addr) ≠ ⟨g, i * 10 + 9, none⟩ := by
    intro e
    simp only [Addr.mk.injEq, true_and, and_true] at e
    omega
  rw [World.cell?_setCell_other w _ _ _ hne]
  exact h1
theorem MemoSh.keep {P R : Nat → Prop} {g n N : Nat} {w w' : World} (h : MemoSh R g n w) (hf : Filled g 110 N w []) (hk : KeepB P w w') (hp : ¬ P 110) : MemoSh R g n w' := fun i hi => by
  obtain ⟨a, m, c, h1, h2, h3⟩ := h i hi
  exact ⟨a, m, c, (World.cell?_of_block (a := ⟨g, i * 10 + 9, none⟩) ((hk g _ N hf).2 hp)).trans h1, h2, h3.keep hk⟩
theorem MemoWr.keep {P R : Nat → Prop} {a : Option Addr} {n : Nat} {w w' : World} (h : MemoWr R w a n) (hk : KeepB P w w') (hp : ¬ P 110) : MemoWr R w' a n := by
  rcases h with h | ⟨g, N, h1, h2, h3, h4, h5⟩
  · exact .inl h
  · exact .inr ⟨g, N, h1, h2, h3, (hk g _ N h4).1, h5.keep h4 hk hp⟩
theorem MemoSlice.wr {R : Nat → Prop} {g N : Nat} {w : World} {l : List Memo} (h : MemoSlice true R w (some ⟨g, 0, none⟩) l) (hf : Filled g 110 N w []) (hN : l.length * 10 ≤ N) (hm : ∀ x ∈ l, x.frames.length ≤ 1048576) (hR : R g) : MemoWr R w (some ⟨g, 0, none⟩) l.length := by
  refine .inr ⟨g, N, rfl, hR, hN, hf, fun i hi => ?_⟩
  obtain ⟨b, o, x, r, e, hb, hbw, hx, ⟨a, c, rfl, h2, h3⟩, hl, hc⟩ := h.get hi
  simp only [Option.some.injEq, Addr.mk.injEq, and_true] at e
  obtain ⟨rfl, rfl⟩ := e
  have h9 := hc 9 _ rfl
  rw [Nat.zero_add] at h9
  exact ⟨_, _, _, h9, hm x (List.mem_of_getElem? hx.out), h3 rfl⟩

end Go.Proofs.Ytcolkidnjojlmaa
namespace Go.Proofs.Ytcolkidnjojlmaa
open Go.RowKit

theorem toAsked_any (x : Asked) (w : World) : Calls Try.prog 95 #[.agg #[.int .i64 x.node, .int .i64 x.wide.mode, .int .i64 x.wide.n, .int .i64 x.high.mode, .int .i64 x.high.n, .bool x.rtl]] w fun e w' => e = .returned (.agg #[.int .i64 x.node, .int .i64 x.wide.mode, .int .i64 x.wide.n, .int .i64 x.high.mode, .int .i64 x.high.n, .bool x.rtl]) ∧ Mod (fun _ => False) w w' := by
  go_enter Try.func95, Try.ntmps95
  go_wp2_with fail
  refine (toSpace_any ⟨_, _⟩ _).mono ?_
  rintro e w1 ⟨rfl, hm1⟩
  obtain ⟨hq1, hz1⟩ := mcell hm1
  have hs1 := hm1.size
  simp only [World.size_alloc] at hs1
  have hr0 : w.heap.size < w1.heap.size := by omega
  have hr1 : w.heap.size + 1 < w1.heap.size := by omega
  have hr2 : w.heap.size + 1 + 1 < w1.heap.size := by omega
  go_wp2_with fail
  refine (toSpace_any ⟨_, _⟩ _).mono ?_
  rintro e w2 ⟨rfl, hm2⟩
  obtain ⟨hq2, hz2⟩ := mcell hm2
  go_wp2
  refine bodyPost_ret (v := .agg #[.int .i64 x.node, .int .i64 x.wide.mode, .int .i64 x.wide.n, .int .i64 x.high.mode, .int .i64 x.high.n, .bool x.rtl]) ?_ rfl ⟨rfl, ?_⟩
  · simp [results, Try.results95, go_sem, *]
  · (repeat (first | with_reducible exact Mod.refl _ _ | with_reducible refine Mod.drewN ?_ _ | with_reducible refine Mod.drew ?_ | with_reducible refine Mod.alloc ?_ _ | ((with_reducible refine Mod.setNew ?_ ?_ _ _ _); (rotate_left; omega)) | with_reducible refine Mod.setAt ?_ _ _ _ | with_reducible exact hm2 | with_reducible refine Mod.thenNone ?_ hm2 | with_reducible exact hm1 | with_reducible refine Mod.thenNone ?_ hm1 ))

set_option maxHeartbeats 1000000 in
theorem eqAsked_any (x y : Asked) (w : World) : Calls Try.prog 104 #[.agg #[.int .i64 x.node, .int .i64 x.wide.mode, .int .i64 x.wide.n, .int .i64 x.high.mode, .int .i64 x.high.n, .bool x.rtl], .agg #[.int .i64 y.node, .int .i64 y.wide.mode, .int .i64 y.wide.n, .int .i64 y.high.mode, .int .i64 y.high.n, .bool y.rtl]] w fun e w' => e = .returned (.bool (decide (x = y))) ∧ Mod (fun _ => False) w w' := by
  obtain ⟨x0, ⟨x1, x2⟩, ⟨x3, x4⟩, x5⟩ := x
  obtain ⟨y0, ⟨y1, y2⟩, ⟨y3, y4⟩, y5⟩ := y
  go_enter Try.func104, Try.ntmps104
  go_wp2
  all_goals
    go_ret
    refine ⟨ret_bool ?_, by (repeat (first | with_reducible exact Mod.refl _ _ | with_reducible refine Mod.drewN ?_ _ | with_reducible refine Mod.drew ?_ | with_reducible refine Mod.alloc ?_ _ | ((with_reducible refine Mod.setNew ?_ ?_ _ _ _); (rotate_left; omega)) | with_reducible refine Mod.setAt ?_ _ _ _ ))⟩
    simp_all

theorem info_Asked : (Try.prog.info? 121).map (fun i => (i.zero, i.size, i.bytes)) = some (some (.agg #[.int .i64 0, .int .i64 0, .int .i64 0, .int .i64 0, .int .i64 0, .bool false]), 6, 48) := by kernel_rfl

end Go.Proofs.Ytcolkidnjojlmaa
namespace Go.Proofs.Ytcolkidnjojlmaa
open Go.RowKit

theorem szAskedS_any (n c : Nat) (a : Option Addr) (left : Int) (h0 : 0 ≤ left) (h1 : left ≤ 1048576) (hn : n ≤ 9223372036854775807) (w : World) : Calls Try.prog 46 #[.slice a n c, .int .i64 left] w fun e w' => e = .returned (.int .i64 (if left < n then -1 else left - n)) ∧ w = w' := by
  by_cases h : left < n
  · rw [if_pos h]
    have h2 : left - n < 0 := by omega
    have h3 : -9223372036854775807 ≤ left - n := by omega
    go_enter Try.func46, Try.ntmps46
    go_wp2
    go_ret
    exact ⟨rfl, rfl⟩
  · rw [if_neg h]
    have h2 : 0 ≤ left - n := by omega
    go_enter Try.func46, Try.ntmps46
    go_wp2
    go_ret
    exact ⟨rfl, rfl⟩

set_option maxRecDepth 100000 in
set_option maxHeartbeats 1000000 in
theorem toAskedS_any (l : List Asked) (a : Option Addr) (c : Nat) (R : Nat → Prop) (w : World) (hl : l.length ≤ 1048576) (h : SliceAt (Flat Asked.cells) 6 R w a l) :
    Calls Try.prog 49 #[.slice a l.length c] w (NewRows 121 w l.length (l.map Asked.cells).flatten) := by
  have H := hid h
  clear h
  obtain ⟨i0, hi, hz0, hz1, hz2⟩ := info_parts info_Asked
  have hmk : ∀ W : World, (Instr.makeSlice 63 (.int .i64 (l.length : Int)) (.int .i64 (l.length : Int))).run Try.prog W = .ok (.slice (some ⟨W.heap.size, 0, none⟩) l.length l.length) (W.alloc (.cells (madeCells (Value.cells (.agg #[.int .i64 0, .int .i64 0, .int .i64 0, .int .i64 0, .int .i64 0, .bool false])) (l.length * 6)) 121)) := by
    intro W
    have := run_make (P := Try.prog) W 63 121 i0 _ Try.underlying63 hi hz0 .i64 .i64 l.length l.length (by omega) (by omega) (by rw [hz2]; omega) (by omega)
    simpa [hz1] using this
  clear hz0 hz1 hz2 hi
  go_enter Try.func49, Try.ntmps49
  go_wp2
  go_loopw [4] (fun i wr => ∃ k : Nat, k ≤ l.length ∧ i = .int .i64 k ∧ Filled w.heap.size 121 (l.length * 6) wr ((l.take k).map Asked.cells).flatten ∧ Mod (fun _ => False) w wr) (fun i _ => l.length - (intOf i).toNat)
  case atStart => exact ⟨0, by omega, rfl, Filled.made w _ _ _ (size_madeCells _ _), (Mod.refl _ w).alloc _⟩
  case round =>
    obtain ⟨k, hk, rfl, hF, hM⟩ := hrel
    clear hmk
    by_cases hlt : k < l.length
    · obtain ⟨b, o, x, r, rfl, hb, hbw, hx, hr, hrl, hc⟩ := (H.out.mod hM (fun _ _ f => f) (fun _ _ h => h)).get hlt
      obtain rfl : r = x.cells := hr
      have c0 : wr.cell? ⟨b, o + k * 6, none⟩ = _ := hc 0 _ rfl
      have c1 : wr.cell? ⟨b, o + k * 6 + 1, none⟩ = _ := hc 1 _ rfl
      have c2 : wr.cell? ⟨b, o + k * 6 + 2, none⟩ = _ := hc 2 _ rfl
      have c3 : wr.cell? ⟨b, o + k * 6 + 3, none⟩ = _ := hc 3 _ rfl
      have c4 : wr.cell? ⟨b, o + k * 6 + 4, none⟩ = _ := hc 4 _ rfl
      have c5 : wr.cell? ⟨b, o + k * 6 + 5, none⟩ = _ := hc 5 _ rfl
      clear hc hrl
      go_wp2_with fail
      refine (toAsked_any x _).mono ?_
      rintro e w1 ⟨rfl, hm1⟩
      have hF1 := hF.mod hm1 (fun f => f)
      obtain ⟨v0, d0⟩ := hF1.cell (off := k * 6) (by omega)
      obtain ⟨v1, d1⟩ := hF1.cell (off := k * 6 + 1) (by omega)
      obtain ⟨v2, d2⟩ := hF1.cell (off := k * 6 + 2) (by omega)
      obtain ⟨v3, d3⟩ := hF1.cell (off := k * 6 + 3) (by omega)
      obtain ⟨v4, d4⟩ := hF1.cell (off := k * 6 + 4) (by omega)
      obtain ⟨v5, d5⟩ := hF1.cell (off := k * 6 + 5) (by omega)
      have z0 := hF1.free (k * 6)
      have z1 := hF1.free (k * 6 + 1)
      have z2 := hF1.free (k * 6 + 2)
      have z3 := hF1.free (k * 6 + 3)
      have z4 := hF1.free (k * 6 + 4)
      have z5 := hF1.free (k * 6 + 5)
      go_wp2
      go_roundw
      case rel =>
        refine ⟨k + 1, by omega, by go_num, ?_, ?_⟩
        · have hl0 := flat_length (cells := Asked.cells) (sz := 6) (fun _ => rfl) (l.take k)
          rw [take_length_of_lt hk] at hl0
          rw [flat_succ hx]
          have e : ∀ s : List Value, s ++ x.cells = s ++ [.int .i64 x.node] ++ [.int .i64 x.wide.mode] ++ [.int .i64 x.wide.n] ++ [.int .i64 x.high.mode] ++ [.int .i64 x.high.n] ++ [.bool x.rtl] := by intro s; simp [Asked.cells]
          rw [e]
          generalize ((l.take k).map Asked.cells).flatten = s at hF1 hl0
          exact ((((((hF1.push (off := k * 6) (by simp [hl0]) (by omega) _).push (off := k * 6 + 1) (by simp [hl0]) (by omega) _).push (off := k * 6 + 2) (by simp [hl0]) (by omega) _).push (off := k * 6 + 3) (by simp [hl0]) (by omega) _).push (off := k * 6 + 4) (by simp [hl0]) (by omega) _).push (off := k * 6 + 5) (by simp [hl0]) (by omega) _)
        · have hM1 := hM.thenNone hm1
          (repeat (first | with_reducible exact Mod.refl _ _ | with_reducible refine Mod.drewN ?_ _ | with_reducible refine Mod.drew ?_ | with_reducible refine Mod.alloc ?_ _ | ((with_reducible refine Mod.setNew ?_ ?_ _ _ _); (rotate_left; omega)) | with_reducible refine Mod.setAt ?_ _ _ _ | with_reducible exact hM1 | with_reducible refine Mod.thenNone ?_ hM1 ))
      case measure => simp [intOf]; omega
    · have hk' : k = l.length := by omega
      subst hk'
      go_wp2
      go_ret
      refine ⟨w.heap.size, rfl, Nat.le_refl _, ?_, hM⟩
      rw [List.take_length] at hF
      exact hF.full (flat_length (cells := Asked.cells) (sz := 6) (fun _ => rfl) l)

set_option maxRecDepth 100000 in
set_option maxHeartbeats 1000000 in
theorem eqAskedS_any (l m : List Asked) (a a' : Option Addr) (c c' : Nat) (R S : Nat → Prop) (w : World) (hl : l.length ≤ 9223372036854775807) (_hm : m.length ≤ 9223372036854775807) (h : SliceAt (Flat Asked.cells) 6 R w a l) (h' : SliceAt (Flat Asked.cells) 6 S w a' m) :
    Calls Try.prog 52 #[.slice a l.length c, .slice a' m.length c'] w fun e w' => e = .returned (.bool (decide (l = m))) ∧ Mod (fun _ => False) w w' := by
  have H := hid h
  have H' := hid h'
  clear h h'
  by_cases hlen : l.length = m.length
  · have hn0 : ((l.length : Int) != (m.length : Int)) = false := by simp [hlen]
    have hn1 : l.length ≤ m.length := by omega
    have hn2 : m.length ≤ l.length := by omega
    clear hlen
    go_enter Try.func52, Try.ntmps52
    go_wp2
    go_loopw [5] (fun i wr => ∃ k : Nat, k ≤ l.length ∧ i = .int .i64 k ∧ SameTo l m k ∧ Mod (fun _ => False) w wr) (fun i _ => l.length - (intOf i).toNat)
    case atStart => exact ⟨0, by omega, rfl, rfl, Mod.refl _ _⟩
    case round =>
      obtain ⟨k, hk, rfl, hsame, hmod⟩ := hrel
      by_cases hlt : k < l.length
      · obtain ⟨b, o, x, r, rfl, hb, hbw, hx, hr, hrl, hc⟩ := (H.out.mod hmod (fun _ _ f => f) (fun _ _ h => h)).get hlt
        obtain rfl : r = x.cells := hr
        obtain ⟨b', o', y, r', rfl, hb', hbw', hy, hr', hrl', hd⟩ := (H'.out.mod hmod (fun _ _ f => f) (fun _ _ h => h)).get (show k < m.length by omega)
        obtain rfl : r' = y.cells := hr'
        have hlt2 : k < m.length := by omega
        have c0 : wr.cell? ⟨b, o + k * 6, none⟩ = _ := hc 0 _ rfl
        have d0 : wr.cell? ⟨b', o' + k * 6, none⟩ = _ := hd 0 _ rfl
        have c1 : wr.cell? ⟨b, o + k * 6 + 1, none⟩ = _ := hc 1 _ rfl
        have d1 : wr.cell? ⟨b', o' + k * 6 + 1, none⟩ = _ := hd 1 _ rfl
        have c2 : wr.cell? ⟨b, o + k * 6 + 2, none⟩ = _ := hc 2 _ rfl
        have d2 : wr.cell? ⟨b', o' + k * 6 + 2, none⟩ = _ := hd 2 _ rfl
        have c3 : wr.cell? ⟨b, o + k * 6 + 3, none⟩ = _ := hc 3 _ rfl
        have d3 : wr.cell? ⟨b', o' + k * 6 + 3, none⟩ = _ := hd 3 _ rfl
        have c4 : wr.cell? ⟨b, o + k * 6 + 4, none⟩ = _ := hc 4 _ rfl
        have d4 : wr.cell? ⟨b', o' + k * 6 + 4, none⟩ = _ := hd 4 _ rfl
        have c5 : wr.cell? ⟨b, o + k * 6 + 5, none⟩ = _ := hc 5 _ rfl
        have d5 : wr.cell? ⟨b', o' + k * 6 + 5, none⟩ = _ := hd 5 _ rfl
        clear hc hd hrl hrl'
        by_cases hxy : x = y
        · have hd : decide (x = y) = true := decide_eq_true hxy
          have Hxy := hid hxy
          clear hxy
          go_wp2
          go_still_tail 8, (by kernel_rfl)
          go_wp2_with fail
          refine (eqAsked_any x y _).mono ?_
          rintro e w1 ⟨rfl, hm1⟩
          go_wp2
          go_roundw
          case rel => exact ⟨k + 1, by omega, by go_num, hsame.succ hx (Hxy.out ▸ hy), hmod.drew.thenNone hm1⟩
          case measure => simp [intOf]; omega
        · have hd : decide (x = y) = false := decide_eq_false hxy
          go_wp2
          go_still_tail 8, (by kernel_rfl)
          go_wp2_with fail
          refine (eqAsked_any x y _).mono ?_
          rintro e w1 ⟨rfl, hm1⟩
          go_wp2
          go_ret
          exact ⟨ret_bool (decide_eq_false (ne_at hx hy hxy)).symm, hmod.drew.thenNone hm1⟩
      · go_wp2
        go_ret
        exact ⟨ret_bool (decide_eq_true (hsame.all (by omega) (by omega))).symm, hmod⟩
  · have hn0 : ((l.length : Int) != (m.length : Int)) = true := by simp; omega
    have hne : l ≠ m := fun h => hlen (by rw [h])
    clear hlen
    go_enter Try.func52, Try.ntmps52
    go_wp2
    go_ret
    exact ⟨ret_bool (decide_eq_false hne).symm, Mod.refl _ _⟩

/-- A marked element's cells, its first mark q. -/
def Asked.marked (q : Int) : List Value := [.int .i64 (q), .int .i64 (q + 1), .int .i64 (q + 1 + 1), .int .i64 (q + 1 + 1 + 1), .int .i64 (q + 1 + 1 + 1 + 1), .bool ((q + 1 + 1 + 1 + 1 + 1) % 3 == 0)]
def Asked.marks (q : Int) : Nat → List Value
  | 0 => []
  | k + 1 => Asked.marks q k ++ Asked.marked (q + k * 6)
theorem Asked.marks_length (q : Int) (k : Nat) : (Asked.marks q k).length = k * 6 := by
  induction k with
  | zero => simp [Asked.marks]
  | succ k ih => simp [Asked.marks, Asked.marked, ih]; omega

set_option maxRecDepth 100000 in
set_option maxHeartbeats 1000000 in
theorem markAskedS_any (n c : Nat) (a : Option Addr) (g N : Nat) (w : World) (q0 : Int) (hq0 : 0 ≤ q0) (hq1 : q0 ≤ 1000000000000000) (hn : n ≤ 1048576) (h : n = 0 ∨ a = some ⟨g, 0, none⟩ ∧ n * 6 ≤ N ∧ Filled g 121 N w []) :
    Calls Try.prog 54 #[.slice a n c, .int .i64 q0] w fun e w' => e = .returned (.int .i64 (q0 + n * 6)) ∧ Mod (fun k => k = g) w w' ∧ (n = 0 ∨ Filled g 121 N w' (Asked.marks q0 n)) := by
  have H := hid h
  clear h
  go_enter Try.func54, Try.ntmps54
  go_wp2
  go_loopw [1, 5] (fun z i wr => ∃ (k : Nat) (q : Int), k ≤ n ∧ z = .int .i64 q ∧ Hid (q = q0 + k * 6) ∧ 0 ≤ q ∧ q ≤ 10000000000000000 ∧ i = .int .i64 k ∧ Mod (fun k => k = g) w wr ∧ (n = 0 ∨ Filled g 121 N wr (Asked.marks q0 k))) (fun _ i _ => n - (intOf i).toNat)
  case atStart =>
    refine ⟨0, q0, by omega, rfl, by show q0 = q0 + _; omega, by omega, by omega, rfl, Mod.refl _ _, ?_⟩
    rcases H.out with h | ⟨_, _, h⟩
    · exact .inl h
    · exact .inr h
  case round =>
    obtain ⟨k, q, hk, rfl, hq, q1, q2, rfl, hM, hF0⟩ := hrel
    by_cases hlt : k < n
    · rcases H.out with h | ⟨rfl, hN, _⟩
      · omega
      have hF := hF0.resolve_left (by omega)
      have hl0 := Asked.marks_length q0 k
      clear hF0
      obtain ⟨v0, d0⟩ := hF.cell (off := k * 6) (by omega)
      have z0 := hF.free (k * 6)
      obtain ⟨v1, d1⟩ := hF.cell (off := k * 6 + 1) (by omega)
      have z1 := hF.free (k * 6 + 1)
      obtain ⟨v2, d2⟩ := hF.cell (off := k * 6 + 2) (by omega)
      have z2 := hF.free (k * 6 + 2)
      obtain ⟨v3, d3⟩ := hF.cell (off := k * 6 + 3) (by omega)
      have z3 := hF.free (k * 6 + 3)
      obtain ⟨v4, d4⟩ := hF.cell (off := k * 6 + 4) (by omega)
      have z4 := hF.free (k * 6 + 4)
      obtain ⟨v5, d5⟩ := hF.cell (off := k * 6 + 5) (by omega)
      have z5 := hF.free (k * 6 + 5)
      have HF := hid hF
      have Hl0 := hid hl0
      clear hF hl0
      go_wp2
      go_roundw
      case rel =>
        have hF := HF.out
        have hl0 := Hl0.out
        have hq' := hq.out
        refine ⟨k + 1, q + 1 + 1 + 1 + 1 + 1 + 1, by omega, rfl, by show q + 1 + 1 + 1 + 1 + 1 + 1 = _; omega, by omega, by omega, by go_num, by (repeat (first | with_reducible exact Mod.refl _ _ | with_reducible refine Mod.drewN ?_ _ | with_reducible refine Mod.drew ?_ | with_reducible refine Mod.alloc ?_ _ | ((with_reducible refine Mod.setNew ?_ ?_ _ _ _); (rotate_left; omega)) | with_reducible refine Mod.setAt ?_ _ _ _ | with_reducible exact hM | with_reducible refine Mod.thenNone ?_ hM )), .inr ?_⟩
        have e : Asked.marks q0 (k + 1) = Asked.marks q0 k ++ [.int .i64 (q)] ++ [.int .i64 (q + 1)] ++ [.int .i64 (q + 1 + 1)] ++ [.int .i64 (q + 1 + 1 + 1)] ++ [.int .i64 (q + 1 + 1 + 1 + 1)] ++ [.bool ((q + 1 + 1 + 1 + 1 + 1) % 3 == 0)] := by
          simp [Asked.marks, Asked.marked, ← hq']
        rw [e]
        exact ((((((hF.push (off := k * 6) (by simp [hl0]) (by omega) _).push (off := k * 6 + 1) (by simp [hl0]) (by omega) _).push (off := k * 6 + 2) (by simp [hl0]) (by omega) _).push (off := k * 6 + 3) (by simp [hl0]) (by omega) _).push (off := k * 6 + 4) (by simp [hl0]) (by omega) _).push (off := k * 6 + 5) (by simp [hl0]) (by omega) _)
      case measure => simp [intOf]; omega
    · have hk' : k = n := by omega
      subst hk'
      go_wp2
      go_ret
      exact ⟨ret_int hq.out, hM, hF0⟩

theorem Asked.marks_at (q0 : Int) (n k j : Nat) (v : Value) (hk : k < n) (hj : (Asked.marked (q0 + k * 6))[j]? = some v) : (Asked.marks q0 n)[k * 6 + j]? = some v := by
  have hjl : j < 6 := by
    have := (List.getElem?_eq_some_iff.1 hj).1
    simpa [Asked.marked] using this
  induction n with
  | zero => omega
  | succ n ih =>
    have hl := Asked.marks_length q0 n
    unfold Asked.marks
    by_cases e : k = n
    · subst e
      rw [List.getElem?_append_right (by omega), hl, Nat.add_sub_cancel_left]
      exact hj
    · rw [List.getElem?_append_left (by rw [hl]; omega)]
      exact ih (by omega)
end Go.Proofs.Ytcolkidnjojlmaa
namespace Go.Proofs.Ytcolkidnjojlmaa
open Go.RowKit

abbrev AskedSlice (R : Nat → Prop) (w : World) (a : Option Addr) (l : List Asked) : Prop := SliceAt (Flat Asked.cells) 6 R w a l
theorem MemoSlice.wide {o : Bool} {R S : Nat → Prop} {w : World} {a : Option Addr} {l : List Memo} (h : MemoSlice o R w a l) (hs : ∀ k, k < w.heap.size → R k → S k) : MemoSlice o S w a l := SliceAt.wideBy h hs fun _ _ hx => hx.wide hs
theorem MemoIn.old {o : Bool} {R : Nat → Prop} {w : World} {cs : List Value} {x : Memo} (h : MemoIn o R w cs x) : MemoIn false R w cs x := by
  obtain ⟨a, c, h1, h2, _⟩ := h
  exact ⟨a, c, h1, h2, fun h => by cases h⟩

structure KeptT where
  memos : List Memo
  asked : List Asked
  deriving DecidableEq, Inhabited
/-- What is kept, read from its cells; o: it may be written. -/
def KeptIn (o : Bool) (R : Nat → Prop) (w : World) (cs : List Value) (x : KeptT) : Prop :=
  ∃ m c a c', cs = [.slice m x.memos.length c, .slice a x.asked.length c'] ∧ MemoSlice o R w m x.memos ∧ AskedSlice R w a x.asked ∧ (o = true → Wr 110 10 R w m x.memos.length ∧ Wr 121 6 R w a x.asked.length)
theorem KeptIn.mod {o : Bool} {R S : Nat → Prop} {w w' : World} {cs : List Value} {x : KeptT} (h : KeptIn o R w cs x) (hm : Mod S w w') (hs : ∀ k, R k → ¬ S k) : KeptIn o R w' cs x := by
  obtain ⟨m, c, a, c', h1, h2, h3, h4⟩ := h
  exact ⟨m, c, a, c', h1, h2.mod hm hs, h3.flatMod hm hs, fun ho => ⟨(h4 ho).1.mod hm hs, (h4 ho).2.mod hm hs⟩⟩
theorem KeptIn.keep {o : Bool} {R : Nat → Prop} {w w' : World} {cs : List Value} {x : KeptT} (h : KeptIn o R w cs x) (hm : Mod (fun _ => False) w w') : KeptIn o R w' cs x := h.mod hm fun _ _ f => f
theorem KeptIn.wide {o : Bool} {R S : Nat → Prop} {w : World} {cs : List Value} {x : KeptT} (h : KeptIn o R w cs x) (hs : ∀ k, k < w.heap.size → R k → S k) : KeptIn o S w cs x := by
  obtain ⟨m, c, a, c', h1, h2, h3, h4⟩ := h
  exact ⟨m, c, a, c', h1, h2.wide hs, SliceAt.wide h3 hs, fun ho => ⟨(h4 ho).1.weaken hs, (h4 ho).2.weaken hs⟩⟩
/-- Lengths that a walk can bear. -/
def KeptT.fits (n : Nat) (x : KeptT) : Prop := x.memos.length ≤ n ∧ x.asked.length ≤ n ∧ ∀ m ∈ x.memos, m.frames.length ≤ n
def KeptT.cost (x : KeptT) : Nat := x.memos.length + costs Memo.cost x.memos + x.asked.length
set_option maxRecDepth 100000 in
theorem rd_Asked {w : World} {cs : List Value} (h : Rd Try.prog w 143 cs) : ∃ x : Asked, cs = x.cells := by
  obtain ⟨hl, hf⟩ := h.struct Try.underlying143
  have hl2 : cs.length = 6 := hl.trans (by kernel_rfl)
  have c1 : Try.prog.cellsOf 3 = 1 := by kernel_rfl
  have c2 : Try.prog.cellsOf 4 = 1 := by kernel_rfl
  have c3 : Try.prog.cellsOf 141 = 2 := by kernel_rfl
  match cs, hl2 with
  | [q0, q1, q2, q3, q4, q5], _ =>
    obtain ⟨n0, e0, _⟩ := (hf 0 _ rfl).int Try.underlying3
    obtain ⟨x1, e1⟩ := rd_Space (hf 1 _ rfl)
    obtain ⟨x2, e2⟩ := rd_Space (hf 2 _ rfl)
    obtain ⟨b3, e3⟩ := (hf 3 _ rfl).bool Try.underlying4
    simp [c1, c2, c3, Space.cells] at e0 e1 e2 e3
    exact ⟨⟨n0, x1, x2, b3⟩, by simp [Asked.cells, e0, e1, e2, e3]⟩
end Go.Proofs.Ytcolkidnjojlmaa
namespace Go.Proofs.Ytcolkidnjojlmaa
open Go.RowKit

structure Engine where
  tree : List Node
  kept : KeptT
  frames : List Frame
  root : Int
  wide : Int
  high : Int
  rtl : Bool
  deriving DecidableEq, Inhabited
/-- An engine, read from its cells; o: it may be written. -/
def EngineIn (o : Bool) (R : Nat → Prop) (w : World) (cs : List Value) (x : Engine) : Prop :=
  ∃ t k0 k1 f c, cs = [t, k0, k1, .slice f x.frames.length c, .int .i64 x.root, .int .i64 x.wide, .int .i64 x.high, .bool x.rtl] ∧ TreeIn o R w [t] x.tree ∧ KeptIn o R w [k0, k1] x.kept ∧ SliceAt (Flat Frame.cells) 5 R w f x.frames ∧ (o = true → Wr 166 5 R w f x.frames.length)
theorem EngineIn.mod {o : Bool} {R S : Nat → Prop} {w w' : World} {cs : List Value} {x : Engine} (h : EngineIn o R w cs x) (hm : Mod S w w') (hs : ∀ k, R k → ¬ S k) : EngineIn o R w' cs x := by
  obtain ⟨t, k0, k1, f, c, h1, h2, h3, h4, h5⟩ := h
  exact ⟨t, k0, k1, f, c, h1, h2.mod hm hs, h3.mod hm hs, h4.flatMod hm hs, fun ho => (h5 ho).mod hm hs⟩
theorem EngineIn.keep {o : Bool} {R : Nat → Prop} {w w' : World} {cs : List Value} {x : Engine} (h : EngineIn o R w cs x) (hm : Mod (fun _ => False) w w') : EngineIn o R w' cs x := h.mod hm fun _ _ f => f
theorem EngineIn.wide {o : Bool} {R S : Nat → Prop} {w : World} {cs : List Value} {x : Engine} (h : EngineIn o R w cs x) (hs : ∀ k, k < w.heap.size → R k → S k) : EngineIn o S w cs x := by
  obtain ⟨t, k0, k1, f, c, h1, h2, h3, h4, h5⟩ := h
  exact ⟨t, k0, k1, f, c, h1, h2.wide hs, h3.wide hs, SliceAt.wide h4 hs, fun ho => (h5 ho).weaken hs⟩
/-- Lengths that a walk can bear. -/
def Engine.fits (n : Nat) (x : Engine) : Prop := treeFits n x.tree ∧ x.kept.fits n ∧ x.frames.length ≤ n
def Engine.cost (x : Engine) : Nat := treeCost x.tree + x.kept.cost + x.frames.length
theorem TreeIn.one {o : Bool} {R : Nat → Prop} {w : World} {cs : List Value} {l : List Node} (h : TreeIn o R w cs l) : ∃ t, cs = [t] ∧ t.oneCell' = true := by
  obtain ⟨a, c, rfl, _⟩ := h
  exact ⟨_, rfl, rfl⟩
theorem KeptIn.two {o : Bool} {R : Nat → Prop} {w : World} {cs : List Value} {x : KeptT} (h : KeptIn o R w cs x) : ∃ p q, cs = [p, q] ∧ p.oneCell' = true ∧ q.oneCell' = true := by
  obtain ⟨m, c, a, c', rfl, _⟩ := h
  exact ⟨_, _, rfl, rfl, rfl⟩

end Go.Proofs.Ytcolkidnjojlmaa
namespace Go.Proofs.Ytcolkidnjojlmaa
open Go.RowKit

/-- An engine's cells, written out. -/
theorem EngineIn.lit {o : Bool} {R : Nat → Prop} {w : World} {cs : List Value} {x : Engine} (h : EngineIn o R w cs x) : ∃ ta tc ka kc kb kd fa fc, cs = [.slice ta x.tree.length tc, .slice ka x.kept.memos.length kc, .slice kb x.kept.asked.length kd, .slice fa x.frames.length fc, .int .i64 x.root, .int .i64 x.wide, .int .i64 x.high, .bool x.rtl] ∧ EngineIn o R w [.slice ta x.tree.length tc, .slice ka x.kept.memos.length kc, .slice kb x.kept.asked.length kd, .slice fa x.frames.length fc, .int .i64 x.root, .int .i64 x.wide, .int .i64 x.high, .bool x.rtl] x := by
  have h0 := h
  obtain ⟨t, k0, k1, f, c, rfl, ⟨ta, tc, et, _⟩, ⟨ka, kc, kb, kc', ek, _⟩, _, _⟩ := h
  simp only [List.cons.injEq, and_true] at et ek
  obtain rfl := et
  obtain ⟨rfl, rfl⟩ := ek
  exact ⟨ta, tc, ka, kc, kb, kc', f, c, rfl, h0⟩
/-- An engine's value reads as the engine. -/
def EngAt (x : Engine) (w : World) (v : Value) : Prop := ∃ cs : List Value, v = .agg cs.toArray ∧ ∃ o R, EngineIn o R w cs x
theorem EngAt.keep {x : Engine} {w w' : World} {v : Value} (h : EngAt x w v) (hm : Mod (fun _ => False) w w') : EngAt x w' v := by
  obtain ⟨cs, h1, o, R, h2⟩ := h
  exact ⟨cs, h1, o, R, EngineIn.keep h2 hm⟩
end Go.Proofs.Ytcolkidnjojlmaa
namespace Go.Proofs.Ytcolkidnjojlmaa
open Go.RowKit
set_option linter.unusedVariables false
set_option linter.unusedSimpArgs false

theorem markIntS_wr (n c : Nat) (a : Option Addr) (R : Nat → Prop) (w : World) (q0 : Int) (hq0 : 1 ≤ q0) (hq1 : q0 ≤ 1000000000000000) (hn : n ≤ 1048576) (h : Wr 3 1 R w a n) :
    Calls Try.prog 43 #[.slice a n c, .int .i64 q0] w fun e w' => e = .returned (.int .i64 (q0 + n)) ∧ Mod R w w' ∧ KeepB (fun t => t = 3) w w' :=
  mark_wr h fun g N hh => markIntS_any n c a g N w q0 hq0 hq1 (by omega) (by simpa using hh)
theorem markRuleS_wr (n c : Nat) (a : Option Addr) (R : Nat → Prop) (w : World) (q0 : Int) (hq0 : 0 ≤ q0) (hq1 : q0 ≤ 1000000000000000) (hn : n ≤ 1048576) (h : Wr 208 3 R w a n) :
    Calls Try.prog 147 #[.slice a n c, .int .i64 q0] w fun e w' => e = .returned (.int .i64 (q0 + n * 3)) ∧ Mod R w w' ∧ KeepB (fun t => t = 208) w w' :=
  mark_wr h fun g N hh => markRuleS_any n c a g N w q0 hq0 hq1 hn hh
/-- The slices in a slice of nodes may be written. -/
def NodeSh (R : Nat → Prop) (g n : Nat) (w : World) : Prop := ∀ i, i < n → (∃ a m c, w.cell? ⟨g, i * 64 + 1, none⟩ = some (.slice a m c) ∧ m ≤ 1048576 ∧ Wr 3 1 R w a m) ∧ ∃ a m c, w.cell? ⟨g, i * 64 + 63, none⟩ = some (.slice a m c) ∧ m ≤ 1048576 ∧ Wr 208 3 R w a m
def NodeWr (R : Nat → Prop) (w : World) (a : Option Addr) (n : Nat) : Prop :=
  n = 0 ∨ ∃ g N, a = some ⟨g, 0, none⟩ ∧ R g ∧ n * 64 ≤ N ∧ Filled g 137 N w [] ∧ NodeSh R g n w
theorem NodeWr.keep {P R : Nat → Prop} {a : Option Addr} {n : Nat} {w w' : World} (h : NodeWr R w a n) (hk : KeepB P w w') (hp : ¬ P 137) : NodeWr R w' a n := by
  rcases h with h | ⟨g, N, h1, h2, h3, h4, h5⟩
  · exact .inl h
  · refine .inr ⟨g, N, h1, h2, h3, (hk g _ N h4).1, fun i hi => ?_⟩
    obtain ⟨⟨a, m, c, q1, q2, q3⟩, ⟨a', m', c', q4, q5, q6⟩⟩ := h5 i hi
    exact ⟨⟨a, m, c, (World.cell?_of_block (a := ⟨g, i * 64 + 1, none⟩) ((hk g _ N h4).2 hp)).trans q1, q2, q3.keep hk⟩, a', m', c', (World.cell?_of_block (a := ⟨g, i * 64 + 63, none⟩) ((hk g _ N h4).2 hp)).trans q4, q5, q6.keep hk⟩
theorem NodeSlice.wr {R : Nat → Prop} {g N : Nat} {w : World} {l : List Node} (h : NodeSlice true R w (some ⟨g, 0, none⟩) l) (hf : Filled g 137 N w []) (hN : l.length * 64 ≤ N) (hm : ∀ x ∈ l, x.fits 1048576) (hR : R g) : NodeWr R w (some ⟨g, 0, none⟩) l.length := by
  refine .inr ⟨g, N, rfl, hR, hN, hf, fun i hi => ?_⟩
  obtain ⟨b, o, x, r, e, hb, hbw, hx, ⟨k, c, t, c', rfl, _, _, h3⟩, hl, hc⟩ := h.get hi
  simp only [Option.some.injEq, Addr.mk.injEq, and_true] at e
  obtain ⟨rfl, rfl⟩ := e
  have h1 := hc 1 _ (nodeRow_1 _ _ _ _ _ _ _ _ _)
  have h63 := hc 63 _ (nodeRow_63 _ _ _ _ _ _ _ _ _)
  rw [Nat.zero_add] at h1 h63
  have hf := hm x (List.mem_of_getElem? hx.out)
  unfold Node.fits at hf
  exact ⟨⟨_, _, _, h1, hf.1, (h3 rfl).1⟩, _, _, _, h63, hf.2, (h3 rfl).2⟩

/-- What marks of nodes keep. -/
def NodeJ (W : World) (g N n : Nat) (w : World) : Prop :=
  KeepB (fun t => t = 137 ∨ t = 3 ∨ t = 208) W w ∧ Filled g 137 N w [] ∧ ∀ i, i < n → w.cell? ⟨g, i * 64 + 1, none⟩ = W.cell? ⟨g, i * 64 + 1, none⟩ ∧ w.cell? ⟨g, i * 64 + 63, none⟩ = W.cell? ⟨g, i * 64 + 63, none⟩
theorem keepB_far {P S : Nat → Prop} {W w w' : World} (h : KeepB P W w) (hm : Mod S w w') (hs : ∀ k, k < W.heap.size → ¬ S k) (hz : W.heap.size ≤ w.heap.size) : KeepB P W w' := fun g e N hf => by
  have hg := hf.size
  have e1 := hm.block g (by omega) (hs g hg)
  exact ⟨(h g e N hf).1.mod hm (hs g hg), fun hp => e1.trans ((h g e N hf).2 hp)⟩
def nodeRg (W : World) (R : Nat → Prop) (g N n : Nat) (hg : g < W.heap.size) : Rg W where
  p := fun k => R k ∧ k < W.heap.size
  q := fun _ => False
  J := fun w => W.heap.size ≤ w.heap.size ∧ NodeJ W g N n w
  low := fun _ h => h.2
  sub := fun _ h => h.elim
  keep := fun S w w' ⟨hz, h1, h2, h3⟩ hm hs => by
    have hgw : g < w.heap.size := by omega
    refine ⟨Nat.le_trans hz hm.size, keepB_far h1 hm (fun k hk h => (hs k hk h).elim) hz, h2.mod hm (fun h => (hs g hg h).elim), fun i hi => ?_⟩
    rw [hm.cell (a := ⟨g, i * 64 + 1, none⟩) hgw (fun h => (hs g hg h).elim), hm.cell (a := ⟨g, i * 64 + 63, none⟩) hgw (fun h => (hs g hg h).elim)]
    exact h3 i hi
theorem NodeJ.set {W w : World} {g N n : Nat} (h : NodeJ W g N n w) (hF : Filled g 137 N W []) {o : Nat} (ho : o < N) (h1 : o % 64 ≠ 1) (h63 : o % 64 ≠ 63) (v : Value) :
    (∃ u, w.cell? ⟨g, o, none⟩ = some u) ∧ w.frozen? ⟨g, o, none⟩ = false ∧ NodeJ W g N n (w.setCell ⟨g, o, none⟩ v) := by
  refine ⟨h.2.1.cell ho, h.2.1.free o, h.1.set hF (.inl rfl) _ _ _, h.2.1.set _ _ _ _, fun i hi => ?_⟩
  have e1 : (⟨g, o, none⟩ : Addr) ≠ ⟨g, i * 64 + 1, none⟩ := by
    intro e; simp only [Addr.mk.injEq, true_and, and_true] at e; omega
  have e2 : (⟨g, o, none⟩ : Addr) ≠ ⟨g, i * 64 + 63, none⟩ := by
    intro e; simp only [Addr.mk.injEq, true_and, and_true] at e; omega
  rw [World.cell?_setCell_other w _ _ _ e1, World.cell?_setCell_other w _ _ _ e2]
  exact h.2.2 i hi

set_option maxRecDepth 100000 in
set_option maxHeartbeats 8000000 in
theorem markNodeS_any (n c : Nat) (a : Option Addr) (R : Nat → Prop) (w : World) (q0 : Int) (hq0 : 1 ≤ q0) (hq1 : q0 ≤ 100000000000000) (hn : n ≤ 1048576) (h : NodeWr R w a n) :
    Calls Try.prog 105 #[.slice a n c, .int .i64 q0] w fun e w' => ∃ q : Int, e = .returned (.int .i64 q) ∧ q0 ≤ q ∧ q ≤ q0 + n * 6000000 ∧ Mod R w w' ∧ KeepB (fun t => t = 137 ∨ t = 3 ∨ t = 208) w w' := by
  by_cases h0 : n = 0
  · subst h0
    refine calls_sx Try.func105 rfl rfl (fun a h1 h2 h3 => ((Fr.nil h1 h2).arg (h3 1 _ rfl)).arg (h3 0 _ rfl)) ?_
    repeat (first | refine SX.seq ?_ | refine SXl.nil ?_ | refine SX.region ?_ | refine SQ.thenNormal ?_ | refine SX.block ?_ | refine SX.skip ?_ | refine SX.condT rfl ?_ | refine SX.condF rfl ?_ | (refine l_load ?_; (first | refine SXl.v (OpW.load 0 rfl rfl rfl) rfl ?_ ?_ ?_ | refine SXl.v (OpW.load 1 rfl rfl rfl) rfl ?_ ?_ ?_ | refine SXl.v (OpW.load 2 rfl rfl rfl) rfl ?_ ?_ ?_ | refine SXl.v (OpW.load 3 rfl rfl rfl) rfl ?_ ?_ ?_ | refine SXl.v (OpW.loadOld rfl (by assumption) (fun h => h)) rfl ?_ ?_ ?_); rfl; rfl) | (refine l_fieldAddr ?_; (first | refine SXl.v (OpW.fieldAddr rfl) rfl ?_ ?_ ?_); rfl; rfl) | (refine l_move ?_; (first | refine SXl.v (OpW.move rfl) rfl ?_ ?_ ?_); rfl; rfl) | (refine l_assign ?_; (first | refine SXl.v (OpW.assign rfl) rfl ?_ ?_ ?_); rfl; rfl) | (refine l_len ?_; (first | refine SXl.v (OpW.len rfl) rfl ?_ ?_ ?_); rfl; rfl) | (refine l_add ?_; (first | refine SXl.v (OpW.succ rfl rfl (by omega)) rfl ?_ ?_ ?_ | refine SXl.v (OpW.addi rfl rfl (by omega) (by omega)) rfl ?_ ?_ ?_ | refine SXl.v (OpW.add rfl rfl) rfl ?_ ?_ ?_); rfl; rfl) | (refine l_eql ?_; (first | refine SXl.v (OpW.eqlT rfl rfl (by omega)) rfl ?_ ?_ ?_ | refine SXl.v (OpW.eqlF rfl rfl (by omega)) rfl ?_ ?_ ?_ | refine SXl.v (OpW.eql rfl rfl) rfl ?_ ?_ ?_); rfl; rfl) | (refine l_lss ?_; (first | refine SXl.v (OpW.lssT rfl rfl (by omega)) rfl ?_ ?_ ?_ | refine SXl.v (OpW.lssF rfl rfl (by omega)) rfl ?_ ?_ ?_ | refine SXl.v (OpW.lss rfl rfl) rfl ?_ ?_ ?_); rfl; rfl) | (refine l_rem ?_; (first | refine SXl.v (OpW.rem (by omega) rfl rfl) rfl ?_ ?_ ?_); rfl; rfl) | (refine l_indexAddr ?_; (first | refine SXl.v (OpW.indexAddr1 (by omega) rfl rfl) rfl ?_ ?_ ?_ | refine SXl.v (OpW.indexAddr (by omega) rfl rfl) rfl ?_ ?_ ?_); rfl; rfl) | (refine l_store ?_; first | (refine SXl.store 0 ?_ rfl rfl rfl rfl rfl rfl ?_; rfl; simp only [List.set_cons_zero, List.set_cons_succ]) | (refine SXl.store 1 ?_ rfl rfl rfl rfl rfl rfl ?_; rfl; simp only [List.set_cons_zero, List.set_cons_succ]) | (refine SXl.store 2 ?_ rfl rfl rfl rfl rfl rfl ?_; rfl; simp only [List.set_cons_zero, List.set_cons_succ])) | refine SX.ret ?_ | refine SX.exit ?_ | refine SQ.thenRet ?_ | refine SQ.thenExit ?_ | refine SQ.blockNormal ?_ | refine SQ.blockRet ?_ | refine SQ.blockExit ?_ | refine SQ.blockOther rfl ?_)
    refine SX.loopi (fun k : Nat => k = 0) (fun _ => 0) (fun _ => []) (fun _ => []) (fun _ => []) (fun k => [(0, .slice a 0 c), (1, .int .i64 q0), (5, .int .i64 k)]) 0 rfl ?_ (fun _ hl => hl) ?_
    · (repeat (first | exact subF_nil _ | (refine subF_cons rfl ?_) | (refine subF_consv rfl (by rfl) ?_)))
    · rintro k rfl
      repeat (first | refine SX.seq ?_ | refine SXl.nil ?_ | refine SX.region ?_ | refine SQ.thenNormal ?_ | refine SX.block ?_ | refine SX.skip ?_ | refine SX.condT rfl ?_ | refine SX.condF rfl ?_ | (refine l_load ?_; (first | refine SXl.v (OpW.load 0 rfl rfl rfl) rfl ?_ ?_ ?_ | refine SXl.v (OpW.load 1 rfl rfl rfl) rfl ?_ ?_ ?_ | refine SXl.v (OpW.load 2 rfl rfl rfl) rfl ?_ ?_ ?_ | refine SXl.v (OpW.load 3 rfl rfl rfl) rfl ?_ ?_ ?_ | refine SXl.v (OpW.loadOld rfl (by assumption) (fun h => h)) rfl ?_ ?_ ?_); rfl; rfl) | (refine l_fieldAddr ?_; (first | refine SXl.v (OpW.fieldAddr rfl) rfl ?_ ?_ ?_); rfl; rfl) | (refine l_move ?_; (first | refine SXl.v (OpW.move rfl) rfl ?_ ?_ ?_); rfl; rfl) | (refine l_assign ?_; (first | refine SXl.v (OpW.assign rfl) rfl ?_ ?_ ?_); rfl; rfl) | (refine l_len ?_; (first | refine SXl.v (OpW.len rfl) rfl ?_ ?_ ?_); rfl; rfl) | (refine l_add ?_; (first | refine SXl.v (OpW.succ rfl rfl (by omega)) rfl ?_ ?_ ?_ | refine SXl.v (OpW.addi rfl rfl (by omega) (by omega)) rfl ?_ ?_ ?_ | refine SXl.v (OpW.add rfl rfl) rfl ?_ ?_ ?_); rfl; rfl) | (refine l_eql ?_; (first | refine SXl.v (OpW.eqlT rfl rfl (by omega)) rfl ?_ ?_ ?_ | refine SXl.v (OpW.eqlF rfl rfl (by omega)) rfl ?_ ?_ ?_ | refine SXl.v (OpW.eql rfl rfl) rfl ?_ ?_ ?_); rfl; rfl) | (refine l_lss ?_; (first | refine SXl.v (OpW.lssT rfl rfl (by omega)) rfl ?_ ?_ ?_ | refine SXl.v (OpW.lssF rfl rfl (by omega)) rfl ?_ ?_ ?_ | refine SXl.v (OpW.lss rfl rfl) rfl ?_ ?_ ?_); rfl; rfl) | (refine l_rem ?_; (first | refine SXl.v (OpW.rem (by omega) rfl rfl) rfl ?_ ?_ ?_); rfl; rfl) | (refine l_indexAddr ?_; (first | refine SXl.v (OpW.indexAddr1 (by omega) rfl rfl) rfl ?_ ?_ ?_ | refine SXl.v (OpW.indexAddr (by omega) rfl rfl) rfl ?_ ?_ ?_); rfl; rfl) | (refine l_store ?_; first | (refine SXl.store 0 ?_ rfl rfl rfl rfl rfl rfl ?_; rfl; simp only [List.set_cons_zero, List.set_cons_succ]) | (refine SXl.store 1 ?_ rfl rfl rfl rfl rfl rfl ?_; rfl; simp only [List.set_cons_zero, List.set_cons_succ]) | (refine SXl.store 2 ?_ rfl rfl rfl rfl rfl rfl ?_; rfl; simp only [List.set_cons_zero, List.set_cons_succ])) | refine SX.ret ?_ | refine SX.exit ?_ | refine SQ.thenRet ?_ | refine SQ.thenExit ?_ | refine SQ.blockNormal ?_ | refine SQ.blockRet ?_ | refine SQ.blockExit ?_ | refine SQ.blockOther rfl ?_)
      refine SQ.body1 rfl rfl (fun w' hl => ⟨q0, rfl, by omega, by omega, hl.mod.mono (fun _ _ f => f.elim), KeepB.none hl.mod⟩)
  · obtain ⟨g, N, rfl, hR, hN, hF, hS⟩ := h.resolve_left h0
    have hg := hF.size
    refine calls_sxJ (nodeRg w R g N n hg) ⟨Nat.le_refl _, KeepB.refl _ _, hF, fun _ _ => ⟨rfl, rfl⟩⟩ Try.func105 rfl rfl (fun a h1 h2 h3 => ((Fr.nil h1 h2).arg (h3 1 _ rfl)).arg (h3 0 _ rfl)) ?_
    repeat (first | refine SX.seq ?_ | refine SXl.nil ?_ | refine SX.region ?_ | refine SQ.thenNormal ?_ | refine SX.block ?_ | refine SX.skip ?_ | refine SX.condT rfl ?_ | refine SX.condF rfl ?_ | (refine l_load ?_; (first | refine SXl.v (OpW.load 0 rfl rfl rfl) rfl ?_ ?_ ?_ | refine SXl.v (OpW.load 1 rfl rfl rfl) rfl ?_ ?_ ?_ | refine SXl.v (OpW.load 2 rfl rfl rfl) rfl ?_ ?_ ?_ | refine SXl.v (OpW.load 3 rfl rfl rfl) rfl ?_ ?_ ?_ | refine SXl.v (OpW.loadOld rfl (by assumption) (fun h => h)) rfl ?_ ?_ ?_); rfl; rfl) | (refine l_fieldAddr ?_; (first | refine SXl.v (OpW.fieldAddr rfl) rfl ?_ ?_ ?_); rfl; rfl) | (refine l_move ?_; (first | refine SXl.v (OpW.move rfl) rfl ?_ ?_ ?_); rfl; rfl) | (refine l_assign ?_; (first | refine SXl.v (OpW.assign rfl) rfl ?_ ?_ ?_); rfl; rfl) | (refine l_len ?_; (first | refine SXl.v (OpW.len rfl) rfl ?_ ?_ ?_); rfl; rfl) | (refine l_add ?_; (first | refine SXl.v (OpW.succ rfl rfl (by omega)) rfl ?_ ?_ ?_ | refine SXl.v (OpW.addi rfl rfl (by omega) (by omega)) rfl ?_ ?_ ?_ | refine SXl.v (OpW.add rfl rfl) rfl ?_ ?_ ?_); rfl; rfl) | (refine l_eql ?_; (first | refine SXl.v (OpW.eqlT rfl rfl (by omega)) rfl ?_ ?_ ?_ | refine SXl.v (OpW.eqlF rfl rfl (by omega)) rfl ?_ ?_ ?_ | refine SXl.v (OpW.eql rfl rfl) rfl ?_ ?_ ?_); rfl; rfl) | (refine l_lss ?_; (first | refine SXl.v (OpW.lssT rfl rfl (by omega)) rfl ?_ ?_ ?_ | refine SXl.v (OpW.lssF rfl rfl (by omega)) rfl ?_ ?_ ?_ | refine SXl.v (OpW.lss rfl rfl) rfl ?_ ?_ ?_); rfl; rfl) | (refine l_rem ?_; (first | refine SXl.v (OpW.rem (by omega) rfl rfl) rfl ?_ ?_ ?_); rfl; rfl) | (refine l_indexAddr ?_; (first | refine SXl.v (OpW.indexAddr1 (by omega) rfl rfl) rfl ?_ ?_ ?_ | refine SXl.v (OpW.indexAddr (by omega) rfl rfl) rfl ?_ ?_ ?_); rfl; rfl) | (refine l_store ?_; first | (refine SXl.store 0 ?_ rfl rfl rfl rfl rfl rfl ?_; rfl; simp only [List.set_cons_zero, List.set_cons_succ]) | (refine SXl.store 1 ?_ rfl rfl rfl rfl rfl rfl ?_; rfl; simp only [List.set_cons_zero, List.set_cons_succ]) | (refine SXl.store 2 ?_ rfl rfl rfl rfl rfl rfl ?_; rfl; simp only [List.set_cons_zero, List.set_cons_succ])) | refine SX.ret ?_ | refine SX.exit ?_ | refine SQ.thenRet ?_ | refine SQ.thenExit ?_ | refine SQ.blockNormal ?_ | refine SQ.blockRet ?_ | refine SQ.blockExit ?_ | refine SQ.blockOther rfl ?_)
    refine SX.loop3 (fun (k : Nat) (q : Int) (_ : Unit) => k ≤ n ∧ q0 ≤ q ∧ q ≤ q0 + k * 6000000) (fun k _ _ => n - k) (fun _ _ _ => []) (fun _ _ _ => []) (fun _ _ _ => []) (fun k q _ => [(0, .slice (some ⟨g, 0, none⟩) n c), (1, .int .i64 q), (5, .int .i64 k)]) 0 q0 () ⟨Nat.zero_le _, by omega, by omega⟩ ?_ (fun _ hl => hl) ?_
    · (repeat (first | exact subF_nil _ | (refine subF_cons rfl ?_) | (refine subF_consv rfl (by rfl) ?_)))
    · rintro k q _ ⟨hk, hq2, hq3⟩
      by_cases hlt : k < n
      · obtain ⟨⟨a1, m1, c1, hc1, hm1, hw1⟩, ⟨a2, m2, c2, hc2, hm2, hw2⟩⟩ := hS k hlt
        have hw1' : Wr 3 1 (fun b => R b ∧ b < w.heap.size) w a1 m1 := hw1.weaken fun b hb h => ⟨h, hb⟩
        have hw2' : Wr 208 3 (fun b => R b ∧ b < w.heap.size) w a2 m2 := hw2.weaken fun b hb h => ⟨h, hb⟩
        have hkN : k * 64 + 64 ≤ N := by omega
        have hp : (nodeRg w R g N n hg).p g := ⟨hR, hg⟩
        have hq : ¬ (nodeRg w R g N n hg).q g := fun h => h
        have hJs : ∀ (o : Nat) (v : Value), o < N → o % 64 ≠ 1 → o % 64 ≠ 63 → ∀ w', (nodeRg w R g N n hg).J w' → (∃ u, w'.cell? ⟨g, o, none⟩ = some u) ∧ w'.frozen? ⟨g, o, none⟩ = false ∧ (nodeRg w R g N n hg).J (w'.setCell ⟨g, o, none⟩ v) := fun o v h1 h2 h3 w' hJ => by
          obtain ⟨q1, q2, q3⟩ := hJ.2.set hF h1 h2 h3 v
          exact ⟨q1, q2, by rw [World.size_setCell]; exact hJ.1, q3⟩
        have hJc : ∀ (p : Nat → Prop), (∀ t, p t → t = 3 ∨ t = 208) → ∀ w' w2, (nodeRg w R g N n hg).J w' → Mod (nodeRg w R g N n hg).p w' w2 → KeepB p w' w2 → (nodeRg w R g N n hg).J w2 := fun p hp w' w2 hJ hm hk => by
          have hgs := (hk g _ N hJ.2.2.1).2 (fun h => by rcases hp _ h with h | h <;> exact absurd h (by decide))
          refine ⟨Nat.le_trans hJ.1 hm.size, hJ.2.1.trans (hk.mono fun t ht => .inr (hp t ht)), (hk g _ N hJ.2.2.1).1, fun i hi => ?_⟩
          rw [World.cell?_of_block (a := ⟨g, i * 64 + 1, none⟩) hgs, World.cell?_of_block (a := ⟨g, i * 64 + 63, none⟩) hgs]
          exact hJ.2.2.2 i hi
        repeat (first | refine SX.seq ?_ | refine SXl.nil ?_ | refine SX.region ?_ | refine SQ.thenNormal ?_ | refine SX.block ?_ | refine SX.skip ?_ | refine SX.condT rfl ?_ | refine SX.condF rfl ?_ | (refine l_load ?_; (first | refine SXl.v (OpW.loadJ rfl (fun w' hJ => ((congrArg (fun o => w'.cell? ⟨g, o, none⟩) (by omega)).trans (hJ.2.2.2 k hlt).1).trans hc1)) rfl ?_ ?_ ?_ | refine SXl.v (OpW.loadJ rfl (fun w' hJ => ((congrArg (fun o => w'.cell? ⟨g, o, none⟩) (by omega)).trans (hJ.2.2.2 k hlt).2).trans hc2)) rfl ?_ ?_ ?_ | refine SXl.v (OpW.load 0 rfl rfl rfl) rfl ?_ ?_ ?_ | refine SXl.v (OpW.load 1 rfl rfl rfl) rfl ?_ ?_ ?_ | refine SXl.v (OpW.load 2 rfl rfl rfl) rfl ?_ ?_ ?_ | refine SXl.v (OpW.load 3 rfl rfl rfl) rfl ?_ ?_ ?_ | refine SXl.v (OpW.loadOld rfl (by assumption) (fun h => h)) rfl ?_ ?_ ?_); rfl; rfl) | (refine l_fieldAddr ?_; (first | refine SXl.v (OpW.fieldAddr rfl) rfl ?_ ?_ ?_); rfl; rfl) | (refine l_move ?_; (first | refine SXl.v (OpW.move rfl) rfl ?_ ?_ ?_); rfl; rfl) | (refine l_assign ?_; (first | refine SXl.v (OpW.assign rfl) rfl ?_ ?_ ?_); rfl; rfl) | (refine l_len ?_; (first | refine SXl.v (OpW.len rfl) rfl ?_ ?_ ?_); rfl; rfl) | (refine l_add ?_; (first | refine SXl.v (OpW.succ rfl rfl (by omega)) rfl ?_ ?_ ?_ | refine SXl.v (OpW.addi rfl rfl (by omega) (by omega)) rfl ?_ ?_ ?_ | refine SXl.v (OpW.add rfl rfl) rfl ?_ ?_ ?_); rfl; rfl) | (refine l_eql ?_; (first | refine SXl.v (OpW.eqlT rfl rfl (by omega)) rfl ?_ ?_ ?_ | refine SXl.v (OpW.eqlF rfl rfl (by omega)) rfl ?_ ?_ ?_ | refine SXl.v (OpW.eql rfl rfl) rfl ?_ ?_ ?_); rfl; rfl) | (refine l_lss ?_; (first | refine SXl.v (OpW.lssT rfl rfl (by omega)) rfl ?_ ?_ ?_ | refine SXl.v (OpW.lssF rfl rfl (by omega)) rfl ?_ ?_ ?_ | refine SXl.v (OpW.lss rfl rfl) rfl ?_ ?_ ?_); rfl; rfl) | (refine l_rem ?_; (first | refine SXl.v (OpW.rem (by omega) rfl rfl) rfl ?_ ?_ ?_); rfl; rfl) | (refine l_indexAddr ?_; (first | refine SXl.v (OpW.indexAddr1 (by omega) rfl rfl) rfl ?_ ?_ ?_ | refine SXl.v (OpW.indexAddr (by omega) rfl rfl) rfl ?_ ?_ ?_); rfl; rfl) | (refine l_store ?_; first | (refine SXl.store 0 ?_ rfl rfl rfl rfl rfl rfl ?_; rfl; simp only [List.set_cons_zero, List.set_cons_succ]) | (refine SXl.store 1 ?_ rfl rfl rfl rfl rfl rfl ?_; rfl; simp only [List.set_cons_zero, List.set_cons_succ]) | (refine SXl.store 2 ?_ rfl rfl rfl rfl rfl rfl ?_; rfl; simp only [List.set_cons_zero, List.set_cons_succ])) | (refine l_store ?_; refine SXl.storeJ hp hq rfl rfl rfl rfl (hJs _ _ (by omega) (by omega) (by omega)) ?_) | refine SX.ret ?_ | refine SX.exit ?_ | refine SQ.thenRet ?_ | refine SQ.thenExit ?_ | refine SQ.blockNormal ?_ | refine SQ.blockRet ?_ | refine SQ.blockExit ?_ | refine SQ.blockOther rfl ?_)
        refine l_call ?_
        refine SXl.callJ1 (fun _ h => h) rfl rfl rfl (fun w' hl => (markIntS_wr m1 c1 a1 _ w' _ (by omega) (by omega) hm1 (hw1'.keep hl.inv.2.1)).mono fun e w2 ⟨he, hm, hk⟩ => ⟨he, hm, hJc _ (fun t h => .inl h) w' w2 hl.inv hm hk⟩) ?_
        repeat (first | refine SX.seq ?_ | refine SXl.nil ?_ | refine SX.region ?_ | refine SQ.thenNormal ?_ | refine SX.block ?_ | refine SX.skip ?_ | refine SX.condT rfl ?_ | refine SX.condF rfl ?_ | (refine l_load ?_; (first | refine SXl.v (OpW.loadJ rfl (fun w' hJ => ((congrArg (fun o => w'.cell? ⟨g, o, none⟩) (by omega)).trans (hJ.2.2.2 k hlt).1).trans hc1)) rfl ?_ ?_ ?_ | refine SXl.v (OpW.loadJ rfl (fun w' hJ => ((congrArg (fun o => w'.cell? ⟨g, o, none⟩) (by omega)).trans (hJ.2.2.2 k hlt).2).trans hc2)) rfl ?_ ?_ ?_ | refine SXl.v (OpW.load 0 rfl rfl rfl) rfl ?_ ?_ ?_ | refine SXl.v (OpW.load 1 rfl rfl rfl) rfl ?_ ?_ ?_ | refine SXl.v (OpW.load 2 rfl rfl rfl) rfl ?_ ?_ ?_ | refine SXl.v (OpW.load 3 rfl rfl rfl) rfl ?_ ?_ ?_ | refine SXl.v (OpW.loadOld rfl (by assumption) (fun h => h)) rfl ?_ ?_ ?_); rfl; rfl) | (refine l_fieldAddr ?_; (first | refine SXl.v (OpW.fieldAddr rfl) rfl ?_ ?_ ?_); rfl; rfl) | (refine l_move ?_; (first | refine SXl.v (OpW.move rfl) rfl ?_ ?_ ?_); rfl; rfl) | (refine l_assign ?_; (first | refine SXl.v (OpW.assign rfl) rfl ?_ ?_ ?_); rfl; rfl) | (refine l_len ?_; (first | refine SXl.v (OpW.len rfl) rfl ?_ ?_ ?_); rfl; rfl) | (refine l_add ?_; (first | refine SXl.v (OpW.succ rfl rfl (by omega)) rfl ?_ ?_ ?_ | refine SXl.v (OpW.addi rfl rfl (by omega) (by omega)) rfl ?_ ?_ ?_ | refine SXl.v (OpW.add rfl rfl) rfl ?_ ?_ ?_); rfl; rfl) | (refine l_eql ?_; (first | refine SXl.v (OpW.eqlT rfl rfl (by omega)) rfl ?_ ?_ ?_ | refine SXl.v (OpW.eqlF rfl rfl (by omega)) rfl ?_ ?_ ?_ | refine SXl.v (OpW.eql rfl rfl) rfl ?_ ?_ ?_); rfl; rfl) | (refine l_lss ?_; (first | refine SXl.v (OpW.lssT rfl rfl (by omega)) rfl ?_ ?_ ?_ | refine SXl.v (OpW.lssF rfl rfl (by omega)) rfl ?_ ?_ ?_ | refine SXl.v (OpW.lss rfl rfl) rfl ?_ ?_ ?_); rfl; rfl) | (refine l_rem ?_; (first | refine SXl.v (OpW.rem (by omega) rfl rfl) rfl ?_ ?_ ?_); rfl; rfl) | (refine l_indexAddr ?_; (first | refine SXl.v (OpW.indexAddr1 (by omega) rfl rfl) rfl ?_ ?_ ?_ | refine SXl.v (OpW.indexAddr (by omega) rfl rfl) rfl ?_ ?_ ?_); rfl; rfl) | (refine l_store ?_; first | (refine SXl.store 0 ?_ rfl rfl rfl rfl rfl rfl ?_; rfl; simp only [List.set_cons_zero, List.set_cons_succ]) | (refine SXl.store 1 ?_ rfl rfl rfl rfl rfl rfl ?_; rfl; simp only [List.set_cons_zero, List.set_cons_succ]) | (refine SXl.store 2 ?_ rfl rfl rfl rfl rfl rfl ?_; rfl; simp only [List.set_cons_zero, List.set_cons_succ])) | (refine l_store ?_; refine SXl.storeJ hp hq rfl rfl rfl rfl (hJs _ _ (by omega) (by omega) (by omega)) ?_) | refine SX.ret ?_ | refine SX.exit ?_ | refine SQ.thenRet ?_ | refine SQ.thenExit ?_ | refine SQ.blockNormal ?_ | refine SQ.blockRet ?_ | refine SQ.blockExit ?_ | refine SQ.blockOther rfl ?_)
        refine l_call ?_
        refine SXl.callJ1 (fun _ h => h) rfl rfl rfl (fun w' hl => (markRuleS_wr m2 c2 a2 _ w' _ (by omega) (by omega) hm2 (hw2'.keep hl.inv.2.1)).mono fun e w2 ⟨he, hm, hk⟩ => ⟨he, hm, hJc _ (fun t h => .inr h) w' w2 hl.inv hm hk⟩) ?_
        repeat (first | refine SX.seq ?_ | refine SXl.nil ?_ | refine SX.region ?_ | refine SQ.thenNormal ?_ | refine SX.block ?_ | refine SX.skip ?_ | refine SX.condT rfl ?_ | refine SX.condF rfl ?_ | (refine l_load ?_; (first | refine SXl.v (OpW.loadJ rfl (fun w' hJ => ((congrArg (fun o => w'.cell? ⟨g, o, none⟩) (by omega)).trans (hJ.2.2.2 k hlt).1).trans hc1)) rfl ?_ ?_ ?_ | refine SXl.v (OpW.loadJ rfl (fun w' hJ => ((congrArg (fun o => w'.cell? ⟨g, o, none⟩) (by omega)).trans (hJ.2.2.2 k hlt).2).trans hc2)) rfl ?_ ?_ ?_ | refine SXl.v (OpW.load 0 rfl rfl rfl) rfl ?_ ?_ ?_ | refine SXl.v (OpW.load 1 rfl rfl rfl) rfl ?_ ?_ ?_ | refine SXl.v (OpW.load 2 rfl rfl rfl) rfl ?_ ?_ ?_ | refine SXl.v (OpW.load 3 rfl rfl rfl) rfl ?_ ?_ ?_ | refine SXl.v (OpW.loadOld rfl (by assumption) (fun h => h)) rfl ?_ ?_ ?_); rfl; rfl) | (refine l_fieldAddr ?_; (first | refine SXl.v (OpW.fieldAddr rfl) rfl ?_ ?_ ?_); rfl; rfl) | (refine l_move ?_; (first | refine SXl.v (OpW.move rfl) rfl ?_ ?_ ?_); rfl; rfl) | (refine l_assign ?_; (first | refine SXl.v (OpW.assign rfl) rfl ?_ ?_ ?_); rfl; rfl) | (refine l_len ?_; (first | refine SXl.v (OpW.len rfl) rfl ?_ ?_ ?_); rfl; rfl) | (refine l_add ?_; (first | refine SXl.v (OpW.succ rfl rfl (by omega)) rfl ?_ ?_ ?_ | refine SXl.v (OpW.addi rfl rfl (by omega) (by omega)) rfl ?_ ?_ ?_ | refine SXl.v (OpW.add rfl rfl) rfl ?_ ?_ ?_); rfl; rfl) | (refine l_eql ?_; (first | refine SXl.v (OpW.eqlT rfl rfl (by omega)) rfl ?_ ?_ ?_ | refine SXl.v (OpW.eqlF rfl rfl (by omega)) rfl ?_ ?_ ?_ | refine SXl.v (OpW.eql rfl rfl) rfl ?_ ?_ ?_); rfl; rfl) | (refine l_lss ?_; (first | refine SXl.v (OpW.lssT rfl rfl (by omega)) rfl ?_ ?_ ?_ | refine SXl.v (OpW.lssF rfl rfl (by omega)) rfl ?_ ?_ ?_ | refine SXl.v (OpW.lss rfl rfl) rfl ?_ ?_ ?_); rfl; rfl) | (refine l_rem ?_; (first | refine SXl.v (OpW.rem (by omega) rfl rfl) rfl ?_ ?_ ?_); rfl; rfl) | (refine l_indexAddr ?_; (first | refine SXl.v (OpW.indexAddr1 (by omega) rfl rfl) rfl ?_ ?_ ?_ | refine SXl.v (OpW.indexAddr (by omega) rfl rfl) rfl ?_ ?_ ?_); rfl; rfl) | (refine l_store ?_; first | (refine SXl.store 0 ?_ rfl rfl rfl rfl rfl rfl ?_; rfl; simp only [List.set_cons_zero, List.set_cons_succ]) | (refine SXl.store 1 ?_ rfl rfl rfl rfl rfl rfl ?_; rfl; simp only [List.set_cons_zero, List.set_cons_succ]) | (refine SXl.store 2 ?_ rfl rfl rfl rfl rfl rfl ?_; rfl; simp only [List.set_cons_zero, List.set_cons_succ])) | (refine l_store ?_; refine SXl.storeJ hp hq rfl rfl rfl rfl (hJs _ _ (by omega) (by omega) (by omega)) ?_) | refine SX.ret ?_ | refine SX.exit ?_ | refine SQ.thenRet ?_ | refine SQ.thenExit ?_ | refine SQ.blockNormal ?_ | refine SQ.blockRet ?_ | refine SQ.blockExit ?_ | refine SQ.blockOther rfl ?_)
        refine SQ.round3 (k + 1) ?jq () ⟨by omega, ?ha, ?hb⟩ (by omega) ?hs (fun w hl => hl)
        case hs => (repeat (first | exact subF_nil _ | (refine subF_cons rfl ?_) | (refine subF_consv rfl (by rfl) ?_)))
        case ha => omega
        case hb => omega
      · repeat (first | refine SX.seq ?_ | refine SXl.nil ?_ | refine SX.region ?_ | refine SQ.thenNormal ?_ | refine SX.block ?_ | refine SX.skip ?_ | refine SX.condT rfl ?_ | refine SX.condF rfl ?_ | (refine l_load ?_; (first | refine SXl.v (OpW.load 0 rfl rfl rfl) rfl ?_ ?_ ?_ | refine SXl.v (OpW.load 1 rfl rfl rfl) rfl ?_ ?_ ?_ | refine SXl.v (OpW.load 2 rfl rfl rfl) rfl ?_ ?_ ?_ | refine SXl.v (OpW.load 3 rfl rfl rfl) rfl ?_ ?_ ?_ | refine SXl.v (OpW.loadOld rfl (by assumption) (fun h => h)) rfl ?_ ?_ ?_); rfl; rfl) | (refine l_fieldAddr ?_; (first | refine SXl.v (OpW.fieldAddr rfl) rfl ?_ ?_ ?_); rfl; rfl) | (refine l_move ?_; (first | refine SXl.v (OpW.move rfl) rfl ?_ ?_ ?_); rfl; rfl) | (refine l_assign ?_; (first | refine SXl.v (OpW.assign rfl) rfl ?_ ?_ ?_); rfl; rfl) | (refine l_len ?_; (first | refine SXl.v (OpW.len rfl) rfl ?_ ?_ ?_); rfl; rfl) | (refine l_add ?_; (first | refine SXl.v (OpW.succ rfl rfl (by omega)) rfl ?_ ?_ ?_ | refine SXl.v (OpW.addi rfl rfl (by omega) (by omega)) rfl ?_ ?_ ?_ | refine SXl.v (OpW.add rfl rfl) rfl ?_ ?_ ?_); rfl; rfl) | (refine l_eql ?_; (first | refine SXl.v (OpW.eqlT rfl rfl (by omega)) rfl ?_ ?_ ?_ | refine SXl.v (OpW.eqlF rfl rfl (by omega)) rfl ?_ ?_ ?_ | refine SXl.v (OpW.eql rfl rfl) rfl ?_ ?_ ?_); rfl; rfl) | (refine l_lss ?_; (first | refine SXl.v (OpW.lssT rfl rfl (by omega)) rfl ?_ ?_ ?_ | refine SXl.v (OpW.lssF rfl rfl (by omega)) rfl ?_ ?_ ?_ | refine SXl.v (OpW.lss rfl rfl) rfl ?_ ?_ ?_); rfl; rfl) | (refine l_rem ?_; (first | refine SXl.v (OpW.rem (by omega) rfl rfl) rfl ?_ ?_ ?_); rfl; rfl) | (refine l_indexAddr ?_; (first | refine SXl.v (OpW.indexAddr1 (by omega) rfl rfl) rfl ?_ ?_ ?_ | refine SXl.v (OpW.indexAddr (by omega) rfl rfl) rfl ?_ ?_ ?_); rfl; rfl) | (refine l_store ?_; first | (refine SXl.store 0 ?_ rfl rfl rfl rfl rfl rfl ?_; rfl; simp only [List.set_cons_zero, List.set_cons_succ]) | (refine SXl.store 1 ?_ rfl rfl rfl rfl rfl rfl ?_; rfl; simp only [List.set_cons_zero, List.set_cons_succ]) | (refine SXl.store 2 ?_ rfl rfl rfl rfl rfl rfl ?_; rfl; simp only [List.set_cons_zero, List.set_cons_succ])) | refine SX.ret ?_ | refine SX.exit ?_ | refine SQ.thenRet ?_ | refine SQ.thenExit ?_ | refine SQ.blockNormal ?_ | refine SQ.blockRet ?_ | refine SQ.blockExit ?_ | refine SQ.blockOther rfl ?_)
        refine SQ.body1 rfl rfl (fun w' hl => ?_)
        have hkn : k = n := by omega
        subst hkn
        exact ⟨q, rfl, by omega, by omega, hl.mod.mono (fun _ _ h => h.1), hl.inv.2.1⟩

/-- What marks keep: blocks that may be written stay so; those of no type in P are as they were. -/
def markRg (W : World) (R : Nat → Prop) (P : Nat → Prop) : Rg W where
  p := fun k => R k ∧ k < W.heap.size
  q := fun _ => False
  J := fun w => W.heap.size ≤ w.heap.size ∧ KeepB P W w
  low := fun _ h => h.2
  sub := fun _ h => h.elim
  keep := fun _ _ _ ⟨hz, h1⟩ hm hs => ⟨Nat.le_trans hz hm.size, keepB_far h1 hm (fun k hk h => (hs k hk h).elim) hz⟩
abbrev NodeT (t : Nat) : Prop := t = 137 ∨ t = 3 ∨ t = 208
theorem modlow {R : Nat → Prop} {W w w' : World} (h : Mod (fun k => R k ∧ k < W.heap.size) w w') : Mod R w w' := h.mono fun _ _ h => h.1
theorem NodeWr.low {R : Nat → Prop} {w : World} {a : Option Addr} {n : Nat} (h : NodeWr R w a n) : NodeWr (fun k => R k ∧ k < w.heap.size) w a n := by
  rcases h with h | ⟨g, N, h1, h2, h3, h4, h5⟩
  · exact .inl h
  · refine .inr ⟨g, N, h1, ⟨h2, h4.size⟩, h3, h4, fun i hi => ?_⟩
    obtain ⟨⟨a, m, c, q1, q2, q3⟩, ⟨a', m', c', q4, q5, q6⟩⟩ := h5 i hi
    exact ⟨⟨a, m, c, q1, q2, q3.weaken fun b hb h => ⟨h, hb⟩⟩, a', m', c', q4, q5, q6.weaken fun b hb h => ⟨h, hb⟩⟩
theorem MemoWr.low {R : Nat → Prop} {w : World} {a : Option Addr} {n : Nat} (h : MemoWr R w a n) : MemoWr (fun k => R k ∧ k < w.heap.size) w a n := by
  rcases h with h | ⟨g, N, h1, h2, h3, h4, h5⟩
  · exact .inl h
  · refine .inr ⟨g, N, h1, ⟨h2, h4.size⟩, h3, h4, fun i hi => ?_⟩
    obtain ⟨a, m, c, q1, q2, q3⟩ := h5 i hi
    exact ⟨a, m, c, q1, q2, q3.weaken fun b hb h => ⟨h, hb⟩⟩
theorem Wr.low {e sz : Nat} {R : Nat → Prop} {w : World} {a : Option Addr} {n : Nat} (h : Wr e sz R w a n) : Wr e sz (fun k => R k ∧ k < w.heap.size) w a n := h.weaken fun b hb h => ⟨h, hb⟩

abbrev NoT (_ : Nat) : Prop := False
theorem KeepB.low {R : Nat → Prop} {P : Nat → Prop} {W w : World} (h : (markRg W R P).J w) : KeepB P W w := h.2

set_option maxRecDepth 100000 in
theorem markTree_any (n c : Nat) (a : Option Addr) (R : Nat → Prop) (w : World) (q0 : Int) (hq0 : 1 ≤ q0) (hq1 : q0 ≤ 100000000000000) (hn : n ≤ 1048576) (h : NodeWr R w a n) :
    Calls Try.prog 53 #[.agg #[.slice a n c], .int .i64 q0] w fun e w' => ∃ q : Int, e = .returned (.int .i64 q) ∧ q0 ≤ q ∧ q ≤ q0 + n * 6000000 ∧ Mod R w w' ∧ KeepB NodeT w w' := by
  refine calls_sxJ (markRg w R NoT) ⟨Nat.le_refl _, KeepB.refl _ _⟩ Try.func53 rfl rfl (fun a h1 h2 h3 => ((Fr.nil h1 h2).arg (h3 1 _ rfl)).arg (h3 0 _ rfl)) ?_
  repeat (first | refine SX.seq ?_ | refine SXl.nil ?_ | refine SX.region ?_ | refine SQ.thenNormal ?_ | refine SX.block ?_ | refine SX.skip ?_ | refine SX.condT rfl ?_ | refine SX.condF rfl ?_ | (refine l_load ?_; (first | refine SXl.v (OpW.load 0 rfl rfl rfl) rfl ?_ ?_ ?_ | refine SXl.v (OpW.load 1 rfl rfl rfl) rfl ?_ ?_ ?_ | refine SXl.v (OpW.load 2 rfl rfl rfl) rfl ?_ ?_ ?_ | refine SXl.v (OpW.load 3 rfl rfl rfl) rfl ?_ ?_ ?_ | refine SXl.v (OpW.loadOld rfl (by assumption) (fun h => h)) rfl ?_ ?_ ?_); rfl; rfl) | (refine l_fieldAddr ?_; (first | refine SXl.v (OpW.fieldAddr rfl) rfl ?_ ?_ ?_); rfl; rfl) | (refine l_move ?_; (first | refine SXl.v (OpW.move rfl) rfl ?_ ?_ ?_); rfl; rfl) | (refine l_assign ?_; (first | refine SXl.v (OpW.assign rfl) rfl ?_ ?_ ?_); rfl; rfl) | (refine l_box ?_; refine SXl.box ?_ ?_ rfl rfl (fun g => ?_); rfl; rfl) | refine SX.ret ?_ | refine SX.exit ?_ | refine SQ.thenRet ?_ | refine SQ.thenExit ?_ | refine SQ.blockNormal ?_ | refine SQ.blockRet ?_ | refine SQ.blockExit ?_ | refine SQ.blockOther rfl ?_)
  refine l_call ?_
  refine SXl.callJ2 (ξ := Int) (v := fun q => .int .i64 q) (markRg w R NodeT) (fun _ h => h) (fun _ h => h) rfl rfl rfl (fun q => q0 ≤ q ∧ q ≤ q0 + n * 6000000) (fun w' hl => (markNodeS_any n c a _ w' q0 hq0 hq1 hn (h.low.keep hl.inv.2 (fun f => f))).mono fun e w2 ⟨q, he, h1, h2, hm, hk⟩ => ⟨q, he, ⟨h1, h2⟩, hm, Nat.le_trans hl.inv.1 hm.size, (hl.inv.2.mono (fun _ f => f.elim)).trans hk⟩) ?_
  intro q ⟨h1, h2⟩
  repeat (first | refine SX.seq ?_ | refine SXl.nil ?_ | refine SX.region ?_ | refine SQ.thenNormal ?_ | refine SX.block ?_ | refine SX.skip ?_ | refine SX.condT rfl ?_ | refine SX.condF rfl ?_ | (refine l_load ?_; (first | refine SXl.v (OpW.load 0 rfl rfl rfl) rfl ?_ ?_ ?_ | refine SXl.v (OpW.load 1 rfl rfl rfl) rfl ?_ ?_ ?_ | refine SXl.v (OpW.load 2 rfl rfl rfl) rfl ?_ ?_ ?_ | refine SXl.v (OpW.load 3 rfl rfl rfl) rfl ?_ ?_ ?_ | refine SXl.v (OpW.loadOld rfl (by assumption) (fun h => h)) rfl ?_ ?_ ?_); rfl; rfl) | (refine l_fieldAddr ?_; (first | refine SXl.v (OpW.fieldAddr rfl) rfl ?_ ?_ ?_); rfl; rfl) | (refine l_move ?_; (first | refine SXl.v (OpW.move rfl) rfl ?_ ?_ ?_); rfl; rfl) | (refine l_assign ?_; (first | refine SXl.v (OpW.assign rfl) rfl ?_ ?_ ?_); rfl; rfl) | (refine l_box ?_; refine SXl.box ?_ ?_ rfl rfl (fun g => ?_); rfl; rfl) | refine SX.ret ?_ | refine SX.exit ?_ | refine SQ.thenRet ?_ | refine SQ.thenExit ?_ | refine SQ.blockNormal ?_ | refine SQ.blockRet ?_ | refine SQ.blockExit ?_ | refine SQ.blockOther rfl ?_)
  refine SQ.body1 rfl rfl (fun w' hl => ⟨q, rfl, h1, h2, modlow hl.mod, hl.inv.2⟩)
end Go.Proofs.Ytcolkidnjojlmaa
namespace Go.Proofs.Ytcolkidnjojlmaa
open Go.RowKit

/-- Where a copy of an engine lies. -/
structure EngP where
  ta : Option Addr
  tc : Nat
  ka : Option Addr
  kc : Nat
  kb : Option Addr
  kd : Nat
  fa : Option Addr
  fc : Nat
  lo : Nat
  hi : Nat
end Go.Proofs.Ytcolkidnjojlmaa
namespace Go.Proofs.Ytcolkidnjojlmaa
open Go.RowKit

/-- Ints that bear marks. -/
def markedRes (l : List Int) (q : SlP) : Res where
  foot := fun k => (Value.slice q.a l.length q.c).ownBlock = some k
  says := fun w => l.length = 0 ∨ ∃ g N, q.a = some ⟨g, 0, none⟩ ∧ l.length * 1 ≤ N ∧ Filled g 3 N w (IntM.marks 1 l.length)
  stable := fun S w w' h hm hs => h.imp id fun ⟨g, N, h1, h2, h3⟩ => ⟨g, N, h1, h2, h3.mod hm (hs g (by rw [h1]; rfl))⟩
theorem markInt_own (l : List Int) (q : SlP) (w : World) (hl : l.length ≤ 1048576) (h : (ownRes icell 3 1 l q).says w) :
    Calls Try.prog 43 #[.slice q.a l.length q.c, .int .i64 1] w fun e w' => ∃ _x : Unit, e = .returned (.int .i64 (1 + l.length)) ∧ True ∧ (markedRes l q).says w' ∧ Mod (ownRes icell 3 1 l q).foot w w' := by
  rcases own_filled h with h0 | ⟨g, N, h1, h2, h3, h4⟩
  · refine (markIntS_any l.length q.c q.a w.heap.size 0 w 1 (by omega) (by omega) (by omega) (.inl h0)).mono ?_
    rintro e w' ⟨he, hm, _⟩
    exact ⟨(), he, trivial, .inl h0, hm.mono fun k hk (e : k = w.heap.size) => by omega⟩
  · refine (markIntS_any l.length q.c q.a g N w 1 (by omega) (by omega) (by omega) (.inr ⟨h1, h3, h4⟩)).mono ?_
    rintro e w' ⟨he, hm, hf⟩
    exact ⟨(), he, trivial, hf.imp id fun hf => ⟨g, N, h1, h3, hf⟩, hm.mono fun k _ (e : k = g) => by subst e; show (Value.slice q.a l.length q.c).ownBlock = some k; rw [h1]; rfl⟩
theorem heldInt_own (l : List Int) (q : SlP) (w : World) (hl : l.length ≤ 1048576) (h : (markedRes l q).says w) :
    Calls Try.prog 44 #[.slice q.a l.length q.c, .int .i64 1] w fun e w' => e = .returned (.int .i64 (1 + l.length)) ∧ Mod (fun _ => False) w w' := by
  rcases h with h0 | ⟨g, N, h1, h2, h3⟩
  · exact heldIntS_any l.length q.c q.a 0 0 w 1 (by omega) (by omega) (by omega) (.inl h0)
  · exact heldIntS_any l.length q.c q.a g N w 1 (by omega) (by omega) (by omega) (.inr ⟨h1, h2, h3⟩)
end Go.Proofs.Ytcolkidnjojlmaa
namespace Go.Proofs.Ytcolkidnjojlmaa
open Go.RowKit

def inB (n a b : Int) : Bool := decide (a ≤ n ∧ n ≤ b)
theorem inB_true {n a b : Int} (h1 : a ≤ n) (h2 : n ≤ b) : inB n a b = true := by simp [inB, h1, h2]
theorem inB_low {n a b : Int} (h : n < a) : inB n a b = false := by simp [inB]; omega
theorem inB_high {n a b : Int} (h : b < n) : inB n a b = false := by simp [inB]; omega

theorem in_any (n a b : Int) (w : World) : Calls Try.prog 67 #[.int .i64 n, .int .i64 a, .int .i64 b] w fun e w' => e = .returned (.bool (inB n a b)) ∧ w = w' := by
  by_cases h1 : a ≤ n
  · by_cases h2 : n ≤ b
    · rw [inB_true h1 h2]
      go_enter Try.func67, Try.ntmps67
      go_wp2
      go_ret
      exact ⟨rfl, rfl⟩
    · rw [inB_high (by omega)]
      go_enter Try.func67, Try.ntmps67
      go_wp2
      go_ret
      exact ⟨rfl, rfl⟩
  · rw [inB_low (by omega)]
    go_enter Try.func67, Try.ntmps67
    go_wp2
    go_ret
    exact ⟨rfl, rfl⟩

theorem l01In_any (n a b : Int) (w : World) : Calls Try.prog 63 #[.int .i64 n, .int .i64 a, .int .i64 b] w fun e w' => e = .returned (.bool (inB n a b)) ∧ w = w' := by
  by_cases h1 : a ≤ n
  · by_cases h2 : n ≤ b
    · rw [inB_true h1 h2]
      go_enter Try.func63, Try.ntmps63
      go_wp2
      go_ret
      exact ⟨rfl, rfl⟩
    · rw [inB_high (by omega)]
      go_enter Try.func63, Try.ntmps63
      go_wp2
      go_ret
      exact ⟨rfl, rfl⟩
  · rw [inB_low (by omega)]
    go_enter Try.func63, Try.ntmps63
    go_wp2
    go_ret
    exact ⟨rfl, rfl⟩

end Go.Proofs.Ytcolkidnjojlmaa
namespace Go.Proofs.Ytcolkidnjojlmaa
open Go.RowKit
set_option linter.unusedVariables false
set_option linter.unusedSimpArgs false

def valOk (v : Val) : Bool := if v.kind = 0 ∨ v.kind = 3 then decide (v.n = 0) else if v.kind = 1 then inB v.n (-1048576) 1048576 else if v.kind = 2 then inB v.n (-1000) 1000 else false
def sizeOk (v : Val) : Bool := valOk v && decide (0 ≤ v.n)
def edgesOk (x : Edges) : Bool := inB x.left 0 1048576 && inB x.top 0 1048576 && inB x.right 0 1048576 && inB x.bottom 0 1048576
def sidesOk (x : Sides) : Bool := valOk x.left && valOk x.top && valOk x.right && valOk x.bottom && valOk x.start && valOk x.stop

set_option maxRecDepth 100000 in
set_option maxHeartbeats 4000000 in
theorem valueOk_any (v : Val) (w : World) : Calls Try.prog 188 #[.agg #[.int .i64 v.kind, .int .i64 v.n]] w fun e w' => e = .returned (.bool (valOk v)) ∧ Mod (fun _ => False) w w' := by
  refine calls_sx Try.func188 rfl rfl (fun a h1 h2 h3 => ((Fr.nil h1 h2).arg (h3 0 _ rfl))) ?_
  by_cases k0 : v.kind = 0
  · have hv : valOk v = decide (v.n = 0) := if_pos (.inl k0)
    repeat (first | refine SX.seq ?_ | refine SXl.nil ?_ | refine SX.region ?_ | refine SQ.thenNormal ?_ | refine SX.block ?_ | refine SX.skip ?_ | refine SX.condT rfl ?_ | refine SX.condF rfl ?_ | (refine l_call ?_; (first | refine SXl.v (OpW.calls rfl (fun w _ => in_any _ _ _ _)) rfl ?_ ?_ ?_); rfl; rfl) | (refine l_load ?_; (first | refine SXl.v (OpW.load 0 rfl rfl rfl) rfl ?_ ?_ ?_ | refine SXl.v (OpW.load 1 rfl rfl rfl) rfl ?_ ?_ ?_ | refine SXl.v (OpW.load 2 rfl rfl rfl) rfl ?_ ?_ ?_ | refine SXl.v (OpW.load 3 rfl rfl rfl) rfl ?_ ?_ ?_ | refine SXl.v (OpW.loadOld rfl (by assumption) (fun h => h)) rfl ?_ ?_ ?_); rfl; rfl) | (refine l_fieldAddr ?_; (first | refine SXl.v (OpW.fieldAddr rfl) rfl ?_ ?_ ?_); rfl; rfl) | (refine l_assign ?_; (first | refine SXl.v (OpW.assign rfl) rfl ?_ ?_ ?_); rfl; rfl) | (refine l_eql ?_; (first | refine SXl.v (OpW.eqlT rfl rfl (by omega)) rfl ?_ ?_ ?_ | refine SXl.v (OpW.eqlF rfl rfl (by omega)) rfl ?_ ?_ ?_ | refine SXl.v (OpW.eql rfl rfl) rfl ?_ ?_ ?_); rfl; rfl) | (refine l_box ?_; refine SXl.box ?_ ?_ rfl rfl (fun g => ?_); rfl; rfl) | refine SX.ret ?_ | refine SX.exit ?_ | refine SQ.thenRet ?_ | refine SQ.thenExit ?_ | refine SQ.blockNormal ?_ | refine SQ.blockRet ?_ | refine SQ.blockExit ?_ | refine SQ.blockOther rfl ?_)
    refine SQ.body1 rfl rfl (fun w' hl => ⟨ret_bool hv.symm, hl.mod⟩)
  · by_cases k3 : v.kind = 3
    · have hv : valOk v = decide (v.n = 0) := if_pos (.inr k3)
      repeat (first | refine SX.seq ?_ | refine SXl.nil ?_ | refine SX.region ?_ | refine SQ.thenNormal ?_ | refine SX.block ?_ | refine SX.skip ?_ | refine SX.condT rfl ?_ | refine SX.condF rfl ?_ | (refine l_call ?_; (first | refine SXl.v (OpW.calls rfl (fun w _ => in_any _ _ _ _)) rfl ?_ ?_ ?_); rfl; rfl) | (refine l_load ?_; (first | refine SXl.v (OpW.load 0 rfl rfl rfl) rfl ?_ ?_ ?_ | refine SXl.v (OpW.load 1 rfl rfl rfl) rfl ?_ ?_ ?_ | refine SXl.v (OpW.load 2 rfl rfl rfl) rfl ?_ ?_ ?_ | refine SXl.v (OpW.load 3 rfl rfl rfl) rfl ?_ ?_ ?_ | refine SXl.v (OpW.loadOld rfl (by assumption) (fun h => h)) rfl ?_ ?_ ?_); rfl; rfl) | (refine l_fieldAddr ?_; (first | refine SXl.v (OpW.fieldAddr rfl) rfl ?_ ?_ ?_); rfl; rfl) | (refine l_assign ?_; (first | refine SXl.v (OpW.assign rfl) rfl ?_ ?_ ?_); rfl; rfl) | (refine l_eql ?_; (first | refine SXl.v (OpW.eqlT rfl rfl (by omega)) rfl ?_ ?_ ?_ | refine SXl.v (OpW.eqlF rfl rfl (by omega)) rfl ?_ ?_ ?_ | refine SXl.v (OpW.eql rfl rfl) rfl ?_ ?_ ?_); rfl; rfl) | (refine l_box ?_; refine SXl.box ?_ ?_ rfl rfl (fun g => ?_); rfl; rfl) | refine SX.ret ?_ | refine SX.exit ?_ | refine SQ.thenRet ?_ | refine SQ.thenExit ?_ | refine SQ.blockNormal ?_ | refine SQ.blockRet ?_ | refine SQ.blockExit ?_ | refine SQ.blockOther rfl ?_)
      refine SQ.body1 rfl rfl (fun w' hl => ⟨ret_bool hv.symm, hl.mod⟩)
    · by_cases k1 : v.kind = 1
      · have hv : valOk v = inB v.n (-1048576) 1048576 := (if_neg (by omega)).trans (if_pos k1)
        repeat (first | refine SX.seq ?_ | refine SXl.nil ?_ | refine SX.region ?_ | refine SQ.thenNormal ?_ | refine SX.block ?_ | refine SX.skip ?_ | refine SX.condT rfl ?_ | refine SX.condF rfl ?_ | (refine l_call ?_; (first | refine SXl.v (OpW.calls rfl (fun w _ => in_any _ _ _ _)) rfl ?_ ?_ ?_); rfl; rfl) | (refine l_load ?_; (first | refine SXl.v (OpW.load 0 rfl rfl rfl) rfl ?_ ?_ ?_ | refine SXl.v (OpW.load 1 rfl rfl rfl) rfl ?_ ?_ ?_ | refine SXl.v (OpW.load 2 rfl rfl rfl) rfl ?_ ?_ ?_ | refine SXl.v (OpW.load 3 rfl rfl rfl) rfl ?_ ?_ ?_ | refine SXl.v (OpW.loadOld rfl (by assumption) (fun h => h)) rfl ?_ ?_ ?_); rfl; rfl) | (refine l_fieldAddr ?_; (first | refine SXl.v (OpW.fieldAddr rfl) rfl ?_ ?_ ?_); rfl; rfl) | (refine l_assign ?_; (first | refine SXl.v (OpW.assign rfl) rfl ?_ ?_ ?_); rfl; rfl) | (refine l_eql ?_; (first | refine SXl.v (OpW.eqlT rfl rfl (by omega)) rfl ?_ ?_ ?_ | refine SXl.v (OpW.eqlF rfl rfl (by omega)) rfl ?_ ?_ ?_ | refine SXl.v (OpW.eql rfl rfl) rfl ?_ ?_ ?_); rfl; rfl) | (refine l_box ?_; refine SXl.box ?_ ?_ rfl rfl (fun g => ?_); rfl; rfl) | refine SX.ret ?_ | refine SX.exit ?_ | refine SQ.thenRet ?_ | refine SQ.thenExit ?_ | refine SQ.blockNormal ?_ | refine SQ.blockRet ?_ | refine SQ.blockExit ?_ | refine SQ.blockOther rfl ?_)
        refine SQ.body1 rfl rfl (fun w' hl => ⟨ret_bool hv.symm, hl.mod⟩)
      · by_cases k2 : v.kind = 2
        · have hv : valOk v = inB v.n (-1000) 1000 := (if_neg (by omega)).trans ((if_neg k1).trans (if_pos k2))
          repeat (first | refine SX.seq ?_ | refine SXl.nil ?_ | refine SX.region ?_ | refine SQ.thenNormal ?_ | refine SX.block ?_ | refine SX.skip ?_ | refine SX.condT rfl ?_ | refine SX.condF rfl ?_ | (refine l_call ?_; (first | refine SXl.v (OpW.calls rfl (fun w _ => in_any _ _ _ _)) rfl ?_ ?_ ?_); rfl; rfl) | (refine l_load ?_; (first | refine SXl.v (OpW.load 0 rfl rfl rfl) rfl ?_ ?_ ?_ | refine SXl.v (OpW.load 1 rfl rfl rfl) rfl ?_ ?_ ?_ | refine SXl.v (OpW.load 2 rfl rfl rfl) rfl ?_ ?_ ?_ | refine SXl.v (OpW.load 3 rfl rfl rfl) rfl ?_ ?_ ?_ | refine SXl.v (OpW.loadOld rfl (by assumption) (fun h => h)) rfl ?_ ?_ ?_); rfl; rfl) | (refine l_fieldAddr ?_; (first | refine SXl.v (OpW.fieldAddr rfl) rfl ?_ ?_ ?_); rfl; rfl) | (refine l_assign ?_; (first | refine SXl.v (OpW.assign rfl) rfl ?_ ?_ ?_); rfl; rfl) | (refine l_eql ?_; (first | refine SXl.v (OpW.eqlT rfl rfl (by omega)) rfl ?_ ?_ ?_ | refine SXl.v (OpW.eqlF rfl rfl (by omega)) rfl ?_ ?_ ?_ | refine SXl.v (OpW.eql rfl rfl) rfl ?_ ?_ ?_); rfl; rfl) | (refine l_box ?_; refine SXl.box ?_ ?_ rfl rfl (fun g => ?_); rfl; rfl) | refine SX.ret ?_ | refine SX.exit ?_ | refine SQ.thenRet ?_ | refine SQ.thenExit ?_ | refine SQ.blockNormal ?_ | refine SQ.blockRet ?_ | refine SQ.blockExit ?_ | refine SQ.blockOther rfl ?_)
          refine SQ.body1 rfl rfl (fun w' hl => ⟨ret_bool hv.symm, hl.mod⟩)
        · have hv : valOk v = false := (if_neg (by omega)).trans ((if_neg k1).trans (if_neg k2))
          repeat (first | refine SX.seq ?_ | refine SXl.nil ?_ | refine SX.region ?_ | refine SQ.thenNormal ?_ | refine SX.block ?_ | refine SX.skip ?_ | refine SX.condT rfl ?_ | refine SX.condF rfl ?_ | (refine l_call ?_; (first | refine SXl.v (OpW.calls rfl (fun w _ => in_any _ _ _ _)) rfl ?_ ?_ ?_); rfl; rfl) | (refine l_load ?_; (first | refine SXl.v (OpW.load 0 rfl rfl rfl) rfl ?_ ?_ ?_ | refine SXl.v (OpW.load 1 rfl rfl rfl) rfl ?_ ?_ ?_ | refine SXl.v (OpW.load 2 rfl rfl rfl) rfl ?_ ?_ ?_ | refine SXl.v (OpW.load 3 rfl rfl rfl) rfl ?_ ?_ ?_ | refine SXl.v (OpW.loadOld rfl (by assumption) (fun h => h)) rfl ?_ ?_ ?_); rfl; rfl) | (refine l_fieldAddr ?_; (first | refine SXl.v (OpW.fieldAddr rfl) rfl ?_ ?_ ?_); rfl; rfl) | (refine l_assign ?_; (first | refine SXl.v (OpW.assign rfl) rfl ?_ ?_ ?_); rfl; rfl) | (refine l_eql ?_; (first | refine SXl.v (OpW.eqlT rfl rfl (by omega)) rfl ?_ ?_ ?_ | refine SXl.v (OpW.eqlF rfl rfl (by omega)) rfl ?_ ?_ ?_ | refine SXl.v (OpW.eql rfl rfl) rfl ?_ ?_ ?_); rfl; rfl) | (refine l_box ?_; refine SXl.box ?_ ?_ rfl rfl (fun g => ?_); rfl; rfl) | refine SX.ret ?_ | refine SX.exit ?_ | refine SQ.thenRet ?_ | refine SQ.thenExit ?_ | refine SQ.blockNormal ?_ | refine SQ.blockRet ?_ | refine SQ.blockExit ?_ | refine SQ.blockOther rfl ?_)
          refine SQ.body1 rfl rfl (fun w' hl => ⟨ret_bool hv.symm, hl.mod⟩)

set_option maxRecDepth 100000 in
set_option maxHeartbeats 4000000 in
theorem sizeOk_any (v : Val) (w : World) : Calls Try.prog 168 #[.agg #[.int .i64 v.kind, .int .i64 v.n]] w fun e w' => e = .returned (.bool (sizeOk v)) ∧ Mod (fun _ => False) w w' := by
  refine calls_sx Try.func168 rfl rfl (fun a h1 h2 h3 => ((Fr.nil h1 h2).arg (h3 0 _ rfl))) ?_
  cases q0 : valOk v
  · have hv : sizeOk v = false := by simp [sizeOk, q0]
    repeat (first | refine SX.seq ?_ | refine SXl.nil ?_ | refine SX.region ?_ | refine SQ.thenNormal ?_ | refine SX.block ?_ | refine SX.skip ?_ | refine SX.condT rfl ?_ | refine SX.condF rfl ?_ | (refine SXl.no rfl rfl rfl ?_) | (refine l_call ?_; (first | refine SXl.v (OpW.call rfl (fun w hl => valueOk_any v _)) rfl ?_ ?_ ?_ | refine SXl.v (OpW.call rfl (fun w hl => valueOk_any _ _)) rfl ?_ ?_ ?_); rfl; rfl) | (refine l_load ?_; (first | refine SXl.v (OpW.load 0 rfl rfl rfl) rfl ?_ ?_ ?_ | refine SXl.v (OpW.load 1 rfl rfl rfl) rfl ?_ ?_ ?_ | refine SXl.v (OpW.load 2 rfl rfl rfl) rfl ?_ ?_ ?_ | refine SXl.v (OpW.load 3 rfl rfl rfl) rfl ?_ ?_ ?_ | refine SXl.v (OpW.loadOld rfl (by assumption) (fun h => h)) rfl ?_ ?_ ?_ | refine SXl.v (OpW.loadAll 0 rfl rfl rfl) rfl ?_ ?_ ?_ | refine SXl.v (OpW.loadAll 1 rfl rfl rfl) rfl ?_ ?_ ?_ | refine SXl.v (OpW.loadAll 2 rfl rfl rfl) rfl ?_ ?_ ?_ | refine SXl.v (OpW.loadAll 3 rfl rfl rfl) rfl ?_ ?_ ?_ | refine SXl.v (OpW.loadRow 0 rfl rfl rfl rfl) rfl ?_ ?_ ?_ | refine SXl.v (OpW.loadRow 1 rfl rfl rfl rfl) rfl ?_ ?_ ?_ | refine SXl.v (OpW.loadRow 2 rfl rfl rfl rfl) rfl ?_ ?_ ?_ | refine SXl.v (OpW.loadRow 3 rfl rfl rfl rfl) rfl ?_ ?_ ?_); rfl; rfl) | (refine l_fieldAddr ?_; (first | refine SXl.v (OpW.fieldAddr rfl) rfl ?_ ?_ ?_); rfl; rfl) | (refine l_move ?_; (first | refine SXl.v (OpW.move rfl) rfl ?_ ?_ ?_); rfl; rfl) | (refine l_assign ?_; (first | refine SXl.v (OpW.assign rfl) rfl ?_ ?_ ?_); rfl; rfl) | (refine l_geq ?_; (first | refine SXl.v (OpW.geqT rfl rfl (by omega)) rfl ?_ ?_ ?_ | refine SXl.v (OpW.geqF rfl rfl (by omega)) rfl ?_ ?_ ?_ | refine SXl.v (OpW.geq rfl rfl) rfl ?_ ?_ ?_); rfl; rfl) | (refine l_pick ?_; (first | refine SXl.v (OpW.pick rfl rfl rfl) rfl ?_ ?_ ?_); rfl; rfl) | (refine l_box ?_; refine SXl.box ?_ ?_ rfl rfl (fun g => ?_); rfl; rfl) | (rw [q0]) | refine SX.ret ?_ | refine SX.exit ?_ | refine SQ.thenRet ?_ | refine SQ.thenExit ?_ | refine SQ.blockNormal ?_ | refine SQ.blockRet ?_ | refine SQ.blockExit ?_ | refine SQ.blockOther rfl ?_)
    refine SQ.body1 rfl rfl (fun w' hl => ⟨ret_bool hv.symm, hl.mod⟩)
  · have hv : sizeOk v = decide (0 ≤ v.n) := by simp [sizeOk, q0]
    repeat (first | refine SX.seq ?_ | refine SXl.nil ?_ | refine SX.region ?_ | refine SQ.thenNormal ?_ | refine SX.block ?_ | refine SX.skip ?_ | refine SX.condT rfl ?_ | refine SX.condF rfl ?_ | (refine SXl.no rfl rfl rfl ?_) | (refine l_call ?_; (first | refine SXl.v (OpW.call rfl (fun w hl => valueOk_any v _)) rfl ?_ ?_ ?_ | refine SXl.v (OpW.call rfl (fun w hl => valueOk_any _ _)) rfl ?_ ?_ ?_); rfl; rfl) | (refine l_load ?_; (first | refine SXl.v (OpW.load 0 rfl rfl rfl) rfl ?_ ?_ ?_ | refine SXl.v (OpW.load 1 rfl rfl rfl) rfl ?_ ?_ ?_ | refine SXl.v (OpW.load 2 rfl rfl rfl) rfl ?_ ?_ ?_ | refine SXl.v (OpW.load 3 rfl rfl rfl) rfl ?_ ?_ ?_ | refine SXl.v (OpW.loadOld rfl (by assumption) (fun h => h)) rfl ?_ ?_ ?_ | refine SXl.v (OpW.loadAll 0 rfl rfl rfl) rfl ?_ ?_ ?_ | refine SXl.v (OpW.loadAll 1 rfl rfl rfl) rfl ?_ ?_ ?_ | refine SXl.v (OpW.loadAll 2 rfl rfl rfl) rfl ?_ ?_ ?_ | refine SXl.v (OpW.loadAll 3 rfl rfl rfl) rfl ?_ ?_ ?_ | refine SXl.v (OpW.loadRow 0 rfl rfl rfl rfl) rfl ?_ ?_ ?_ | refine SXl.v (OpW.loadRow 1 rfl rfl rfl rfl) rfl ?_ ?_ ?_ | refine SXl.v (OpW.loadRow 2 rfl rfl rfl rfl) rfl ?_ ?_ ?_ | refine SXl.v (OpW.loadRow 3 rfl rfl rfl rfl) rfl ?_ ?_ ?_); rfl; rfl) | (refine l_fieldAddr ?_; (first | refine SXl.v (OpW.fieldAddr rfl) rfl ?_ ?_ ?_); rfl; rfl) | (refine l_move ?_; (first | refine SXl.v (OpW.move rfl) rfl ?_ ?_ ?_); rfl; rfl) | (refine l_assign ?_; (first | refine SXl.v (OpW.assign rfl) rfl ?_ ?_ ?_); rfl; rfl) | (refine l_geq ?_; (first | refine SXl.v (OpW.geqT rfl rfl (by omega)) rfl ?_ ?_ ?_ | refine SXl.v (OpW.geqF rfl rfl (by omega)) rfl ?_ ?_ ?_ | refine SXl.v (OpW.geq rfl rfl) rfl ?_ ?_ ?_); rfl; rfl) | (refine l_pick ?_; (first | refine SXl.v (OpW.pick rfl rfl rfl) rfl ?_ ?_ ?_); rfl; rfl) | (refine l_box ?_; refine SXl.box ?_ ?_ rfl rfl (fun g => ?_); rfl; rfl) | (rw [q0]) | refine SX.ret ?_ | refine SX.exit ?_ | refine SQ.thenRet ?_ | refine SQ.thenExit ?_ | refine SQ.blockNormal ?_ | refine SQ.blockRet ?_ | refine SQ.blockExit ?_ | refine SQ.blockOther rfl ?_)
    refine SQ.body1 rfl rfl (fun w' hl => ⟨ret_bool hv.symm, hl.mod⟩)

set_option maxRecDepth 100000 in
set_option maxHeartbeats 4000000 in
theorem edgesOk_any (x : Edges) (w : World) : Calls Try.prog 170 #[.agg #[.int .i64 x.left, .int .i64 x.top, .int .i64 x.right, .int .i64 x.bottom]] w fun e w' => e = .returned (.bool (edgesOk x)) ∧ Mod (fun _ => False) w w' := by
  refine calls_sx Try.func170 rfl rfl (fun a h1 h2 h3 => ((Fr.nil h1 h2).arg (h3 0 _ rfl))) ?_
  cases q0 : inB x.left 0 1048576
  · have hv : edgesOk x = false := by simp [edgesOk, q0]
    repeat (first | refine SX.seq ?_ | refine SXl.nil ?_ | refine SX.region ?_ | refine SQ.thenNormal ?_ | refine SX.block ?_ | refine SX.skip ?_ | refine SX.condT rfl ?_ | refine SX.condF rfl ?_ | (refine SXl.no rfl rfl rfl ?_) | (refine l_call ?_; (first | refine SXl.v (OpW.calls rfl (fun w _ => in_any _ _ _ _)) rfl ?_ ?_ ?_); rfl; rfl) | (refine l_load ?_; (first | refine SXl.v (OpW.load 0 rfl rfl rfl) rfl ?_ ?_ ?_ | refine SXl.v (OpW.load 1 rfl rfl rfl) rfl ?_ ?_ ?_ | refine SXl.v (OpW.load 2 rfl rfl rfl) rfl ?_ ?_ ?_ | refine SXl.v (OpW.load 3 rfl rfl rfl) rfl ?_ ?_ ?_ | refine SXl.v (OpW.loadOld rfl (by assumption) (fun h => h)) rfl ?_ ?_ ?_); rfl; rfl) | (refine l_fieldAddr ?_; (first | refine SXl.v (OpW.fieldAddr rfl) rfl ?_ ?_ ?_); rfl; rfl) | (refine l_move ?_; (first | refine SXl.v (OpW.move rfl) rfl ?_ ?_ ?_); rfl; rfl) | (refine l_assign ?_; (first | refine SXl.v (OpW.assign rfl) rfl ?_ ?_ ?_); rfl; rfl) | (refine l_pick ?_; (first | refine SXl.v (OpW.pick rfl rfl rfl) rfl ?_ ?_ ?_); rfl; rfl) | (refine l_box ?_; refine SXl.box ?_ ?_ rfl rfl (fun g => ?_); rfl; rfl) | (rw [q0]) | refine SX.ret ?_ | refine SX.exit ?_ | refine SQ.thenRet ?_ | refine SQ.thenExit ?_ | refine SQ.blockNormal ?_ | refine SQ.blockRet ?_ | refine SQ.blockExit ?_ | refine SQ.blockOther rfl ?_)
    refine SQ.body1 rfl rfl (fun w' hl => ⟨ret_bool hv.symm, hl.mod⟩)
  cases q1 : inB x.top 0 1048576
  · have hv : edgesOk x = false := by simp [edgesOk, q0, q1]
    repeat (first | refine SX.seq ?_ | refine SXl.nil ?_ | refine SX.region ?_ | refine SQ.thenNormal ?_ | refine SX.block ?_ | refine SX.skip ?_ | refine SX.condT rfl ?_ | refine SX.condF rfl ?_ | (refine SXl.no rfl rfl rfl ?_) | (refine l_call ?_; (first | refine SXl.v (OpW.calls rfl (fun w _ => in_any _ _ _ _)) rfl ?_ ?_ ?_); rfl; rfl) | (refine l_load ?_; (first | refine SXl.v (OpW.load 0 rfl rfl rfl) rfl ?_ ?_ ?_ | refine SXl.v (OpW.load 1 rfl rfl rfl) rfl ?_ ?_ ?_ | refine SXl.v (OpW.load 2 rfl rfl rfl) rfl ?_ ?_ ?_ | refine SXl.v (OpW.load 3 rfl rfl rfl) rfl ?_ ?_ ?_ | refine SXl.v (OpW.loadOld rfl (by assumption) (fun h => h)) rfl ?_ ?_ ?_); rfl; rfl) | (refine l_fieldAddr ?_; (first | refine SXl.v (OpW.fieldAddr rfl) rfl ?_ ?_ ?_); rfl; rfl) | (refine l_move ?_; (first | refine SXl.v (OpW.move rfl) rfl ?_ ?_ ?_); rfl; rfl) | (refine l_assign ?_; (first | refine SXl.v (OpW.assign rfl) rfl ?_ ?_ ?_); rfl; rfl) | (refine l_pick ?_; (first | refine SXl.v (OpW.pick rfl rfl rfl) rfl ?_ ?_ ?_); rfl; rfl) | (refine l_box ?_; refine SXl.box ?_ ?_ rfl rfl (fun g => ?_); rfl; rfl) | ((first | rw [q0] | rw [q1])) | refine SX.ret ?_ | refine SX.exit ?_ | refine SQ.thenRet ?_ | refine SQ.thenExit ?_ | refine SQ.blockNormal ?_ | refine SQ.blockRet ?_ | refine SQ.blockExit ?_ | refine SQ.blockOther rfl ?_)
    refine SQ.body1 rfl rfl (fun w' hl => ⟨ret_bool hv.symm, hl.mod⟩)
  cases q2 : inB x.right 0 1048576
  · have hv : edgesOk x = false := by simp [edgesOk, q0, q1, q2]
    repeat (first | refine SX.seq ?_ | refine SXl.nil ?_ | refine SX.region ?_ | refine SQ.thenNormal ?_ | refine SX.block ?_ | refine SX.skip ?_ | refine SX.condT rfl ?_ | refine SX.condF rfl ?_ | (refine SXl.no rfl rfl rfl ?_) | (refine l_call ?_; (first | refine SXl.v (OpW.calls rfl (fun w _ => in_any _ _ _ _)) rfl ?_ ?_ ?_); rfl; rfl) | (refine l_load ?_; (first | refine SXl.v (OpW.load 0 rfl rfl rfl) rfl ?_ ?_ ?_ | refine SXl.v (OpW.load 1 rfl rfl rfl) rfl ?_ ?_ ?_ | refine SXl.v (OpW.load 2 rfl rfl rfl) rfl ?_ ?_ ?_ | refine SXl.v (OpW.load 3 rfl rfl rfl) rfl ?_ ?_ ?_ | refine SXl.v (OpW.loadOld rfl (by assumption) (fun h => h)) rfl ?_ ?_ ?_); rfl; rfl) | (refine l_fieldAddr ?_; (first | refine SXl.v (OpW.fieldAddr rfl) rfl ?_ ?_ ?_); rfl; rfl) | (refine l_move ?_; (first | refine SXl.v (OpW.move rfl) rfl ?_ ?_ ?_); rfl; rfl) | (refine l_assign ?_; (first | refine SXl.v (OpW.assign rfl) rfl ?_ ?_ ?_); rfl; rfl) | (refine l_pick ?_; (first | refine SXl.v (OpW.pick rfl rfl rfl) rfl ?_ ?_ ?_); rfl; rfl) | (refine l_box ?_; refine SXl.box ?_ ?_ rfl rfl (fun g => ?_); rfl; rfl) | ((first | rw [q0] | rw [q1] | rw [q2])) | refine SX.ret ?_ | refine SX.exit ?_ | refine SQ.thenRet ?_ | refine SQ.thenExit ?_ | refine SQ.blockNormal ?_ | refine SQ.blockRet ?_ | refine SQ.blockExit ?_ | refine SQ.blockOther rfl ?_)
    refine SQ.body1 rfl rfl (fun w' hl => ⟨ret_bool hv.symm, hl.mod⟩)
  cases q3 : inB x.bottom 0 1048576
  · have hv : edgesOk x = false := by simp [edgesOk, q0, q1, q2, q3]
    repeat (first | refine SX.seq ?_ | refine SXl.nil ?_ | refine SX.region ?_ | refine SQ.thenNormal ?_ | refine SX.block ?_ | refine SX.skip ?_ | refine SX.condT rfl ?_ | refine SX.condF rfl ?_ | (refine SXl.no rfl rfl rfl ?_) | (refine l_call ?_; (first | refine SXl.v (OpW.calls rfl (fun w _ => in_any _ _ _ _)) rfl ?_ ?_ ?_); rfl; rfl) | (refine l_load ?_; (first | refine SXl.v (OpW.load 0 rfl rfl rfl) rfl ?_ ?_ ?_ | refine SXl.v (OpW.load 1 rfl rfl rfl) rfl ?_ ?_ ?_ | refine SXl.v (OpW.load 2 rfl rfl rfl) rfl ?_ ?_ ?_ | refine SXl.v (OpW.load 3 rfl rfl rfl) rfl ?_ ?_ ?_ | refine SXl.v (OpW.loadOld rfl (by assumption) (fun h => h)) rfl ?_ ?_ ?_); rfl; rfl) | (refine l_fieldAddr ?_; (first | refine SXl.v (OpW.fieldAddr rfl) rfl ?_ ?_ ?_); rfl; rfl) | (refine l_move ?_; (first | refine SXl.v (OpW.move rfl) rfl ?_ ?_ ?_); rfl; rfl) | (refine l_assign ?_; (first | refine SXl.v (OpW.assign rfl) rfl ?_ ?_ ?_); rfl; rfl) | (refine l_pick ?_; (first | refine SXl.v (OpW.pick rfl rfl rfl) rfl ?_ ?_ ?_); rfl; rfl) | (refine l_box ?_; refine SXl.box ?_ ?_ rfl rfl (fun g => ?_); rfl; rfl) | ((first | rw [q0] | rw [q1] | rw [q2] | rw [q3])) | refine SX.ret ?_ | refine SX.exit ?_ | refine SQ.thenRet ?_ | refine SQ.thenExit ?_ | refine SQ.blockNormal ?_ | refine SQ.blockRet ?_ | refine SQ.blockExit ?_ | refine SQ.blockOther rfl ?_)
    refine SQ.body1 rfl rfl (fun w' hl => ⟨ret_bool hv.symm, hl.mod⟩)
  have hv : edgesOk x = true := by simp [edgesOk, q0, q1, q2, q3]
  repeat (first | refine SX.seq ?_ | refine SXl.nil ?_ | refine SX.region ?_ | refine SQ.thenNormal ?_ | refine SX.block ?_ | refine SX.skip ?_ | refine SX.condT rfl ?_ | refine SX.condF rfl ?_ | (refine SXl.no rfl rfl rfl ?_) | (refine l_call ?_; (first | refine SXl.v (OpW.calls rfl (fun w _ => in_any _ _ _ _)) rfl ?_ ?_ ?_); rfl; rfl) | (refine l_load ?_; (first | refine SXl.v (OpW.load 0 rfl rfl rfl) rfl ?_ ?_ ?_ | refine SXl.v (OpW.load 1 rfl rfl rfl) rfl ?_ ?_ ?_ | refine SXl.v (OpW.load 2 rfl rfl rfl) rfl ?_ ?_ ?_ | refine SXl.v (OpW.load 3 rfl rfl rfl) rfl ?_ ?_ ?_ | refine SXl.v (OpW.loadOld rfl (by assumption) (fun h => h)) rfl ?_ ?_ ?_); rfl; rfl) | (refine l_fieldAddr ?_; (first | refine SXl.v (OpW.fieldAddr rfl) rfl ?_ ?_ ?_); rfl; rfl) | (refine l_move ?_; (first | refine SXl.v (OpW.move rfl) rfl ?_ ?_ ?_); rfl; rfl) | (refine l_assign ?_; (first | refine SXl.v (OpW.assign rfl) rfl ?_ ?_ ?_); rfl; rfl) | (refine l_pick ?_; (first | refine SXl.v (OpW.pick rfl rfl rfl) rfl ?_ ?_ ?_); rfl; rfl) | (refine l_box ?_; refine SXl.box ?_ ?_ rfl rfl (fun g => ?_); rfl; rfl) | ((first | rw [q0] | rw [q1] | rw [q2] | rw [q3])) | refine SX.ret ?_ | refine SX.exit ?_ | refine SQ.thenRet ?_ | refine SQ.thenExit ?_ | refine SQ.blockNormal ?_ | refine SQ.blockRet ?_ | refine SQ.blockExit ?_ | refine SQ.blockOther rfl ?_)
  refine SQ.body1 rfl rfl (fun w' hl => ⟨ret_bool hv.symm, hl.mod⟩)

set_option maxRecDepth 100000 in
set_option maxHeartbeats 4000000 in
theorem sidesOk_any (x : Sides) (w : World) : Calls Try.prog 169 #[.agg #[.int .i64 x.left.kind, .int .i64 x.left.n, .int .i64 x.top.kind, .int .i64 x.top.n, .int .i64 x.right.kind, .int .i64 x.right.n, .int .i64 x.bottom.kind, .int .i64 x.bottom.n, .int .i64 x.start.kind, .int .i64 x.start.n, .int .i64 x.stop.kind, .int .i64 x.stop.n]] w fun e w' => e = .returned (.bool (sidesOk x)) ∧ Mod (fun _ => False) w w' := by
  refine calls_sx Try.func169 rfl rfl (fun a h1 h2 h3 => ((Fr.nil h1 h2).arg (h3 0 _ rfl))) ?_
  cases q0 : valOk x.left
  · have hv : sidesOk x = false := by simp [sidesOk, q0]
    repeat (first | refine SX.seq ?_ | refine SXl.nil ?_ | refine SX.region ?_ | refine SQ.thenNormal ?_ | refine SX.block ?_ | refine SX.skip ?_ | refine SX.condT rfl ?_ | refine SX.condF rfl ?_ | (refine SXl.no rfl rfl rfl ?_) | (refine l_call ?_; (first | refine SXl.v (OpW.call rfl (fun w hl => valueOk_any _ _)) rfl ?_ ?_ ?_); rfl; rfl) | (refine l_load ?_; (first | refine SXl.v (OpW.loadAll 0 rfl rfl rfl) rfl ?_ ?_ ?_ | refine SXl.v (OpW.loadAll 1 rfl rfl rfl) rfl ?_ ?_ ?_ | refine SXl.v (OpW.loadAll 2 rfl rfl rfl) rfl ?_ ?_ ?_ | refine SXl.v (OpW.loadAll 3 rfl rfl rfl) rfl ?_ ?_ ?_ | refine SXl.v (OpW.loadRow 0 rfl rfl rfl rfl) rfl ?_ ?_ ?_ | refine SXl.v (OpW.loadRow 1 rfl rfl rfl rfl) rfl ?_ ?_ ?_ | refine SXl.v (OpW.loadRow 2 rfl rfl rfl rfl) rfl ?_ ?_ ?_ | refine SXl.v (OpW.loadRow 3 rfl rfl rfl rfl) rfl ?_ ?_ ?_); rfl; rfl) | (refine l_fieldAddr ?_; (first | refine SXl.v (OpW.fieldAddr rfl) rfl ?_ ?_ ?_); rfl; rfl) | (refine l_move ?_; (first | refine SXl.v (OpW.move rfl) rfl ?_ ?_ ?_); rfl; rfl) | (refine l_assign ?_; (first | refine SXl.v (OpW.assign rfl) rfl ?_ ?_ ?_); rfl; rfl) | (refine l_pick ?_; (first | refine SXl.v (OpW.pick rfl rfl rfl) rfl ?_ ?_ ?_); rfl; rfl) | (refine l_box ?_; refine SXl.box ?_ ?_ rfl rfl (fun g => ?_); rfl; rfl) | (rw [q0]) | refine SX.ret ?_ | refine SX.exit ?_ | refine SQ.thenRet ?_ | refine SQ.thenExit ?_ | refine SQ.blockNormal ?_ | refine SQ.blockRet ?_ | refine SQ.blockExit ?_ | refine SQ.blockOther rfl ?_)
    refine SQ.body1 rfl rfl (fun w' hl => ⟨ret_bool hv.symm, hl.mod⟩)
  cases q1 : valOk x.top
  · have hv : sidesOk x = false := by simp [sidesOk, q0, q1]
    repeat (first | refine SX.seq ?_ | refine SXl.nil ?_ | refine SX.region ?_ | refine SQ.thenNormal ?_ | refine SX.block ?_ | refine SX.skip ?_ | refine SX.condT rfl ?_ | refine SX.condF rfl ?_ | (refine SXl.no rfl rfl rfl ?_) | (refine l_call ?_; (first | refine SXl.v (OpW.call rfl (fun w hl => valueOk_any _ _)) rfl ?_ ?_ ?_); rfl; rfl) | (refine l_load ?_; (first | refine SXl.v (OpW.loadAll 0 rfl rfl rfl) rfl ?_ ?_ ?_ | refine SXl.v (OpW.loadAll 1 rfl rfl rfl) rfl ?_ ?_ ?_ | refine SXl.v (OpW.loadAll 2 rfl rfl rfl) rfl ?_ ?_ ?_ | refine SXl.v (OpW.loadAll 3 rfl rfl rfl) rfl ?_ ?_ ?_ | refine SXl.v (OpW.loadRow 0 rfl rfl rfl rfl) rfl ?_ ?_ ?_ | refine SXl.v (OpW.loadRow 1 rfl rfl rfl rfl) rfl ?_ ?_ ?_ | refine SXl.v (OpW.loadRow 2 rfl rfl rfl rfl) rfl ?_ ?_ ?_ | refine SXl.v (OpW.loadRow 3 rfl rfl rfl rfl) rfl ?_ ?_ ?_); rfl; rfl) | (refine l_fieldAddr ?_; (first | refine SXl.v (OpW.fieldAddr rfl) rfl ?_ ?_ ?_); rfl; rfl) | (refine l_move ?_; (first | refine SXl.v (OpW.move rfl) rfl ?_ ?_ ?_); rfl; rfl) | (refine l_assign ?_; (first | refine SXl.v (OpW.assign rfl) rfl ?_ ?_ ?_); rfl; rfl) | (refine l_pick ?_; (first | refine SXl.v (OpW.pick rfl rfl rfl) rfl ?_ ?_ ?_); rfl; rfl) | (refine l_box ?_; refine SXl.box ?_ ?_ rfl rfl (fun g => ?_); rfl; rfl) | ((first | rw [q0] | rw [q1])) | refine SX.ret ?_ | refine SX.exit ?_ | refine SQ.thenRet ?_ | refine SQ.thenExit ?_ | refine SQ.blockNormal ?_ | refine SQ.blockRet ?_ | refine SQ.blockExit ?_ | refine SQ.blockOther rfl ?_)
    refine SQ.body1 rfl rfl (fun w' hl => ⟨ret_bool hv.symm, hl.mod⟩)
  cases q2 : valOk x.right
  · have hv : sidesOk x = false := by simp [sidesOk, q0, q1, q2]
    repeat (first | refine SX.seq ?_ | refine SXl.nil ?_ | refine SX.region ?_ | refine SQ.thenNormal ?_ | refine SX.block ?_ | refine SX.skip ?_ | refine SX.condT rfl ?_ | refine SX.condF rfl ?_ | (refine SXl.no rfl rfl rfl ?_) | (refine l_call ?_; (first | refine SXl.v (OpW.call rfl (fun w hl => valueOk_any _ _)) rfl ?_ ?_ ?_); rfl; rfl) | (refine l_load ?_; (first | refine SXl.v (OpW.loadAll 0 rfl rfl rfl) rfl ?_ ?_ ?_ | refine SXl.v (OpW.loadAll 1 rfl rfl rfl) rfl ?_ ?_ ?_ | refine SXl.v (OpW.loadAll 2 rfl rfl rfl) rfl ?_ ?_ ?_ | refine SXl.v (OpW.loadAll 3 rfl rfl rfl) rfl ?_ ?_ ?_ | refine SXl.v (OpW.loadRow 0 rfl rfl rfl rfl) rfl ?_ ?_ ?_ | refine SXl.v (OpW.loadRow 1 rfl rfl rfl rfl) rfl ?_ ?_ ?_ | refine SXl.v (OpW.loadRow 2 rfl rfl rfl rfl) rfl ?_ ?_ ?_ | refine SXl.v (OpW.loadRow 3 rfl rfl rfl rfl) rfl ?_ ?_ ?_); rfl; rfl) | (refine l_fieldAddr ?_; (first | refine SXl.v (OpW.fieldAddr rfl) rfl ?_ ?_ ?_); rfl; rfl) | (refine l_move ?_; (first | refine SXl.v (OpW.move rfl) rfl ?_ ?_ ?_); rfl; rfl) | (refine l_assign ?_; (first | refine SXl.v (OpW.assign rfl) rfl ?_ ?_ ?_); rfl; rfl) | (refine l_pick ?_; (first | refine SXl.v (OpW.pick rfl rfl rfl) rfl ?_ ?_ ?_); rfl; rfl) | (refine l_box ?_; refine SXl.box ?_ ?_ rfl rfl (fun g => ?_); rfl; rfl) | ((first | rw [q0] | rw [q1] | rw [q2])) | refine SX.ret ?_ | refine SX.exit ?_ | refine SQ.thenRet ?_ | refine SQ.thenExit ?_ | refine SQ.blockNormal ?_ | refine SQ.blockRet ?_ | refine SQ.blockExit ?_ | refine SQ.blockOther rfl ?_)
    refine SQ.body1 rfl rfl (fun w' hl => ⟨ret_bool hv.symm, hl.mod⟩)
  cases q3 : valOk x.bottom
  · have hv : sidesOk x = false := by simp [sidesOk, q0, q1, q2, q3]
    repeat (first | refine SX.seq ?_ | refine SXl.nil ?_ | refine SX.region ?_ | refine SQ.thenNormal ?_ | refine SX.block ?_ | refine SX.skip ?_ | refine SX.condT rfl ?_ | refine SX.condF rfl ?_ | (refine SXl.no rfl rfl rfl ?_) | (refine l_call ?_; (first | refine SXl.v (OpW.call rfl (fun w hl => valueOk_any _ _)) rfl ?_ ?_ ?_); rfl; rfl) | (refine l_load ?_; (first | refine SXl.v (OpW.loadAll 0 rfl rfl rfl) rfl ?_ ?_ ?_ | refine SXl.v (OpW.loadAll 1 rfl rfl rfl) rfl ?_ ?_ ?_ | refine SXl.v (OpW.loadAll 2 rfl rfl rfl) rfl ?_ ?_ ?_ | refine SXl.v (OpW.loadAll 3 rfl rfl rfl) rfl ?_ ?_ ?_ | refine SXl.v (OpW.loadRow 0 rfl rfl rfl rfl) rfl ?_ ?_ ?_ | refine SXl.v (OpW.loadRow 1 rfl rfl rfl rfl) rfl ?_ ?_ ?_ | refine SXl.v (OpW.loadRow 2 rfl rfl rfl rfl) rfl ?_ ?_ ?_ | refine SXl.v (OpW.loadRow 3 rfl rfl rfl rfl) rfl ?_ ?_ ?_); rfl; rfl) | (refine l_fieldAddr ?_; (first | refine SXl.v (OpW.fieldAddr rfl) rfl ?_ ?_ ?_); rfl; rfl) | (refine l_move ?_; (first | refine SXl.v (OpW.move rfl) rfl ?_ ?_ ?_); rfl; rfl) | (refine l_assign ?_; (first | refine SXl.v (OpW.assign rfl) rfl ?_ ?_ ?_); rfl; rfl) | (refine l_pick ?_; (first | refine SXl.v (OpW.pick rfl rfl rfl) rfl ?_ ?_ ?_); rfl; rfl) | (refine l_box ?_; refine SXl.box ?_ ?_ rfl rfl (fun g => ?_); rfl; rfl) | ((first | rw [q0] | rw [q1] | rw [q2] | rw [q3])) | refine SX.ret ?_ | refine SX.exit ?_ | refine SQ.thenRet ?_ | refine SQ.thenExit ?_ | refine SQ.blockNormal ?_ | refine SQ.blockRet ?_ | refine SQ.blockExit ?_ | refine SQ.blockOther rfl ?_)
    refine SQ.body1 rfl rfl (fun w' hl => ⟨ret_bool hv.symm, hl.mod⟩)
  cases q4 : valOk x.start
  · have hv : sidesOk x = false := by simp [sidesOk, q0, q1, q2, q3, q4]
    repeat (first | refine SX.seq ?_ | refine SXl.nil ?_ | refine SX.region ?_ | refine SQ.thenNormal ?_ | refine SX.block ?_ | refine SX.skip ?_ | refine SX.condT rfl ?_ | refine SX.condF rfl ?_ | (refine SXl.no rfl rfl rfl ?_) | (refine l_call ?_; (first | refine SXl.v (OpW.call rfl (fun w hl => valueOk_any _ _)) rfl ?_ ?_ ?_); rfl; rfl) | (refine l_load ?_; (first | refine SXl.v (OpW.loadAll 0 rfl rfl rfl) rfl ?_ ?_ ?_ | refine SXl.v (OpW.loadAll 1 rfl rfl rfl) rfl ?_ ?_ ?_ | refine SXl.v (OpW.loadAll 2 rfl rfl rfl) rfl ?_ ?_ ?_ | refine SXl.v (OpW.loadAll 3 rfl rfl rfl) rfl ?_ ?_ ?_ | refine SXl.v (OpW.loadRow 0 rfl rfl rfl rfl) rfl ?_ ?_ ?_ | refine SXl.v (OpW.loadRow 1 rfl rfl rfl rfl) rfl ?_ ?_ ?_ | refine SXl.v (OpW.loadRow 2 rfl rfl rfl rfl) rfl ?_ ?_ ?_ | refine SXl.v (OpW.loadRow 3 rfl rfl rfl rfl) rfl ?_ ?_ ?_); rfl; rfl) | (refine l_fieldAddr ?_; (first | refine SXl.v (OpW.fieldAddr rfl) rfl ?_ ?_ ?_); rfl; rfl) | (refine l_move ?_; (first | refine SXl.v (OpW.move rfl) rfl ?_ ?_ ?_); rfl; rfl) | (refine l_assign ?_; (first | refine SXl.v (OpW.assign rfl) rfl ?_ ?_ ?_); rfl; rfl) | (refine l_pick ?_; (first | refine SXl.v (OpW.pick rfl rfl rfl) rfl ?_ ?_ ?_); rfl; rfl) | (refine l_box ?_; refine SXl.box ?_ ?_ rfl rfl (fun g => ?_); rfl; rfl) | ((first | rw [q0] | rw [q1] | rw [q2] | rw [q3] | rw [q4])) | refine SX.ret ?_ | refine SX.exit ?_ | refine SQ.thenRet ?_ | refine SQ.thenExit ?_ | refine SQ.blockNormal ?_ | refine SQ.blockRet ?_ | refine SQ.blockExit ?_ | refine SQ.blockOther rfl ?_)
    refine SQ.body1 rfl rfl (fun w' hl => ⟨ret_bool hv.symm, hl.mod⟩)
  cases q5 : valOk x.stop
  · have hv : sidesOk x = false := by simp [sidesOk, q0, q1, q2, q3, q4, q5]
    repeat (first | refine SX.seq ?_ | refine SXl.nil ?_ | refine SX.region ?_ | refine SQ.thenNormal ?_ | refine SX.block ?_ | refine SX.skip ?_ | refine SX.condT rfl ?_ | refine SX.condF rfl ?_ | (refine SXl.no rfl rfl rfl ?_) | (refine l_call ?_; (first | refine SXl.v (OpW.call rfl (fun w hl => valueOk_any _ _)) rfl ?_ ?_ ?_); rfl; rfl) | (refine l_load ?_; (first | refine SXl.v (OpW.loadAll 0 rfl rfl rfl) rfl ?_ ?_ ?_ | refine SXl.v (OpW.loadAll 1 rfl rfl rfl) rfl ?_ ?_ ?_ | refine SXl.v (OpW.loadAll 2 rfl rfl rfl) rfl ?_ ?_ ?_ | refine SXl.v (OpW.loadAll 3 rfl rfl rfl) rfl ?_ ?_ ?_ | refine SXl.v (OpW.loadRow 0 rfl rfl rfl rfl) rfl ?_ ?_ ?_ | refine SXl.v (OpW.loadRow 1 rfl rfl rfl rfl) rfl ?_ ?_ ?_ | refine SXl.v (OpW.loadRow 2 rfl rfl rfl rfl) rfl ?_ ?_ ?_ | refine SXl.v (OpW.loadRow 3 rfl rfl rfl rfl) rfl ?_ ?_ ?_); rfl; rfl) | (refine l_fieldAddr ?_; (first | refine SXl.v (OpW.fieldAddr rfl) rfl ?_ ?_ ?_); rfl; rfl) | (refine l_move ?_; (first | refine SXl.v (OpW.move rfl) rfl ?_ ?_ ?_); rfl; rfl) | (refine l_assign ?_; (first | refine SXl.v (OpW.assign rfl) rfl ?_ ?_ ?_); rfl; rfl) | (refine l_pick ?_; (first | refine SXl.v (OpW.pick rfl rfl rfl) rfl ?_ ?_ ?_); rfl; rfl) | (refine l_box ?_; refine SXl.box ?_ ?_ rfl rfl (fun g => ?_); rfl; rfl) | ((first | rw [q0] | rw [q1] | rw [q2] | rw [q3] | rw [q4] | rw [q5])) | refine SX.ret ?_ | refine SX.exit ?_ | refine SQ.thenRet ?_ | refine SQ.thenExit ?_ | refine SQ.blockNormal ?_ | refine SQ.blockRet ?_ | refine SQ.blockExit ?_ | refine SQ.blockOther rfl ?_)
    refine SQ.body1 rfl rfl (fun w' hl => ⟨ret_bool hv.symm, hl.mod⟩)
  have hv : sidesOk x = true := by simp [sidesOk, q0, q1, q2, q3, q4, q5]
  repeat (first | refine SX.seq ?_ | refine SXl.nil ?_ | refine SX.region ?_ | refine SQ.thenNormal ?_ | refine SX.block ?_ | refine SX.skip ?_ | refine SX.condT rfl ?_ | refine SX.condF rfl ?_ | (refine SXl.no rfl rfl rfl ?_) | (refine l_call ?_; (first | refine SXl.v (OpW.call rfl (fun w hl => valueOk_any _ _)) rfl ?_ ?_ ?_); rfl; rfl) | (refine l_load ?_; (first | refine SXl.v (OpW.loadAll 0 rfl rfl rfl) rfl ?_ ?_ ?_ | refine SXl.v (OpW.loadAll 1 rfl rfl rfl) rfl ?_ ?_ ?_ | refine SXl.v (OpW.loadAll 2 rfl rfl rfl) rfl ?_ ?_ ?_ | refine SXl.v (OpW.loadAll 3 rfl rfl rfl) rfl ?_ ?_ ?_ | refine SXl.v (OpW.loadRow 0 rfl rfl rfl rfl) rfl ?_ ?_ ?_ | refine SXl.v (OpW.loadRow 1 rfl rfl rfl rfl) rfl ?_ ?_ ?_ | refine SXl.v (OpW.loadRow 2 rfl rfl rfl rfl) rfl ?_ ?_ ?_ | refine SXl.v (OpW.loadRow 3 rfl rfl rfl rfl) rfl ?_ ?_ ?_); rfl; rfl) | (refine l_fieldAddr ?_; (first | refine SXl.v (OpW.fieldAddr rfl) rfl ?_ ?_ ?_); rfl; rfl) | (refine l_move ?_; (first | refine SXl.v (OpW.move rfl) rfl ?_ ?_ ?_); rfl; rfl) | (refine l_assign ?_; (first | refine SXl.v (OpW.assign rfl) rfl ?_ ?_ ?_); rfl; rfl) | (refine l_pick ?_; (first | refine SXl.v (OpW.pick rfl rfl rfl) rfl ?_ ?_ ?_); rfl; rfl) | (refine l_box ?_; refine SXl.box ?_ ?_ rfl rfl (fun g => ?_); rfl; rfl) | ((first | rw [q0] | rw [q1] | rw [q2] | rw [q3] | rw [q4] | rw [q5])) | refine SX.ret ?_ | refine SX.exit ?_ | refine SQ.thenRet ?_ | refine SQ.thenExit ?_ | refine SQ.blockNormal ?_ | refine SQ.blockRet ?_ | refine SQ.blockExit ?_ | refine SQ.blockOther rfl ?_)
  refine SQ.body1 rfl rfl (fun w' hl => ⟨ret_bool hv.symm, hl.mod⟩)

set_option maxRecDepth 100000 in
set_option maxHeartbeats 4000000 in
theorem svalueOk_any (v : Val) (w : World) : Calls Try.prog 183 #[.agg #[.int .i64 v.kind, .int .i64 v.n]] w fun e w' => e = .returned (.bool (valOk v)) ∧ Mod (fun _ => False) w w' := by
  refine calls_sx Try.func183 rfl rfl (fun a h1 h2 h3 => ((Fr.nil h1 h2).arg (h3 0 _ rfl))) ?_
  by_cases k0 : v.kind = 0
  · have hv : valOk v = decide (v.n = 0) := if_pos (.inl k0)
    repeat (first | refine SX.seq ?_ | refine SXl.nil ?_ | refine SX.region ?_ | refine SQ.thenNormal ?_ | refine SX.block ?_ | refine SX.skip ?_ | refine SX.condT rfl ?_ | refine SX.condF rfl ?_ | (refine l_call ?_; (first | refine SXl.v (OpW.calls rfl (fun w _ => l01In_any _ _ _ _)) rfl ?_ ?_ ?_); rfl; rfl) | (refine l_load ?_; (first | refine SXl.v (OpW.load 0 rfl rfl rfl) rfl ?_ ?_ ?_ | refine SXl.v (OpW.load 1 rfl rfl rfl) rfl ?_ ?_ ?_ | refine SXl.v (OpW.load 2 rfl rfl rfl) rfl ?_ ?_ ?_ | refine SXl.v (OpW.load 3 rfl rfl rfl) rfl ?_ ?_ ?_ | refine SXl.v (OpW.loadOld rfl (by assumption) (fun h => h)) rfl ?_ ?_ ?_); rfl; rfl) | (refine l_fieldAddr ?_; (first | refine SXl.v (OpW.fieldAddr rfl) rfl ?_ ?_ ?_); rfl; rfl) | (refine l_assign ?_; (first | refine SXl.v (OpW.assign rfl) rfl ?_ ?_ ?_); rfl; rfl) | (refine l_eql ?_; (first | refine SXl.v (OpW.eqlT rfl rfl (by omega)) rfl ?_ ?_ ?_ | refine SXl.v (OpW.eqlF rfl rfl (by omega)) rfl ?_ ?_ ?_ | refine SXl.v (OpW.eql rfl rfl) rfl ?_ ?_ ?_); rfl; rfl) | (refine l_box ?_; refine SXl.box ?_ ?_ rfl rfl (fun g => ?_); rfl; rfl) | refine SX.ret ?_ | refine SX.exit ?_ | refine SQ.thenRet ?_ | refine SQ.thenExit ?_ | refine SQ.blockNormal ?_ | refine SQ.blockRet ?_ | refine SQ.blockExit ?_ | refine SQ.blockOther rfl ?_)
    refine SQ.body1 rfl rfl (fun w' hl => ⟨ret_bool hv.symm, hl.mod⟩)
  · by_cases k3 : v.kind = 3
    · have hv : valOk v = decide (v.n = 0) := if_pos (.inr k3)
      repeat (first | refine SX.seq ?_ | refine SXl.nil ?_ | refine SX.region ?_ | refine SQ.thenNormal ?_ | refine SX.block ?_ | refine SX.skip ?_ | refine SX.condT rfl ?_ | refine SX.condF rfl ?_ | (refine l_call ?_; (first | refine SXl.v (OpW.calls rfl (fun w _ => l01In_any _ _ _ _)) rfl ?_ ?_ ?_); rfl; rfl) | (refine l_load ?_; (first | refine SXl.v (OpW.load 0 rfl rfl rfl) rfl ?_ ?_ ?_ | refine SXl.v (OpW.load 1 rfl rfl rfl) rfl ?_ ?_ ?_ | refine SXl.v (OpW.load 2 rfl rfl rfl) rfl ?_ ?_ ?_ | refine SXl.v (OpW.load 3 rfl rfl rfl) rfl ?_ ?_ ?_ | refine SXl.v (OpW.loadOld rfl (by assumption) (fun h => h)) rfl ?_ ?_ ?_); rfl; rfl) | (refine l_fieldAddr ?_; (first | refine SXl.v (OpW.fieldAddr rfl) rfl ?_ ?_ ?_); rfl; rfl) | (refine l_assign ?_; (first | refine SXl.v (OpW.assign rfl) rfl ?_ ?_ ?_); rfl; rfl) | (refine l_eql ?_; (first | refine SXl.v (OpW.eqlT rfl rfl (by omega)) rfl ?_ ?_ ?_ | refine SXl.v (OpW.eqlF rfl rfl (by omega)) rfl ?_ ?_ ?_ | refine SXl.v (OpW.eql rfl rfl) rfl ?_ ?_ ?_); rfl; rfl) | (refine l_box ?_; refine SXl.box ?_ ?_ rfl rfl (fun g => ?_); rfl; rfl) | refine SX.ret ?_ | refine SX.exit ?_ | refine SQ.thenRet ?_ | refine SQ.thenExit ?_ | refine SQ.blockNormal ?_ | refine SQ.blockRet ?_ | refine SQ.blockExit ?_ | refine SQ.blockOther rfl ?_)
      refine SQ.body1 rfl rfl (fun w' hl => ⟨ret_bool hv.symm, hl.mod⟩)
    · by_cases k1 : v.kind = 1
      · have hv : valOk v = inB v.n (-1048576) 1048576 := (if_neg (by omega)).trans (if_pos k1)
        repeat (first | refine SX.seq ?_ | refine SXl.nil ?_ | refine SX.region ?_ | refine SQ.thenNormal ?_ | refine SX.block ?_ | refine SX.skip ?_ | refine SX.condT rfl ?_ | refine SX.condF rfl ?_ | (refine l_call ?_; (first | refine SXl.v (OpW.calls rfl (fun w _ => l01In_any _ _ _ _)) rfl ?_ ?_ ?_); rfl; rfl) | (refine l_load ?_; (first | refine SXl.v (OpW.load 0 rfl rfl rfl) rfl ?_ ?_ ?_ | refine SXl.v (OpW.load 1 rfl rfl rfl) rfl ?_ ?_ ?_ | refine SXl.v (OpW.load 2 rfl rfl rfl) rfl ?_ ?_ ?_ | refine SXl.v (OpW.load 3 rfl rfl rfl) rfl ?_ ?_ ?_ | refine SXl.v (OpW.loadOld rfl (by assumption) (fun h => h)) rfl ?_ ?_ ?_); rfl; rfl) | (refine l_fieldAddr ?_; (first | refine SXl.v (OpW.fieldAddr rfl) rfl ?_ ?_ ?_); rfl; rfl) | (refine l_assign ?_; (first | refine SXl.v (OpW.assign rfl) rfl ?_ ?_ ?_); rfl; rfl) | (refine l_eql ?_; (first | refine SXl.v (OpW.eqlT rfl rfl (by omega)) rfl ?_ ?_ ?_ | refine SXl.v (OpW.eqlF rfl rfl (by omega)) rfl ?_ ?_ ?_ | refine SXl.v (OpW.eql rfl rfl) rfl ?_ ?_ ?_); rfl; rfl) | (refine l_box ?_; refine SXl.box ?_ ?_ rfl rfl (fun g => ?_); rfl; rfl) | refine SX.ret ?_ | refine SX.exit ?_ | refine SQ.thenRet ?_ | refine SQ.thenExit ?_ | refine SQ.blockNormal ?_ | refine SQ.blockRet ?_ | refine SQ.blockExit ?_ | refine SQ.blockOther rfl ?_)
        refine SQ.body1 rfl rfl (fun w' hl => ⟨ret_bool hv.symm, hl.mod⟩)
      · by_cases k2 : v.kind = 2
        · have hv : valOk v = inB v.n (-1000) 1000 := (if_neg (by omega)).trans ((if_neg k1).trans (if_pos k2))
          repeat (first | refine SX.seq ?_ | refine SXl.nil ?_ | refine SX.region ?_ | refine SQ.thenNormal ?_ | refine SX.block ?_ | refine SX.skip ?_ | refine SX.condT rfl ?_ | refine SX.condF rfl ?_ | (refine l_call ?_; (first | refine SXl.v (OpW.calls rfl (fun w _ => l01In_any _ _ _ _)) rfl ?_ ?_ ?_); rfl; rfl) | (refine l_load ?_; (first | refine SXl.v (OpW.load 0 rfl rfl rfl) rfl ?_ ?_ ?_ | refine SXl.v (OpW.load 1 rfl rfl rfl) rfl ?_ ?_ ?_ | refine SXl.v (OpW.load 2 rfl rfl rfl) rfl ?_ ?_ ?_ | refine SXl.v (OpW.load 3 rfl rfl rfl) rfl ?_ ?_ ?_ | refine SXl.v (OpW.loadOld rfl (by assumption) (fun h => h)) rfl ?_ ?_ ?_); rfl; rfl) | (refine l_fieldAddr ?_; (first | refine SXl.v (OpW.fieldAddr rfl) rfl ?_ ?_ ?_); rfl; rfl) | (refine l_assign ?_; (first | refine SXl.v (OpW.assign rfl) rfl ?_ ?_ ?_); rfl; rfl) | (refine l_eql ?_; (first | refine SXl.v (OpW.eqlT rfl rfl (by omega)) rfl ?_ ?_ ?_ | refine SXl.v (OpW.eqlF rfl rfl (by omega)) rfl ?_ ?_ ?_ | refine SXl.v (OpW.eql rfl rfl) rfl ?_ ?_ ?_); rfl; rfl) | (refine l_box ?_; refine SXl.box ?_ ?_ rfl rfl (fun g => ?_); rfl; rfl) | refine SX.ret ?_ | refine SX.exit ?_ | refine SQ.thenRet ?_ | refine SQ.thenExit ?_ | refine SQ.blockNormal ?_ | refine SQ.blockRet ?_ | refine SQ.blockExit ?_ | refine SQ.blockOther rfl ?_)
          refine SQ.body1 rfl rfl (fun w' hl => ⟨ret_bool hv.symm, hl.mod⟩)
        · have hv : valOk v = false := (if_neg (by omega)).trans ((if_neg k1).trans (if_neg k2))
          repeat (first | refine SX.seq ?_ | refine SXl.nil ?_ | refine SX.region ?_ | refine SQ.thenNormal ?_ | refine SX.block ?_ | refine SX.skip ?_ | refine SX.condT rfl ?_ | refine SX.condF rfl ?_ | (refine l_call ?_; (first | refine SXl.v (OpW.calls rfl (fun w _ => l01In_any _ _ _ _)) rfl ?_ ?_ ?_); rfl; rfl) | (refine l_load ?_; (first | refine SXl.v (OpW.load 0 rfl rfl rfl) rfl ?_ ?_ ?_ | refine SXl.v (OpW.load 1 rfl rfl rfl) rfl ?_ ?_ ?_ | refine SXl.v (OpW.load 2 rfl rfl rfl) rfl ?_ ?_ ?_ | refine SXl.v (OpW.load 3 rfl rfl rfl) rfl ?_ ?_ ?_ | refine SXl.v (OpW.loadOld rfl (by assumption) (fun h => h)) rfl ?_ ?_ ?_); rfl; rfl) | (refine l_fieldAddr ?_; (first | refine SXl.v (OpW.fieldAddr rfl) rfl ?_ ?_ ?_); rfl; rfl) | (refine l_assign ?_; (first | refine SXl.v (OpW.assign rfl) rfl ?_ ?_ ?_); rfl; rfl) | (refine l_eql ?_; (first | refine SXl.v (OpW.eqlT rfl rfl (by omega)) rfl ?_ ?_ ?_ | refine SXl.v (OpW.eqlF rfl rfl (by omega)) rfl ?_ ?_ ?_ | refine SXl.v (OpW.eql rfl rfl) rfl ?_ ?_ ?_); rfl; rfl) | (refine l_box ?_; refine SXl.box ?_ ?_ rfl rfl (fun g => ?_); rfl; rfl) | refine SX.ret ?_ | refine SX.exit ?_ | refine SQ.thenRet ?_ | refine SQ.thenExit ?_ | refine SQ.blockNormal ?_ | refine SQ.blockRet ?_ | refine SQ.blockExit ?_ | refine SQ.blockOther rfl ?_)
          refine SQ.body1 rfl rfl (fun w' hl => ⟨ret_bool hv.symm, hl.mod⟩)

set_option maxRecDepth 100000 in
set_option maxHeartbeats 4000000 in
theorem ssizeOk_any (v : Val) (w : World) : Calls Try.prog 160 #[.agg #[.int .i64 v.kind, .int .i64 v.n]] w fun e w' => e = .returned (.bool (sizeOk v)) ∧ Mod (fun _ => False) w w' := by
  refine calls_sx Try.func160 rfl rfl (fun a h1 h2 h3 => ((Fr.nil h1 h2).arg (h3 0 _ rfl))) ?_
  cases q0 : valOk v
  · have hv : sizeOk v = false := by simp [sizeOk, q0]
    repeat (first | refine SX.seq ?_ | refine SXl.nil ?_ | refine SX.region ?_ | refine SQ.thenNormal ?_ | refine SX.block ?_ | refine SX.skip ?_ | refine SX.condT rfl ?_ | refine SX.condF rfl ?_ | (refine SXl.no rfl rfl rfl ?_) | (refine l_call ?_; (first | refine SXl.v (OpW.call rfl (fun w hl => svalueOk_any v _)) rfl ?_ ?_ ?_ | refine SXl.v (OpW.call rfl (fun w hl => svalueOk_any _ _)) rfl ?_ ?_ ?_); rfl; rfl) | (refine l_load ?_; (first | refine SXl.v (OpW.load 0 rfl rfl rfl) rfl ?_ ?_ ?_ | refine SXl.v (OpW.load 1 rfl rfl rfl) rfl ?_ ?_ ?_ | refine SXl.v (OpW.load 2 rfl rfl rfl) rfl ?_ ?_ ?_ | refine SXl.v (OpW.load 3 rfl rfl rfl) rfl ?_ ?_ ?_ | refine SXl.v (OpW.loadOld rfl (by assumption) (fun h => h)) rfl ?_ ?_ ?_ | refine SXl.v (OpW.loadAll 0 rfl rfl rfl) rfl ?_ ?_ ?_ | refine SXl.v (OpW.loadAll 1 rfl rfl rfl) rfl ?_ ?_ ?_ | refine SXl.v (OpW.loadAll 2 rfl rfl rfl) rfl ?_ ?_ ?_ | refine SXl.v (OpW.loadAll 3 rfl rfl rfl) rfl ?_ ?_ ?_ | refine SXl.v (OpW.loadRow 0 rfl rfl rfl rfl) rfl ?_ ?_ ?_ | refine SXl.v (OpW.loadRow 1 rfl rfl rfl rfl) rfl ?_ ?_ ?_ | refine SXl.v (OpW.loadRow 2 rfl rfl rfl rfl) rfl ?_ ?_ ?_ | refine SXl.v (OpW.loadRow 3 rfl rfl rfl rfl) rfl ?_ ?_ ?_); rfl; rfl) | (refine l_fieldAddr ?_; (first | refine SXl.v (OpW.fieldAddr rfl) rfl ?_ ?_ ?_); rfl; rfl) | (refine l_move ?_; (first | refine SXl.v (OpW.move rfl) rfl ?_ ?_ ?_); rfl; rfl) | (refine l_assign ?_; (first | refine SXl.v (OpW.assign rfl) rfl ?_ ?_ ?_); rfl; rfl) | (refine l_geq ?_; (first | refine SXl.v (OpW.geqT rfl rfl (by omega)) rfl ?_ ?_ ?_ | refine SXl.v (OpW.geqF rfl rfl (by omega)) rfl ?_ ?_ ?_ | refine SXl.v (OpW.geq rfl rfl) rfl ?_ ?_ ?_); rfl; rfl) | (refine l_pick ?_; (first | refine SXl.v (OpW.pick rfl rfl rfl) rfl ?_ ?_ ?_); rfl; rfl) | (refine l_box ?_; refine SXl.box ?_ ?_ rfl rfl (fun g => ?_); rfl; rfl) | (rw [q0]) | refine SX.ret ?_ | refine SX.exit ?_ | refine SQ.thenRet ?_ | refine SQ.thenExit ?_ | refine SQ.blockNormal ?_ | refine SQ.blockRet ?_ | refine SQ.blockExit ?_ | refine SQ.blockOther rfl ?_)
    refine SQ.body1 rfl rfl (fun w' hl => ⟨ret_bool hv.symm, hl.mod⟩)
  · have hv : sizeOk v = decide (0 ≤ v.n) := by simp [sizeOk, q0]
    repeat (first | refine SX.seq ?_ | refine SXl.nil ?_ | refine SX.region ?_ | refine SQ.thenNormal ?_ | refine SX.block ?_ | refine SX.skip ?_ | refine SX.condT rfl ?_ | refine SX.condF rfl ?_ | (refine SXl.no rfl rfl rfl ?_) | (refine l_call ?_; (first | refine SXl.v (OpW.call rfl (fun w hl => svalueOk_any v _)) rfl ?_ ?_ ?_ | refine SXl.v (OpW.call rfl (fun w hl => svalueOk_any _ _)) rfl ?_ ?_ ?_); rfl; rfl) | (refine l_load ?_; (first | refine SXl.v (OpW.load 0 rfl rfl rfl) rfl ?_ ?_ ?_ | refine SXl.v (OpW.load 1 rfl rfl rfl) rfl ?_ ?_ ?_ | refine SXl.v (OpW.load 2 rfl rfl rfl) rfl ?_ ?_ ?_ | refine SXl.v (OpW.load 3 rfl rfl rfl) rfl ?_ ?_ ?_ | refine SXl.v (OpW.loadOld rfl (by assumption) (fun h => h)) rfl ?_ ?_ ?_ | refine SXl.v (OpW.loadAll 0 rfl rfl rfl) rfl ?_ ?_ ?_ | refine SXl.v (OpW.loadAll 1 rfl rfl rfl) rfl ?_ ?_ ?_ | refine SXl.v (OpW.loadAll 2 rfl rfl rfl) rfl ?_ ?_ ?_ | refine SXl.v (OpW.loadAll 3 rfl rfl rfl) rfl ?_ ?_ ?_ | refine SXl.v (OpW.loadRow 0 rfl rfl rfl rfl) rfl ?_ ?_ ?_ | refine SXl.v (OpW.loadRow 1 rfl rfl rfl rfl) rfl ?_ ?_ ?_ | refine SXl.v (OpW.loadRow 2 rfl rfl rfl rfl) rfl ?_ ?_ ?_ | refine SXl.v (OpW.loadRow 3 rfl rfl rfl rfl) rfl ?_ ?_ ?_); rfl; rfl) | (refine l_fieldAddr ?_; (first | refine SXl.v (OpW.fieldAddr rfl) rfl ?_ ?_ ?_); rfl; rfl) | (refine l_move ?_; (first | refine SXl.v (OpW.move rfl) rfl ?_ ?_ ?_); rfl; rfl) | (refine l_assign ?_; (first | refine SXl.v (OpW.assign rfl) rfl ?_ ?_ ?_); rfl; rfl) | (refine l_geq ?_; (first | refine SXl.v (OpW.geqT rfl rfl (by omega)) rfl ?_ ?_ ?_ | refine SXl.v (OpW.geqF rfl rfl (by omega)) rfl ?_ ?_ ?_ | refine SXl.v (OpW.geq rfl rfl) rfl ?_ ?_ ?_); rfl; rfl) | (refine l_pick ?_; (first | refine SXl.v (OpW.pick rfl rfl rfl) rfl ?_ ?_ ?_); rfl; rfl) | (refine l_box ?_; refine SXl.box ?_ ?_ rfl rfl (fun g => ?_); rfl; rfl) | (rw [q0]) | refine SX.ret ?_ | refine SX.exit ?_ | refine SQ.thenRet ?_ | refine SQ.thenExit ?_ | refine SQ.blockNormal ?_ | refine SQ.blockRet ?_ | refine SQ.blockExit ?_ | refine SQ.blockOther rfl ?_)
    refine SQ.body1 rfl rfl (fun w' hl => ⟨ret_bool hv.symm, hl.mod⟩)

set_option maxRecDepth 100000 in
set_option maxHeartbeats 4000000 in
theorem sedgesOk_any (x : Edges) (w : World) : Calls Try.prog 162 #[.agg #[.int .i64 x.left, .int .i64 x.top, .int .i64 x.right, .int .i64 x.bottom]] w fun e w' => e = .returned (.bool (edgesOk x)) ∧ Mod (fun _ => False) w w' := by
  refine calls_sx Try.func162 rfl rfl (fun a h1 h2 h3 => ((Fr.nil h1 h2).arg (h3 0 _ rfl))) ?_
  cases q0 : inB x.left 0 1048576
  · have hv : edgesOk x = false := by simp [edgesOk, q0]
    repeat (first | refine SX.seq ?_ | refine SXl.nil ?_ | refine SX.region ?_ | refine SQ.thenNormal ?_ | refine SX.block ?_ | refine SX.skip ?_ | refine SX.condT rfl ?_ | refine SX.condF rfl ?_ | (refine SXl.no rfl rfl rfl ?_) | (refine l_call ?_; (first | refine SXl.v (OpW.calls rfl (fun w _ => l01In_any _ _ _ _)) rfl ?_ ?_ ?_); rfl; rfl) | (refine l_load ?_; (first | refine SXl.v (OpW.load 0 rfl rfl rfl) rfl ?_ ?_ ?_ | refine SXl.v (OpW.load 1 rfl rfl rfl) rfl ?_ ?_ ?_ | refine SXl.v (OpW.load 2 rfl rfl rfl) rfl ?_ ?_ ?_ | refine SXl.v (OpW.load 3 rfl rfl rfl) rfl ?_ ?_ ?_ | refine SXl.v (OpW.loadOld rfl (by assumption) (fun h => h)) rfl ?_ ?_ ?_); rfl; rfl) | (refine l_fieldAddr ?_; (first | refine SXl.v (OpW.fieldAddr rfl) rfl ?_ ?_ ?_); rfl; rfl) | (refine l_move ?_; (first | refine SXl.v (OpW.move rfl) rfl ?_ ?_ ?_); rfl; rfl) | (refine l_assign ?_; (first | refine SXl.v (OpW.assign rfl) rfl ?_ ?_ ?_); rfl; rfl) | (refine l_pick ?_; (first | refine SXl.v (OpW.pick rfl rfl rfl) rfl ?_ ?_ ?_); rfl; rfl) | (refine l_box ?_; refine SXl.box ?_ ?_ rfl rfl (fun g => ?_); rfl; rfl) | (rw [q0]) | refine SX.ret ?_ | refine SX.exit ?_ | refine SQ.thenRet ?_ | refine SQ.thenExit ?_ | refine SQ.blockNormal ?_ | refine SQ.blockRet ?_ | refine SQ.blockExit ?_ | refine SQ.blockOther rfl ?_)
    refine SQ.body1 rfl rfl (fun w' hl => ⟨ret_bool hv.symm, hl.mod⟩)
  cases q1 : inB x.top 0 1048576
  · have hv : edgesOk x = false := by simp [edgesOk, q0, q1]
    repeat (first | refine SX.seq ?_ | refine SXl.nil ?_ | refine SX.region ?_ | refine SQ.thenNormal ?_ | refine SX.block ?_ | refine SX.skip ?_ | refine SX.condT rfl ?_ | refine SX.condF rfl ?_ | (refine SXl.no rfl rfl rfl ?_) | (refine l_call ?_; (first | refine SXl.v (OpW.calls rfl (fun w _ => l01In_any _ _ _ _)) rfl ?_ ?_ ?_); rfl; rfl) | (refine l_load ?_; (first | refine SXl.v (OpW.load 0 rfl rfl rfl) rfl ?_ ?_ ?_ | refine SXl.v (OpW.load 1 rfl rfl rfl) rfl ?_ ?_ ?_ | refine SXl.v (OpW.load 2 rfl rfl rfl) rfl ?_ ?_ ?_ | refine SXl.v (OpW.load 3 rfl rfl rfl) rfl ?_ ?_ ?_ | refine SXl.v (OpW.loadOld rfl (by assumption) (fun h => h)) rfl ?_ ?_ ?_); rfl; rfl) | (refine l_fieldAddr ?_; (first | refine SXl.v (OpW.fieldAddr rfl) rfl ?_ ?_ ?_); rfl; rfl) | (refine l_move ?_; (first | refine SXl.v (OpW.move rfl) rfl ?_ ?_ ?_); rfl; rfl) | (refine l_assign ?_; (first | refine SXl.v (OpW.assign rfl) rfl ?_ ?_ ?_); rfl; rfl) | (refine l_pick ?_; (first | refine SXl.v (OpW.pick rfl rfl rfl) rfl ?_ ?_ ?_); rfl; rfl) | (refine l_box ?_; refine SXl.box ?_ ?_ rfl rfl (fun g => ?_); rfl; rfl) | ((first | rw [q0] | rw [q1])) | refine SX.ret ?_ | refine SX.exit ?_ | refine SQ.thenRet ?_ | refine SQ.thenExit ?_ | refine SQ.blockNormal ?_ | refine SQ.blockRet ?_ | refine SQ.blockExit ?_ | refine SQ.blockOther rfl ?_)
    refine SQ.body1 rfl rfl (fun w' hl => ⟨ret_bool hv.symm, hl.mod⟩)
  cases q2 : inB x.right 0 1048576
  · have hv : edgesOk x = false := by simp [edgesOk, q0, q1, q2]
    repeat (first | refine SX.seq ?_ | refine SXl.nil ?_ | refine SX.region ?_ | refine SQ.thenNormal ?_ | refine SX.block ?_ | refine SX.skip ?_ | refine SX.condT rfl ?_ | refine SX.condF rfl ?_ | (refine SXl.no rfl rfl rfl ?_) | (refine l_call ?_; (first | refine SXl.v (OpW.calls rfl (fun w _ => l01In_any _ _ _ _)) rfl ?_ ?_ ?_); rfl; rfl) | (refine l_load ?_; (first | refine SXl.v (OpW.load 0 rfl rfl rfl) rfl ?_ ?_ ?_ | refine SXl.v (OpW.load 1 rfl rfl rfl) rfl ?_ ?_ ?_ | refine SXl.v (OpW.load 2 rfl rfl rfl) rfl ?_ ?_ ?_ | refine SXl.v (OpW.load 3 rfl rfl rfl) rfl ?_ ?_ ?_ | refine SXl.v (OpW.loadOld rfl (by assumption) (fun h => h)) rfl ?_ ?_ ?_); rfl; rfl) | (refine l_fieldAddr ?_; (first | refine SXl.v (OpW.fieldAddr rfl) rfl ?_ ?_ ?_); rfl; rfl) | (refine l_move ?_; (first | refine SXl.v (OpW.move rfl) rfl ?_ ?_ ?_); rfl; rfl) | (refine l_assign ?_; (first | refine SXl.v (OpW.assign rfl) rfl ?_ ?_ ?_); rfl; rfl) | (refine l_pick ?_; (first | refine SXl.v (OpW.pick rfl rfl rfl) rfl ?_ ?_ ?_); rfl; rfl) | (refine l_box ?_; refine SXl.box ?_ ?_ rfl rfl (fun g => ?_); rfl; rfl) | ((first | rw [q0] | rw [q1] | rw [q2])) | refine SX.ret ?_ | refine SX.exit ?_ | refine SQ.thenRet ?_ | refine SQ.thenExit ?_ | refine SQ.blockNormal ?_ | refine SQ.blockRet ?_ | refine SQ.blockExit ?_ | refine SQ.blockOther rfl ?_)
    refine SQ.body1 rfl rfl (fun w' hl => ⟨ret_bool hv.symm, hl.mod⟩)
  cases q3 : inB x.bottom 0 1048576
  · have hv : edgesOk x = false := by simp [edgesOk, q0, q1, q2, q3]
    repeat (first | refine SX.seq ?_ | refine SXl.nil ?_ | refine SX.region ?_ | refine SQ.thenNormal ?_ | refine SX.block ?_ | refine SX.skip ?_ | refine SX.condT rfl ?_ | refine SX.condF rfl ?_ | (refine SXl.no rfl rfl rfl ?_) | (refine l_call ?_; (first | refine SXl.v (OpW.calls rfl (fun w _ => l01In_any _ _ _ _)) rfl ?_ ?_ ?_); rfl; rfl) | (refine l_load ?_; (first | refine SXl.v (OpW.load 0 rfl rfl rfl) rfl ?_ ?_ ?_ | refine SXl.v (OpW.load 1 rfl rfl rfl) rfl ?_ ?_ ?_ | refine SXl.v (OpW.load 2 rfl rfl rfl) rfl ?_ ?_ ?_ | refine SXl.v (OpW.load 3 rfl rfl rfl) rfl ?_ ?_ ?_ | refine SXl.v (OpW.loadOld rfl (by assumption) (fun h => h)) rfl ?_ ?_ ?_); rfl; rfl) | (refine l_fieldAddr ?_; (first | refine SXl.v (OpW.fieldAddr rfl) rfl ?_ ?_ ?_); rfl; rfl) | (refine l_move ?_; (first | refine SXl.v (OpW.move rfl) rfl ?_ ?_ ?_); rfl; rfl) | (refine l_assign ?_; (first | refine SXl.v (OpW.assign rfl) rfl ?_ ?_ ?_); rfl; rfl) | (refine l_pick ?_; (first | refine SXl.v (OpW.pick rfl rfl rfl) rfl ?_ ?_ ?_); rfl; rfl) | (refine l_box ?_; refine SXl.box ?_ ?_ rfl rfl (fun g => ?_); rfl; rfl) | ((first | rw [q0] | rw [q1] | rw [q2] | rw [q3])) | refine SX.ret ?_ | refine SX.exit ?_ | refine SQ.thenRet ?_ | refine SQ.thenExit ?_ | refine SQ.blockNormal ?_ | refine SQ.blockRet ?_ | refine SQ.blockExit ?_ | refine SQ.blockOther rfl ?_)
    refine SQ.body1 rfl rfl (fun w' hl => ⟨ret_bool hv.symm, hl.mod⟩)
  have hv : edgesOk x = true := by simp [edgesOk, q0, q1, q2, q3]
  repeat (first | refine SX.seq ?_ | refine SXl.nil ?_ | refine SX.region ?_ | refine SQ.thenNormal ?_ | refine SX.block ?_ | refine SX.skip ?_ | refine SX.condT rfl ?_ | refine SX.condF rfl ?_ | (refine SXl.no rfl rfl rfl ?_) | (refine l_call ?_; (first | refine SXl.v (OpW.calls rfl (fun w _ => l01In_any _ _ _ _)) rfl ?_ ?_ ?_); rfl; rfl) | (refine l_load ?_; (first | refine SXl.v (OpW.load 0 rfl rfl rfl) rfl ?_ ?_ ?_ | refine SXl.v (OpW.load 1 rfl rfl rfl) rfl ?_ ?_ ?_ | refine SXl.v (OpW.load 2 rfl rfl rfl) rfl ?_ ?_ ?_ | refine SXl.v (OpW.load 3 rfl rfl rfl) rfl ?_ ?_ ?_ | refine SXl.v (OpW.loadOld rfl (by assumption) (fun h => h)) rfl ?_ ?_ ?_); rfl; rfl) | (refine l_fieldAddr ?_; (first | refine SXl.v (OpW.fieldAddr rfl) rfl ?_ ?_ ?_); rfl; rfl) | (refine l_move ?_; (first | refine SXl.v (OpW.move rfl) rfl ?_ ?_ ?_); rfl; rfl) | (refine l_assign ?_; (first | refine SXl.v (OpW.assign rfl) rfl ?_ ?_ ?_); rfl; rfl) | (refine l_pick ?_; (first | refine SXl.v (OpW.pick rfl rfl rfl) rfl ?_ ?_ ?_); rfl; rfl) | (refine l_box ?_; refine SXl.box ?_ ?_ rfl rfl (fun g => ?_); rfl; rfl) | ((first | rw [q0] | rw [q1] | rw [q2] | rw [q3])) | refine SX.ret ?_ | refine SX.exit ?_ | refine SQ.thenRet ?_ | refine SQ.thenExit ?_ | refine SQ.blockNormal ?_ | refine SQ.blockRet ?_ | refine SQ.blockExit ?_ | refine SQ.blockOther rfl ?_)
  refine SQ.body1 rfl rfl (fun w' hl => ⟨ret_bool hv.symm, hl.mod⟩)

set_option maxRecDepth 100000 in
set_option maxHeartbeats 4000000 in
theorem ssidesOk_any (x : Sides) (w : World) : Calls Try.prog 161 #[.agg #[.int .i64 x.left.kind, .int .i64 x.left.n, .int .i64 x.top.kind, .int .i64 x.top.n, .int .i64 x.right.kind, .int .i64 x.right.n, .int .i64 x.bottom.kind, .int .i64 x.bottom.n, .int .i64 x.start.kind, .int .i64 x.start.n, .int .i64 x.stop.kind, .int .i64 x.stop.n]] w fun e w' => e = .returned (.bool (sidesOk x)) ∧ Mod (fun _ => False) w w' := by
  refine calls_sx Try.func161 rfl rfl (fun a h1 h2 h3 => ((Fr.nil h1 h2).arg (h3 0 _ rfl))) ?_
  cases q0 : valOk x.left
  · have hv : sidesOk x = false := by simp [sidesOk, q0]
    repeat (first | refine SX.seq ?_ | refine SXl.nil ?_ | refine SX.region ?_ | refine SQ.thenNormal ?_ | refine SX.block ?_ | refine SX.skip ?_ | refine SX.condT rfl ?_ | refine SX.condF rfl ?_ | (refine SXl.no rfl rfl rfl ?_) | (refine l_call ?_; (first | refine SXl.v (OpW.call rfl (fun w hl => svalueOk_any _ _)) rfl ?_ ?_ ?_); rfl; rfl) | (refine l_load ?_; (first | refine SXl.v (OpW.loadAll 0 rfl rfl rfl) rfl ?_ ?_ ?_ | refine SXl.v (OpW.loadAll 1 rfl rfl rfl) rfl ?_ ?_ ?_ | refine SXl.v (OpW.loadAll 2 rfl rfl rfl) rfl ?_ ?_ ?_ | refine SXl.v (OpW.loadAll 3 rfl rfl rfl) rfl ?_ ?_ ?_ | refine SXl.v (OpW.loadRow 0 rfl rfl rfl rfl) rfl ?_ ?_ ?_ | refine SXl.v (OpW.loadRow 1 rfl rfl rfl rfl) rfl ?_ ?_ ?_ | refine SXl.v (OpW.loadRow 2 rfl rfl rfl rfl) rfl ?_ ?_ ?_ | refine SXl.v (OpW.loadRow 3 rfl rfl rfl rfl) rfl ?_ ?_ ?_); rfl; rfl) | (refine l_fieldAddr ?_; (first | refine SXl.v (OpW.fieldAddr rfl) rfl ?_ ?_ ?_); rfl; rfl) | (refine l_move ?_; (first | refine SXl.v (OpW.move rfl) rfl ?_ ?_ ?_); rfl; rfl) | (refine l_assign ?_; (first | refine SXl.v (OpW.assign rfl) rfl ?_ ?_ ?_); rfl; rfl) | (refine l_pick ?_; (first | refine SXl.v (OpW.pick rfl rfl rfl) rfl ?_ ?_ ?_); rfl; rfl) | (refine l_box ?_; refine SXl.box ?_ ?_ rfl rfl (fun g => ?_); rfl; rfl) | (rw [q0]) | refine SX.ret ?_ | refine SX.exit ?_ | refine SQ.thenRet ?_ | refine SQ.thenExit ?_ | refine SQ.blockNormal ?_ | refine SQ.blockRet ?_ | refine SQ.blockExit ?_ | refine SQ.blockOther rfl ?_)
    refine SQ.body1 rfl rfl (fun w' hl => ⟨ret_bool hv.symm, hl.mod⟩)
  cases q1 : valOk x.top
  · have hv : sidesOk x = false := by simp [sidesOk, q0, q1]
    repeat (first | refine SX.seq ?_ | refine SXl.nil ?_ | refine SX.region ?_ | refine SQ.thenNormal ?_ | refine SX.block ?_ | refine SX.skip ?_ | refine SX.condT rfl ?_ | refine SX.condF rfl ?_ | (refine SXl.no rfl rfl rfl ?_) | (refine l_call ?_; (first | refine SXl.v (OpW.call rfl (fun w hl => svalueOk_any _ _)) rfl ?_ ?_ ?_); rfl; rfl) | (refine l_load ?_; (first | refine SXl.v (OpW.loadAll 0 rfl rfl rfl) rfl ?_ ?_ ?_ | refine SXl.v (OpW.loadAll 1 rfl rfl rfl) rfl ?_ ?_ ?_ | refine SXl.v (OpW.loadAll 2 rfl rfl rfl) rfl ?_ ?_ ?_ | refine SXl.v (OpW.loadAll 3 rfl rfl rfl) rfl ?_ ?_ ?_ | refine SXl.v (OpW.loadRow 0 rfl rfl rfl rfl) rfl ?_ ?_ ?_ | refine SXl.v (OpW.loadRow 1 rfl rfl rfl rfl) rfl ?_ ?_ ?_ | refine SXl.v (OpW.loadRow 2 rfl rfl rfl rfl) rfl ?_ ?_ ?_ | refine SXl.v (OpW.loadRow 3 rfl rfl rfl rfl) rfl ?_ ?_ ?_); rfl; rfl) | (refine l_fieldAddr ?_; (first | refine SXl.v (OpW.fieldAddr rfl) rfl ?_ ?_ ?_); rfl; rfl) | (refine l_move ?_; (first | refine SXl.v (OpW.move rfl) rfl ?_ ?_ ?_); rfl; rfl) | (refine l_assign ?_; (first | refine SXl.v (OpW.assign rfl) rfl ?_ ?_ ?_); rfl; rfl) | (refine l_pick ?_; (first | refine SXl.v (OpW.pick rfl rfl rfl) rfl ?_ ?_ ?_); rfl; rfl) | (refine l_box ?_; refine SXl.box ?_ ?_ rfl rfl (fun g => ?_); rfl; rfl) | ((first | rw [q0] | rw [q1])) | refine SX.ret ?_ | refine SX.exit ?_ | refine SQ.thenRet ?_ | refine SQ.thenExit ?_ | refine SQ.blockNormal ?_ | refine SQ.blockRet ?_ | refine SQ.blockExit ?_ | refine SQ.blockOther rfl ?_)
    refine SQ.body1 rfl rfl (fun w' hl => ⟨ret_bool hv.symm, hl.mod⟩)
  cases q2 : valOk x.right
  · have hv : sidesOk x = false := by simp [sidesOk, q0, q1, q2]
    repeat (first | refine SX.seq ?_ | refine SXl.nil ?_ | refine SX.region ?_ | refine SQ.thenNormal ?_ | refine SX.block ?_ | refine SX.skip ?_ | refine SX.condT rfl ?_ | refine SX.condF rfl ?_ | (refine SXl.no rfl rfl rfl ?_) | (refine l_call ?_; (first | refine SXl.v (OpW.call rfl (fun w hl => svalueOk_any _ _)) rfl ?_ ?_ ?_); rfl; rfl) | (refine l_load ?_; (first | refine SXl.v (OpW.loadAll 0 rfl rfl rfl) rfl ?_ ?_ ?_ | refine SXl.v (OpW.loadAll 1 rfl rfl rfl) rfl ?_ ?_ ?_ | refine SXl.v (OpW.loadAll 2 rfl rfl rfl) rfl ?_ ?_ ?_ | refine SXl.v (OpW.loadAll 3 rfl rfl rfl) rfl ?_ ?_ ?_ | refine SXl.v (OpW.loadRow 0 rfl rfl rfl rfl) rfl ?_ ?_ ?_ | refine SXl.v (OpW.loadRow 1 rfl rfl rfl rfl) rfl ?_ ?_ ?_ | refine SXl.v (OpW.loadRow 2 rfl rfl rfl rfl) rfl ?_ ?_ ?_ | refine SXl.v (OpW.loadRow 3 rfl rfl rfl rfl) rfl ?_ ?_ ?_); rfl; rfl) | (refine l_fieldAddr ?_; (first | refine SXl.v (OpW.fieldAddr rfl) rfl ?_ ?_ ?_); rfl; rfl) | (refine l_move ?_; (first | refine SXl.v (OpW.move rfl) rfl ?_ ?_ ?_); rfl; rfl) | (refine l_assign ?_; (first | refine SXl.v (OpW.assign rfl) rfl ?_ ?_ ?_); rfl; rfl) | (refine l_pick ?_; (first | refine SXl.v (OpW.pick rfl rfl rfl) rfl ?_ ?_ ?_); rfl; rfl) | (refine l_box ?_; refine SXl.box ?_ ?_ rfl rfl (fun g => ?_); rfl; rfl) | ((first | rw [q0] | rw [q1] | rw [q2])) | refine SX.ret ?_ | refine SX.exit ?_ | refine SQ.thenRet ?_ | refine SQ.thenExit ?_ | refine SQ.blockNormal ?_ | refine SQ.blockRet ?_ | refine SQ.blockExit ?_ | refine SQ.blockOther rfl ?_)
    refine SQ.body1 rfl rfl (fun w' hl => ⟨ret_bool hv.symm, hl.mod⟩)
  cases q3 : valOk x.bottom
  · have hv : sidesOk x = false := by simp [sidesOk, q0, q1, q2, q3]
    repeat (first | refine SX.seq ?_ | refine SXl.nil ?_ | refine SX.region ?_ | refine SQ.thenNormal ?_ | refine SX.block ?_ | refine SX.skip ?_ | refine SX.condT rfl ?_ | refine SX.condF rfl ?_ | (refine SXl.no rfl rfl rfl ?_) | (refine l_call ?_; (first | refine SXl.v (OpW.call rfl (fun w hl => svalueOk_any _ _)) rfl ?_ ?_ ?_); rfl; rfl) | (refine l_load ?_; (first | refine SXl.v (OpW.loadAll 0 rfl rfl rfl) rfl ?_ ?_ ?_ | refine SXl.v (OpW.loadAll 1 rfl rfl rfl) rfl ?_ ?_ ?_ | refine SXl.v (OpW.loadAll 2 rfl rfl rfl) rfl ?_ ?_ ?_ | refine SXl.v (OpW.loadAll 3 rfl rfl rfl) rfl ?_ ?_ ?_ | refine SXl.v (OpW.loadRow 0 rfl rfl rfl rfl) rfl ?_ ?_ ?_ | refine SXl.v (OpW.loadRow 1 rfl rfl rfl rfl) rfl ?_ ?_ ?_ | refine SXl.v (OpW.loadRow 2 rfl rfl rfl rfl) rfl ?_ ?_ ?_ | refine SXl.v (OpW.loadRow 3 rfl rfl rfl rfl) rfl ?_ ?_ ?_); rfl; rfl) | (refine l_fieldAddr ?_; (first | refine SXl.v (OpW.fieldAddr rfl) rfl ?_ ?_ ?_); rfl; rfl) | (refine l_move ?_; (first | refine SXl.v (OpW.move rfl) rfl ?_ ?_ ?_); rfl; rfl) | (refine l_assign ?_; (first | refine SXl.v (OpW.assign rfl) rfl ?_ ?_ ?_); rfl; rfl) | (refine l_pick ?_; (first | refine SXl.v (OpW.pick rfl rfl rfl) rfl ?_ ?_ ?_); rfl; rfl) | (refine l_box ?_; refine SXl.box ?_ ?_ rfl rfl (fun g => ?_); rfl; rfl) | ((first | rw [q0] | rw [q1] | rw [q2] | rw [q3])) | refine SX.ret ?_ | refine SX.exit ?_ | refine SQ.thenRet ?_ | refine SQ.thenExit ?_ | refine SQ.blockNormal ?_ | refine SQ.blockRet ?_ | refine SQ.blockExit ?_ | refine SQ.blockOther rfl ?_)
    refine SQ.body1 rfl rfl (fun w' hl => ⟨ret_bool hv.symm, hl.mod⟩)
  cases q4 : valOk x.start
  · have hv : sidesOk x = false := by simp [sidesOk, q0, q1, q2, q3, q4]
    repeat (first | refine SX.seq ?_ | refine SXl.nil ?_ | refine SX.region ?_ | refine SQ.thenNormal ?_ | refine SX.block ?_ | refine SX.skip ?_ | refine SX.condT rfl ?_ | refine SX.condF rfl ?_ | (refine SXl.no rfl rfl rfl ?_) | (refine l_call ?_; (first | refine SXl.v (OpW.call rfl (fun w hl => svalueOk_any _ _)) rfl ?_ ?_ ?_); rfl; rfl) | (refine l_load ?_; (first | refine SXl.v (OpW.loadAll 0 rfl rfl rfl) rfl ?_ ?_ ?_ | refine SXl.v (OpW.loadAll 1 rfl rfl rfl) rfl ?_ ?_ ?_ | refine SXl.v (OpW.loadAll 2 rfl rfl rfl) rfl ?_ ?_ ?_ | refine SXl.v (OpW.loadAll 3 rfl rfl rfl) rfl ?_ ?_ ?_ | refine SXl.v (OpW.loadRow 0 rfl rfl rfl rfl) rfl ?_ ?_ ?_ | refine SXl.v (OpW.loadRow 1 rfl rfl rfl rfl) rfl ?_ ?_ ?_ | refine SXl.v (OpW.loadRow 2 rfl rfl rfl rfl) rfl ?_ ?_ ?_ | refine SXl.v (OpW.loadRow 3 rfl rfl rfl rfl) rfl ?_ ?_ ?_); rfl; rfl) | (refine l_fieldAddr ?_; (first | refine SXl.v (OpW.fieldAddr rfl) rfl ?_ ?_ ?_); rfl; rfl) | (refine l_move ?_; (first | refine SXl.v (OpW.move rfl) rfl ?_ ?_ ?_); rfl; rfl) | (refine l_assign ?_; (first | refine SXl.v (OpW.assign rfl) rfl ?_ ?_ ?_); rfl; rfl) | (refine l_pick ?_; (first | refine SXl.v (OpW.pick rfl rfl rfl) rfl ?_ ?_ ?_); rfl; rfl) | (refine l_box ?_; refine SXl.box ?_ ?_ rfl rfl (fun g => ?_); rfl; rfl) | ((first | rw [q0] | rw [q1] | rw [q2] | rw [q3] | rw [q4])) | refine SX.ret ?_ | refine SX.exit ?_ | refine SQ.thenRet ?_ | refine SQ.thenExit ?_ | refine SQ.blockNormal ?_ | refine SQ.blockRet ?_ | refine SQ.blockExit ?_ | refine SQ.blockOther rfl ?_)
    refine SQ.body1 rfl rfl (fun w' hl => ⟨ret_bool hv.symm, hl.mod⟩)
  cases q5 : valOk x.stop
  · have hv : sidesOk x = false := by simp [sidesOk, q0, q1, q2, q3, q4, q5]
    repeat (first | refine SX.seq ?_ | refine SXl.nil ?_ | refine SX.region ?_ | refine SQ.thenNormal ?_ | refine SX.block ?_ | refine SX.skip ?_ | refine SX.condT rfl ?_ | refine SX.condF rfl ?_ | (refine SXl.no rfl rfl rfl ?_) | (refine l_call ?_; (first | refine SXl.v (OpW.call rfl (fun w hl => svalueOk_any _ _)) rfl ?_ ?_ ?_); rfl; rfl) | (refine l_load ?_; (first | refine SXl.v (OpW.loadAll 0 rfl rfl rfl) rfl ?_ ?_ ?_ | refine SXl.v (OpW.loadAll 1 rfl rfl rfl) rfl ?_ ?_ ?_ | refine SXl.v (OpW.loadAll 2 rfl rfl rfl) rfl ?_ ?_ ?_ | refine SXl.v (OpW.loadAll 3 rfl rfl rfl) rfl ?_ ?_ ?_ | refine SXl.v (OpW.loadRow 0 rfl rfl rfl rfl) rfl ?_ ?_ ?_ | refine SXl.v (OpW.loadRow 1 rfl rfl rfl rfl) rfl ?_ ?_ ?_ | refine SXl.v (OpW.loadRow 2 rfl rfl rfl rfl) rfl ?_ ?_ ?_ | refine SXl.v (OpW.loadRow 3 rfl rfl rfl rfl) rfl ?_ ?_ ?_); rfl; rfl) | (refine l_fieldAddr ?_; (first | refine SXl.v (OpW.fieldAddr rfl) rfl ?_ ?_ ?_); rfl; rfl) | (refine l_move ?_; (first | refine SXl.v (OpW.move rfl) rfl ?_ ?_ ?_); rfl; rfl) | (refine l_assign ?_; (first | refine SXl.v (OpW.assign rfl) rfl ?_ ?_ ?_); rfl; rfl) | (refine l_pick ?_; (first | refine SXl.v (OpW.pick rfl rfl rfl) rfl ?_ ?_ ?_); rfl; rfl) | (refine l_box ?_; refine SXl.box ?_ ?_ rfl rfl (fun g => ?_); rfl; rfl) | ((first | rw [q0] | rw [q1] | rw [q2] | rw [q3] | rw [q4] | rw [q5])) | refine SX.ret ?_ | refine SX.exit ?_ | refine SQ.thenRet ?_ | refine SQ.thenExit ?_ | refine SQ.blockNormal ?_ | refine SQ.blockRet ?_ | refine SQ.blockExit ?_ | refine SQ.blockOther rfl ?_)
    refine SQ.body1 rfl rfl (fun w' hl => ⟨ret_bool hv.symm, hl.mod⟩)
  have hv : sidesOk x = true := by simp [sidesOk, q0, q1, q2, q3, q4, q5]
  repeat (first | refine SX.seq ?_ | refine SXl.nil ?_ | refine SX.region ?_ | refine SQ.thenNormal ?_ | refine SX.block ?_ | refine SX.skip ?_ | refine SX.condT rfl ?_ | refine SX.condF rfl ?_ | (refine SXl.no rfl rfl rfl ?_) | (refine l_call ?_; (first | refine SXl.v (OpW.call rfl (fun w hl => svalueOk_any _ _)) rfl ?_ ?_ ?_); rfl; rfl) | (refine l_load ?_; (first | refine SXl.v (OpW.loadAll 0 rfl rfl rfl) rfl ?_ ?_ ?_ | refine SXl.v (OpW.loadAll 1 rfl rfl rfl) rfl ?_ ?_ ?_ | refine SXl.v (OpW.loadAll 2 rfl rfl rfl) rfl ?_ ?_ ?_ | refine SXl.v (OpW.loadAll 3 rfl rfl rfl) rfl ?_ ?_ ?_ | refine SXl.v (OpW.loadRow 0 rfl rfl rfl rfl) rfl ?_ ?_ ?_ | refine SXl.v (OpW.loadRow 1 rfl rfl rfl rfl) rfl ?_ ?_ ?_ | refine SXl.v (OpW.loadRow 2 rfl rfl rfl rfl) rfl ?_ ?_ ?_ | refine SXl.v (OpW.loadRow 3 rfl rfl rfl rfl) rfl ?_ ?_ ?_); rfl; rfl) | (refine l_fieldAddr ?_; (first | refine SXl.v (OpW.fieldAddr rfl) rfl ?_ ?_ ?_); rfl; rfl) | (refine l_move ?_; (first | refine SXl.v (OpW.move rfl) rfl ?_ ?_ ?_); rfl; rfl) | (refine l_assign ?_; (first | refine SXl.v (OpW.assign rfl) rfl ?_ ?_ ?_); rfl; rfl) | (refine l_pick ?_; (first | refine SXl.v (OpW.pick rfl rfl rfl) rfl ?_ ?_ ?_); rfl; rfl) | (refine l_box ?_; refine SXl.box ?_ ?_ rfl rfl (fun g => ?_); rfl; rfl) | ((first | rw [q0] | rw [q1] | rw [q2] | rw [q3] | rw [q4] | rw [q5])) | refine SX.ret ?_ | refine SX.exit ?_ | refine SQ.thenRet ?_ | refine SQ.thenExit ?_ | refine SQ.blockNormal ?_ | refine SQ.blockRet ?_ | refine SQ.blockExit ?_ | refine SQ.blockOther rfl ?_)
  refine SQ.body1 rfl rfl (fun w' hl => ⟨ret_bool hv.symm, hl.mod⟩)


end Go.Proofs.Ytcolkidnjojlmaa
namespace Go.Proofs.Ytcolkidnjojlmaa
open Go.RowKit
set_option linter.unusedVariables false
set_option linter.unusedSimpArgs false

set_option maxRecDepth 100000 in
theorem isNode_any (m : Nat) (a : Option Addr) (c : Nat) (n : Int) (w : World) : Calls Try.prog 97 #[.agg #[.slice a m c], .int .i64 n] w fun e w' => e = .returned (.bool (inB n 1 m)) ∧ Mod (fun _ => False) w w' := by
  refine calls_sx Try.func97 rfl rfl (fun a h1 h2 h3 => ((Fr.nil h1 h2).arg (h3 1 _ rfl)).arg (h3 0 _ rfl)) ?_
  repeat (first | refine SX.seq ?_ | refine SXl.nil ?_ | refine SX.region ?_ | refine SQ.thenNormal ?_ | refine SX.block ?_ | refine SX.skip ?_ | refine SX.condT rfl ?_ | refine SX.condF rfl ?_ | (refine l_call ?_; (first | refine SXl.v (OpW.calls rfl (fun w _ => in_any _ _ _ _)) rfl ?_ ?_ ?_); rfl; rfl) | (refine l_load ?_; (first | refine SXl.v (OpW.load 0 rfl rfl rfl) rfl ?_ ?_ ?_ | refine SXl.v (OpW.load 1 rfl rfl rfl) rfl ?_ ?_ ?_ | refine SXl.v (OpW.load 2 rfl rfl rfl) rfl ?_ ?_ ?_ | refine SXl.v (OpW.load 3 rfl rfl rfl) rfl ?_ ?_ ?_ | refine SXl.v (OpW.loadOld rfl (by assumption) (fun h => h)) rfl ?_ ?_ ?_); rfl; rfl) | (refine l_fieldAddr ?_; (first | refine SXl.v (OpW.fieldAddr rfl) rfl ?_ ?_ ?_); rfl; rfl) | (refine l_move ?_; (first | refine SXl.v (OpW.move rfl) rfl ?_ ?_ ?_); rfl; rfl) | (refine l_assign ?_; (first | refine SXl.v (OpW.assign rfl) rfl ?_ ?_ ?_); rfl; rfl) | (refine l_len ?_; (first | refine SXl.v (OpW.len rfl) rfl ?_ ?_ ?_); rfl; rfl) | (refine l_box ?_; refine SXl.box ?_ ?_ rfl rfl (fun g => ?_); rfl; rfl) | refine SX.ret ?_ | refine SX.exit ?_ | refine SQ.thenRet ?_ | refine SQ.thenExit ?_ | refine SQ.blockNormal ?_ | refine SQ.blockRet ?_ | refine SQ.blockExit ?_ | refine SQ.blockOther rfl ?_)
  refine SQ.body1 rfl rfl (fun w' hl => ⟨rfl, hl.mod⟩)
set_option maxRecDepth 100000 in
theorem sisNode_any (m : Nat) (a : Option Addr) (c : Nat) (n : Int) (w : World) : Calls Try.prog 89 #[.agg #[.slice a m c], .int .i64 n] w fun e w' => e = .returned (.bool (inB n 1 m)) ∧ Mod (fun _ => False) w w' := by
  refine calls_sx Try.func89 rfl rfl (fun a h1 h2 h3 => ((Fr.nil h1 h2).arg (h3 1 _ rfl)).arg (h3 0 _ rfl)) ?_
  repeat (first | refine SX.seq ?_ | refine SXl.nil ?_ | refine SX.region ?_ | refine SQ.thenNormal ?_ | refine SX.block ?_ | refine SX.skip ?_ | refine SX.condT rfl ?_ | refine SX.condF rfl ?_ | (refine l_call ?_; (first | refine SXl.v (OpW.calls rfl (fun w _ => l01In_any _ _ _ _)) rfl ?_ ?_ ?_); rfl; rfl) | (refine l_load ?_; (first | refine SXl.v (OpW.load 0 rfl rfl rfl) rfl ?_ ?_ ?_ | refine SXl.v (OpW.load 1 rfl rfl rfl) rfl ?_ ?_ ?_ | refine SXl.v (OpW.load 2 rfl rfl rfl) rfl ?_ ?_ ?_ | refine SXl.v (OpW.load 3 rfl rfl rfl) rfl ?_ ?_ ?_ | refine SXl.v (OpW.loadOld rfl (by assumption) (fun h => h)) rfl ?_ ?_ ?_); rfl; rfl) | (refine l_fieldAddr ?_; (first | refine SXl.v (OpW.fieldAddr rfl) rfl ?_ ?_ ?_); rfl; rfl) | (refine l_move ?_; (first | refine SXl.v (OpW.move rfl) rfl ?_ ?_ ?_); rfl; rfl) | (refine l_assign ?_; (first | refine SXl.v (OpW.assign rfl) rfl ?_ ?_ ?_); rfl; rfl) | (refine l_len ?_; (first | refine SXl.v (OpW.len rfl) rfl ?_ ?_ ?_); rfl; rfl) | (refine l_box ?_; refine SXl.box ?_ ?_ rfl rfl (fun g => ?_); rfl; rfl) | refine SX.ret ?_ | refine SX.exit ?_ | refine SQ.thenRet ?_ | refine SQ.thenExit ?_ | refine SQ.blockNormal ?_ | refine SQ.blockRet ?_ | refine SQ.blockExit ?_ | refine SQ.blockOther rfl ?_)
  refine SQ.body1 rfl rfl (fun w' hl => ⟨rfl, hl.mod⟩)

set_option maxRecDepth 100000 in
set_option maxHeartbeats 4000000 in
theorem node_any (m b o c k : Nat) (up : Int) (q : Option Addr) (qn qc : Nat) (st : Style) (me : Bool) (u : Option Addr) (un uc : Nat) (w : World) (hm : m ≤ 1048576) (hk : k < m) (hc : ∀ j v, (nodeRow up q qn qc st me u un uc)[j]? = some v → w.cell? ⟨b, o + k * 64 + j, none⟩ = some v) :
    Calls Try.prog 102 #[.agg #[.slice (some ⟨b, o, none⟩) m c], .int .i64 ((k + 1 : Nat) : Int)] w fun e w' => e = .returned (.agg (nodeRow up q qn qc st me u un uc).toArray) ∧ Mod (fun _ => False) w w' := by
  refine calls_sx Try.func102 rfl rfl (fun a h1 h2 h3 => ((Fr.nil h1 h2).arg (h3 1 _ rfl)).arg (h3 0 _ rfl)) ?_
  repeat (first | refine SX.seq ?_ | refine SXl.nil ?_ | refine SX.region ?_ | refine SQ.thenNormal ?_ | refine SX.block ?_ | refine SX.skip ?_ | refine SX.condT rfl ?_ | refine SX.condF rfl ?_ | (refine l_load ?_; (first | refine SXl.v (OpW.loadRowOld rfl hc (nodeRow_len _ _ _ _ _ _ _ _ _) (Nat.succ_pos _) (fun h => h)) rfl ?_ ?_ ?_ | refine SXl.v (OpW.load 0 rfl rfl rfl) rfl ?_ ?_ ?_ | refine SXl.v (OpW.load 1 rfl rfl rfl) rfl ?_ ?_ ?_ | refine SXl.v (OpW.load 2 rfl rfl rfl) rfl ?_ ?_ ?_ | refine SXl.v (OpW.load 3 rfl rfl rfl) rfl ?_ ?_ ?_ | refine SXl.v (OpW.loadOld rfl (by assumption) (fun h => h)) rfl ?_ ?_ ?_ | refine SXl.v (OpW.loadAll 0 rfl rfl rfl) rfl ?_ ?_ ?_ | refine SXl.v (OpW.loadAll 1 rfl rfl rfl) rfl ?_ ?_ ?_ | refine SXl.v (OpW.loadAll 2 rfl rfl rfl) rfl ?_ ?_ ?_ | refine SXl.v (OpW.loadAll 3 rfl rfl rfl) rfl ?_ ?_ ?_ | refine SXl.v (OpW.loadRow 0 rfl rfl rfl rfl) rfl ?_ ?_ ?_ | refine SXl.v (OpW.loadRow 1 rfl rfl rfl rfl) rfl ?_ ?_ ?_ | refine SXl.v (OpW.loadRow 2 rfl rfl rfl rfl) rfl ?_ ?_ ?_ | refine SXl.v (OpW.loadRow 3 rfl rfl rfl rfl) rfl ?_ ?_ ?_); rfl; rfl) | (refine l_indexAddr ?_; (first | refine SXl.v ((OpW.indexAddr (i := k) hk rfl (congrArg (fun i : Int => some (Value.int .i64 i)) (by omega : ((k + 1 : Nat) : Int) - 1 = (k : Int))))) rfl ?_ ?_ ?_ | refine SXl.v (OpW.indexAddr1 (by omega) rfl rfl) rfl ?_ ?_ ?_ | refine SXl.v (OpW.indexAddr (by omega) rfl rfl) rfl ?_ ?_ ?_); rfl; rfl) | (refine l_fieldAddr ?_; (first | refine SXl.v (OpW.fieldAddr rfl) rfl ?_ ?_ ?_); rfl; rfl) | (refine l_move ?_; (first | refine SXl.v (OpW.move rfl) rfl ?_ ?_ ?_); rfl; rfl) | (refine l_sub ?_; (first | refine SXl.v (OpW.subi rfl rfl (by omega) (by omega)) rfl ?_ ?_ ?_ | refine SXl.v (OpW.sub rfl rfl) rfl ?_ ?_ ?_); rfl; rfl) | (refine l_alloc ?_; refine SXl.alloc ?_ ?_ (fun g => ?_); rfl; rfl) | (refine l_box ?_; refine SXl.box ?_ ?_ rfl rfl (fun g => ?_); rfl; rfl) | (refine l_store ?_; first | (refine SXl.storeAll 0 ?_ rfl rfl rfl rfl rfl rfl rfl ?_; rfl; simp only [List.set_cons_zero, List.set_cons_succ]) | (refine SXl.storeAll 1 ?_ rfl rfl rfl rfl rfl rfl rfl ?_; rfl; simp only [List.set_cons_zero, List.set_cons_succ]) | (refine SXl.storeAll 2 ?_ rfl rfl rfl rfl rfl rfl rfl ?_; rfl; simp only [List.set_cons_zero, List.set_cons_succ]) | (refine SXl.storeRow 0 ?_ rfl rfl rfl rfl rfl rfl rfl ?_; rfl; simp only [over, List.set_cons_zero, List.set_cons_succ]) | (refine SXl.storeRow 1 ?_ rfl rfl rfl rfl rfl rfl rfl ?_; rfl; simp only [over, List.set_cons_zero, List.set_cons_succ]) | (refine SXl.storeRow 2 ?_ rfl rfl rfl rfl rfl rfl rfl ?_; rfl; simp only [over, List.set_cons_zero, List.set_cons_succ])) | refine SX.ret ?_ | refine SX.exit ?_ | refine SQ.thenRet ?_ | refine SQ.thenExit ?_ | refine SQ.blockNormal ?_ | refine SQ.blockRet ?_ | refine SQ.blockExit ?_ | refine SQ.blockOther rfl ?_)
  refine SQ.bodyCell 0 rfl rfl rfl rfl (fun w' hl => ⟨rfl, hl.mod⟩)

set_option maxRecDepth 100000 in
set_option maxHeartbeats 4000000 in
theorem snode_any (m b o c k : Nat) (up : Int) (q : Option Addr) (qn qc : Nat) (st : Style) (me : Bool) (u : Option Addr) (un uc : Nat) (w : World) (hm : m ≤ 1048576) (hk : k < m) (hc : ∀ j v, (nodeRow up q qn qc st me u un uc)[j]? = some v → w.cell? ⟨b, o + k * 64 + j, none⟩ = some v) :
    Calls Try.prog 93 #[.agg #[.slice (some ⟨b, o, none⟩) m c], .int .i64 ((k + 1 : Nat) : Int)] w fun e w' => e = .returned (.agg (nodeRow up q qn qc st me u un uc).toArray) ∧ Mod (fun _ => False) w w' := by
  refine calls_sx Try.func93 rfl rfl (fun a h1 h2 h3 => ((Fr.nil h1 h2).arg (h3 1 _ rfl)).arg (h3 0 _ rfl)) ?_
  repeat (first | refine SX.seq ?_ | refine SXl.nil ?_ | refine SX.region ?_ | refine SQ.thenNormal ?_ | refine SX.block ?_ | refine SX.skip ?_ | refine SX.condT rfl ?_ | refine SX.condF rfl ?_ | (refine l_load ?_; (first | refine SXl.v (OpW.loadRowOld rfl hc (nodeRow_len _ _ _ _ _ _ _ _ _) (Nat.succ_pos _) (fun h => h)) rfl ?_ ?_ ?_ | refine SXl.v (OpW.load 0 rfl rfl rfl) rfl ?_ ?_ ?_ | refine SXl.v (OpW.load 1 rfl rfl rfl) rfl ?_ ?_ ?_ | refine SXl.v (OpW.load 2 rfl rfl rfl) rfl ?_ ?_ ?_ | refine SXl.v (OpW.load 3 rfl rfl rfl) rfl ?_ ?_ ?_ | refine SXl.v (OpW.loadOld rfl (by assumption) (fun h => h)) rfl ?_ ?_ ?_ | refine SXl.v (OpW.loadAll 0 rfl rfl rfl) rfl ?_ ?_ ?_ | refine SXl.v (OpW.loadAll 1 rfl rfl rfl) rfl ?_ ?_ ?_ | refine SXl.v (OpW.loadAll 2 rfl rfl rfl) rfl ?_ ?_ ?_ | refine SXl.v (OpW.loadAll 3 rfl rfl rfl) rfl ?_ ?_ ?_ | refine SXl.v (OpW.loadRow 0 rfl rfl rfl rfl) rfl ?_ ?_ ?_ | refine SXl.v (OpW.loadRow 1 rfl rfl rfl rfl) rfl ?_ ?_ ?_ | refine SXl.v (OpW.loadRow 2 rfl rfl rfl rfl) rfl ?_ ?_ ?_ | refine SXl.v (OpW.loadRow 3 rfl rfl rfl rfl) rfl ?_ ?_ ?_); rfl; rfl) | (refine l_indexAddr ?_; (first | refine SXl.v ((OpW.indexAddr (i := k) hk rfl (congrArg (fun i : Int => some (Value.int .i64 i)) (by omega : ((k + 1 : Nat) : Int) - 1 = (k : Int))))) rfl ?_ ?_ ?_ | refine SXl.v (OpW.indexAddr1 (by omega) rfl rfl) rfl ?_ ?_ ?_ | refine SXl.v (OpW.indexAddr (by omega) rfl rfl) rfl ?_ ?_ ?_); rfl; rfl) | (refine l_fieldAddr ?_; (first | refine SXl.v (OpW.fieldAddr rfl) rfl ?_ ?_ ?_); rfl; rfl) | (refine l_move ?_; (first | refine SXl.v (OpW.move rfl) rfl ?_ ?_ ?_); rfl; rfl) | (refine l_sub ?_; (first | refine SXl.v (OpW.subi rfl rfl (by omega) (by omega)) rfl ?_ ?_ ?_ | refine SXl.v (OpW.sub rfl rfl) rfl ?_ ?_ ?_); rfl; rfl) | (refine l_alloc ?_; refine SXl.alloc ?_ ?_ (fun g => ?_); rfl; rfl) | (refine l_box ?_; refine SXl.box ?_ ?_ rfl rfl (fun g => ?_); rfl; rfl) | (refine l_store ?_; first | (refine SXl.storeAll 0 ?_ rfl rfl rfl rfl rfl rfl rfl ?_; rfl; simp only [List.set_cons_zero, List.set_cons_succ]) | (refine SXl.storeAll 1 ?_ rfl rfl rfl rfl rfl rfl rfl ?_; rfl; simp only [List.set_cons_zero, List.set_cons_succ]) | (refine SXl.storeAll 2 ?_ rfl rfl rfl rfl rfl rfl rfl ?_; rfl; simp only [List.set_cons_zero, List.set_cons_succ]) | (refine SXl.storeRow 0 ?_ rfl rfl rfl rfl rfl rfl rfl ?_; rfl; simp only [over, List.set_cons_zero, List.set_cons_succ]) | (refine SXl.storeRow 1 ?_ rfl rfl rfl rfl rfl rfl rfl ?_; rfl; simp only [over, List.set_cons_zero, List.set_cons_succ]) | (refine SXl.storeRow 2 ?_ rfl rfl rfl rfl rfl rfl rfl ?_; rfl; simp only [over, List.set_cons_zero, List.set_cons_succ])) | refine SX.ret ?_ | refine SX.exit ?_ | refine SQ.thenRet ?_ | refine SQ.thenExit ?_ | refine SQ.blockNormal ?_ | refine SQ.blockRet ?_ | refine SQ.blockExit ?_ | refine SQ.blockOther rfl ?_)
  refine SQ.bodyCell 0 rfl rfl rfl rfl (fun w' hl => ⟨rfl, hl.mod⟩)

instance : TFv Try.prog 137 0 0 := ⟨_, _, _, Try.underlying137, rfl, rfl, Try.underlying3, rfl⟩
/-- The depth of node n, counted on from d, within a number of steps. -/
def depthF (l : List Node) : Nat → Int → Nat → Int
  | 0, _, _ => 0
  | f + 1, n, d => if n = 0 then d else if inB n 1 l.length then depthF l f ((l[(n - 1).toNat]?).getD default).up (d + 1) else 0
theorem depthF_zero {l : List Node} {d : Nat} (h : d ≤ l.length) : depthF l (l.length + 1 - d) 0 d = d := by
  rw [show l.length + 1 - d = (l.length - d) + 1 by omega]; rfl
theorem depthF_out {l : List Node} {d : Nat} {n : Int} (h : d ≤ l.length) (h0 : n ≠ 0) (hq : inB n 1 l.length = false) : depthF l (l.length + 1 - d) n d = 0 := by
  rw [show l.length + 1 - d = (l.length - d) + 1 by omega]; simp [depthF, h0, hq]
theorem depthF_up {l : List Node} {d k : Nat} {x : Node} (h : d ≤ l.length) (hx : l[k]? = some x) : depthF l (l.length + 1 - d) ((k + 1 : Nat) : Int) d = depthF l (l.length + 1 - (d + 1)) x.up (d + 1) := by
  have hk := (List.getElem?_eq_some_iff.1 hx).1
  rw [show l.length + 1 - d = (l.length + 1 - (d + 1)) + 1 by omega]
  show (if ((k + 1 : Nat) : Int) = 0 then _ else if inB ((k + 1 : Nat) : Int) 1 l.length then _ else _) = _
  rw [if_neg (by omega), inB_true (by omega) (by omega), if_pos rfl, show (((k + 1 : Nat) : Int) - 1).toNat = k by omega, hx]; rfl
theorem depthF_over {l : List Node} {d : Nat} {n : Int} (h : l.length + 1 ≤ d) : depthF l (l.length + 1 - d) n d = 0 := by
  rw [show l.length + 1 - d = 0 by omega]; rfl
theorem depthF_end {l : List Node} {d : Nat} {n : Int} (h : d ≤ l.length) (hd : l.length ≤ d) (h0 : n ≠ 0) : depthF l (l.length + 1 - d) n d = 0 := by
  rw [show l.length + 1 - d = 0 + 1 by omega]; simp [depthF, h0]
theorem inB_node {n : Int} {m : Nat} (h : inB n 1 m = true) : ∃ k : Nat, n = ((k + 1 : Nat) : Int) ∧ k < m := by
  have := of_decide_eq_true h
  exact ⟨(n - 1).toNat, by omega, by omega⟩

set_option maxRecDepth 100000 in
set_option maxHeartbeats 4000000 in
theorem depthOf_any (l : List Node) (n0 : Int) (o : Bool) (a : Option Addr) (c : Nat) (R : Nat → Prop) (w : World) (hlen : l.length ≤ 1048576) (h : NodeSlice o R w a l) :
    Calls Try.prog 140 #[.agg #[.slice a l.length c], .int .i64 n0] w fun e w' => e = .returned (.int .i64 (depthF l (l.length + 1) n0 0)) ∧ Mod (fun _ => False) w w' := by
  refine calls_sx Try.func140 rfl rfl (fun a h1 h2 h3 => ((Fr.nil h1 h2).arg (h3 1 _ rfl)).arg (h3 0 _ rfl)) ?_
  repeat (first | refine SX.seq ?_ | refine SXl.nil ?_ | refine SX.region ?_ | refine SQ.thenNormal ?_ | refine SX.block ?_ | refine SX.skip ?_ | refine SX.condT rfl ?_ | refine SX.condF rfl ?_ | (refine SXl.no rfl rfl rfl ?_) | (refine l_call ?_; (first | refine SXl.v (OpW.call rfl (fun w hl => isNode_any _ _ _ _ _)) rfl ?_ ?_ ?_); rfl; rfl) | (refine l_load ?_; (first | refine SXl.v (OpW.load 0 rfl rfl rfl) rfl ?_ ?_ ?_ | refine SXl.v (OpW.load 1 rfl rfl rfl) rfl ?_ ?_ ?_ | refine SXl.v (OpW.load 2 rfl rfl rfl) rfl ?_ ?_ ?_ | refine SXl.v (OpW.load 3 rfl rfl rfl) rfl ?_ ?_ ?_ | refine SXl.v (OpW.loadOld rfl (by assumption) (fun h => h)) rfl ?_ ?_ ?_ | refine SXl.v (OpW.loadAll 0 rfl rfl rfl) rfl ?_ ?_ ?_ | refine SXl.v (OpW.loadAll 1 rfl rfl rfl) rfl ?_ ?_ ?_ | refine SXl.v (OpW.loadAll 2 rfl rfl rfl) rfl ?_ ?_ ?_ | refine SXl.v (OpW.loadAll 3 rfl rfl rfl) rfl ?_ ?_ ?_ | refine SXl.v (OpW.loadRow 0 rfl rfl rfl rfl) rfl ?_ ?_ ?_ | refine SXl.v (OpW.loadRow 1 rfl rfl rfl rfl) rfl ?_ ?_ ?_ | refine SXl.v (OpW.loadRow 2 rfl rfl rfl rfl) rfl ?_ ?_ ?_ | refine SXl.v (OpW.loadRow 3 rfl rfl rfl rfl) rfl ?_ ?_ ?_); rfl; rfl) | (refine l_fieldAddr ?_; (first | refine SXl.v (OpW.fieldAddr rfl) rfl ?_ ?_ ?_); rfl; rfl) | (refine l_move ?_; (first | refine SXl.v (OpW.move rfl) rfl ?_ ?_ ?_); rfl; rfl) | (refine l_assign ?_; (first | refine SXl.v (OpW.assign rfl) rfl ?_ ?_ ?_); rfl; rfl) | (refine l_len ?_; (first | refine SXl.v (OpW.len rfl) rfl ?_ ?_ ?_); rfl; rfl) | (refine l_add ?_; (first | refine SXl.v (OpW.succ rfl rfl (by omega)) rfl ?_ ?_ ?_ | refine SXl.v (OpW.addi rfl rfl (by omega) (by omega)) rfl ?_ ?_ ?_ | refine SXl.v (OpW.add rfl rfl) rfl ?_ ?_ ?_); rfl; rfl) | (refine l_gtr ?_; (first | refine SXl.v (OpW.gtrT rfl rfl (by omega)) rfl ?_ ?_ ?_ | refine SXl.v (OpW.gtrF rfl rfl (by omega)) rfl ?_ ?_ ?_ | refine SXl.v (OpW.gtr rfl rfl) rfl ?_ ?_ ?_); rfl; rfl) | (refine l_neq ?_; (first | refine SXl.v (OpW.neqT rfl rfl (by omega)) rfl ?_ ?_ ?_ | refine SXl.v (OpW.neqF rfl rfl (by omega)) rfl ?_ ?_ ?_ | refine SXl.v (OpW.neq rfl rfl) rfl ?_ ?_ ?_); rfl; rfl) | (refine l_not ?_; (first | refine SXl.v (OpW.not rfl) rfl ?_ ?_ ?_); rfl; rfl) | (refine l_pick ?_; (first | refine SXl.v (OpW.pick rfl rfl rfl) rfl ?_ ?_ ?_); rfl; rfl) | (refine l_box ?_; refine SXl.box ?_ ?_ rfl rfl (fun g => ?_); rfl; rfl) | refine SX.ret ?_ | refine SX.exit ?_ | refine SQ.thenRet ?_ | refine SQ.thenExit ?_ | refine SQ.blockNormal ?_ | refine SQ.blockRet ?_ | refine SQ.blockExit ?_ | refine SQ.blockOther rfl ?_)
  refine SX.loop3 (fun (d : Nat) (n : Int) (_ : Unit) => d ≤ l.length ∧ depthF l (l.length + 1) n0 0 = depthF l (l.length + 1 - d) n d) (fun d _ _ => l.length + 1 - d) (fun _ _ _ => [⟨g, [.slice a l.length c], 61⟩]) (fun _ _ _ => []) (fun _ _ _ => []) (fun d n _ => [(1, .int .i64 n), (2, .pointer (some ⟨g, 0, none⟩)), (5, .int .i64 (d : Nat))]) 0 n0 () ⟨by omega, rfl⟩ ?_ (fun _ hl => hl) ?_
  · (repeat (first | exact subF_nil _ | (refine subF_cons rfl ?_) | (refine subF_consv rfl (by rfl) ?_)))
  · rintro d n _ ⟨hd, he⟩
    have hf : d ≤ l.length := hd
    · by_cases h0 : n = 0
      · subst h0
        have hv := he.trans (depthF_zero hf)
        repeat (first | refine SX.seq ?_ | refine SXl.nil ?_ | refine SX.region ?_ | refine SQ.thenNormal ?_ | refine SX.block ?_ | refine SX.skip ?_ | refine SX.condT rfl ?_ | refine SX.condF rfl ?_ | (refine SXl.no rfl rfl rfl ?_) | (refine l_call ?_; (first | refine SXl.v (OpW.call rfl (fun w hl => isNode_any _ _ _ _ _)) rfl ?_ ?_ ?_); rfl; rfl) | (refine l_load ?_; (first | refine SXl.v (OpW.load 0 rfl rfl rfl) rfl ?_ ?_ ?_ | refine SXl.v (OpW.load 1 rfl rfl rfl) rfl ?_ ?_ ?_ | refine SXl.v (OpW.load 2 rfl rfl rfl) rfl ?_ ?_ ?_ | refine SXl.v (OpW.load 3 rfl rfl rfl) rfl ?_ ?_ ?_ | refine SXl.v (OpW.loadOld rfl (by assumption) (fun h => h)) rfl ?_ ?_ ?_ | refine SXl.v (OpW.loadAll 0 rfl rfl rfl) rfl ?_ ?_ ?_ | refine SXl.v (OpW.loadAll 1 rfl rfl rfl) rfl ?_ ?_ ?_ | refine SXl.v (OpW.loadAll 2 rfl rfl rfl) rfl ?_ ?_ ?_ | refine SXl.v (OpW.loadAll 3 rfl rfl rfl) rfl ?_ ?_ ?_ | refine SXl.v (OpW.loadRow 0 rfl rfl rfl rfl) rfl ?_ ?_ ?_ | refine SXl.v (OpW.loadRow 1 rfl rfl rfl rfl) rfl ?_ ?_ ?_ | refine SXl.v (OpW.loadRow 2 rfl rfl rfl rfl) rfl ?_ ?_ ?_ | refine SXl.v (OpW.loadRow 3 rfl rfl rfl rfl) rfl ?_ ?_ ?_); rfl; rfl) | (refine l_fieldAddr ?_; (first | refine SXl.v (OpW.fieldAddr rfl) rfl ?_ ?_ ?_); rfl; rfl) | (refine l_move ?_; (first | refine SXl.v (OpW.move rfl) rfl ?_ ?_ ?_); rfl; rfl) | (refine l_assign ?_; (first | refine SXl.v (OpW.assign rfl) rfl ?_ ?_ ?_); rfl; rfl) | (refine l_len ?_; (first | refine SXl.v (OpW.len rfl) rfl ?_ ?_ ?_); rfl; rfl) | (refine l_add ?_; (first | refine SXl.v (OpW.succ rfl rfl (by omega)) rfl ?_ ?_ ?_ | refine SXl.v (OpW.addi rfl rfl (by omega) (by omega)) rfl ?_ ?_ ?_ | refine SXl.v (OpW.add rfl rfl) rfl ?_ ?_ ?_); rfl; rfl) | (refine l_gtr ?_; (first | refine SXl.v (OpW.gtrT rfl rfl (by omega)) rfl ?_ ?_ ?_ | refine SXl.v (OpW.gtrF rfl rfl (by omega)) rfl ?_ ?_ ?_ | refine SXl.v (OpW.gtr rfl rfl) rfl ?_ ?_ ?_); rfl; rfl) | (refine l_neq ?_; (first | refine SXl.v (OpW.neqT rfl rfl (by omega)) rfl ?_ ?_ ?_ | refine SXl.v (OpW.neqF rfl rfl (by omega)) rfl ?_ ?_ ?_ | refine SXl.v (OpW.neq rfl rfl) rfl ?_ ?_ ?_); rfl; rfl) | (refine l_not ?_; (first | refine SXl.v (OpW.not rfl) rfl ?_ ?_ ?_); rfl; rfl) | (refine l_pick ?_; (first | refine SXl.v (OpW.pick rfl rfl rfl) rfl ?_ ?_ ?_); rfl; rfl) | (refine l_box ?_; refine SXl.box ?_ ?_ rfl rfl (fun g => ?_); rfl; rfl) | refine SX.ret ?_ | refine SX.exit ?_ | refine SQ.thenRet ?_ | refine SQ.thenExit ?_ | refine SQ.blockNormal ?_ | refine SQ.blockRet ?_ | refine SQ.blockExit ?_ | refine SQ.blockOther rfl ?_)
        refine SQ.body1 rfl rfl (fun w' hl => ⟨by rw [hv], hl.mod⟩)
      · cases hq : inB n 1 l.length
        · have hv := he.trans (depthF_out hf h0 hq)
          repeat (first | refine SX.seq ?_ | refine SXl.nil ?_ | refine SX.region ?_ | refine SQ.thenNormal ?_ | refine SX.block ?_ | refine SX.skip ?_ | refine SX.condT rfl ?_ | refine SX.condF rfl ?_ | (refine SXl.no rfl rfl rfl ?_) | (refine l_call ?_; (first | refine SXl.v (OpW.call rfl (fun w hl => isNode_any _ _ _ _ _)) rfl ?_ ?_ ?_ | refine SXl.v (OpW.call rfl (fun w hl => isNode_any _ _ _ _ _)) rfl ?_ ?_ ?_); rfl; rfl) | (refine l_load ?_; (first | refine SXl.v (OpW.load 0 rfl rfl rfl) rfl ?_ ?_ ?_ | refine SXl.v (OpW.load 1 rfl rfl rfl) rfl ?_ ?_ ?_ | refine SXl.v (OpW.load 2 rfl rfl rfl) rfl ?_ ?_ ?_ | refine SXl.v (OpW.load 3 rfl rfl rfl) rfl ?_ ?_ ?_ | refine SXl.v (OpW.loadOld rfl (by assumption) (fun h => h)) rfl ?_ ?_ ?_ | refine SXl.v (OpW.loadAll 0 rfl rfl rfl) rfl ?_ ?_ ?_ | refine SXl.v (OpW.loadAll 1 rfl rfl rfl) rfl ?_ ?_ ?_ | refine SXl.v (OpW.loadAll 2 rfl rfl rfl) rfl ?_ ?_ ?_ | refine SXl.v (OpW.loadAll 3 rfl rfl rfl) rfl ?_ ?_ ?_ | refine SXl.v (OpW.loadRow 0 rfl rfl rfl rfl) rfl ?_ ?_ ?_ | refine SXl.v (OpW.loadRow 1 rfl rfl rfl rfl) rfl ?_ ?_ ?_ | refine SXl.v (OpW.loadRow 2 rfl rfl rfl rfl) rfl ?_ ?_ ?_ | refine SXl.v (OpW.loadRow 3 rfl rfl rfl rfl) rfl ?_ ?_ ?_); rfl; rfl) | (refine l_fieldAddr ?_; (first | refine SXl.v (OpW.fieldAddr rfl) rfl ?_ ?_ ?_); rfl; rfl) | (refine l_move ?_; (first | refine SXl.v (OpW.move rfl) rfl ?_ ?_ ?_); rfl; rfl) | (refine l_assign ?_; (first | refine SXl.v (OpW.assign rfl) rfl ?_ ?_ ?_); rfl; rfl) | (refine l_len ?_; (first | refine SXl.v (OpW.len rfl) rfl ?_ ?_ ?_); rfl; rfl) | (refine l_add ?_; (first | refine SXl.v (OpW.succ rfl rfl (by omega)) rfl ?_ ?_ ?_ | refine SXl.v (OpW.addi rfl rfl (by omega) (by omega)) rfl ?_ ?_ ?_ | refine SXl.v (OpW.add rfl rfl) rfl ?_ ?_ ?_); rfl; rfl) | (refine l_gtr ?_; (first | refine SXl.v (OpW.gtrT rfl rfl (by omega)) rfl ?_ ?_ ?_ | refine SXl.v (OpW.gtrF rfl rfl (by omega)) rfl ?_ ?_ ?_ | refine SXl.v (OpW.gtr rfl rfl) rfl ?_ ?_ ?_); rfl; rfl) | (refine l_neq ?_; (first | refine SXl.v (OpW.neqT rfl rfl (by omega)) rfl ?_ ?_ ?_ | refine SXl.v (OpW.neqF rfl rfl (by omega)) rfl ?_ ?_ ?_ | refine SXl.v (OpW.neq rfl rfl) rfl ?_ ?_ ?_); rfl; rfl) | (refine l_not ?_; (first | refine SXl.v (OpW.not rfl) rfl ?_ ?_ ?_); rfl; rfl) | (refine l_pick ?_; (first | refine SXl.v (OpW.pick rfl rfl rfl) rfl ?_ ?_ ?_); rfl; rfl) | (refine l_box ?_; refine SXl.box ?_ ?_ rfl rfl (fun g => ?_); rfl; rfl) | (rw [hq]) | refine SX.ret ?_ | refine SX.exit ?_ | refine SQ.thenRet ?_ | refine SQ.thenExit ?_ | refine SQ.blockNormal ?_ | refine SQ.blockRet ?_ | refine SQ.blockExit ?_ | refine SQ.blockOther rfl ?_)
          refine SQ.body1 rfl rfl (fun w' hl => ⟨by rw [hv]; first | done | rfl, hl.mod⟩)
        · by_cases hd2 : d + 1 ≤ l.length
          · obtain ⟨k, rfl, hlt⟩ := inB_node hq
            obtain ⟨b1, o1, x, r1, rfl, _, _, hxk, hr1, hl1, hc1⟩ := h.get hlt
            obtain ⟨ka, kc, ra, rc, rfl, hk1, ht1, _⟩ := hr1
            have hv := he.trans (depthF_up hf hxk.out)
            repeat (first | refine SX.seq ?_ | refine SXl.nil ?_ | refine SX.region ?_ | refine SQ.thenNormal ?_ | refine SX.block ?_ | refine SX.skip ?_ | refine SX.condT rfl ?_ | refine SX.condF rfl ?_ | (refine SXl.no rfl rfl rfl ?_) | (refine l_call ?_; (first | refine SXl.v (OpW.call rfl (fun w hl => isNode_any _ _ _ _ _)) rfl ?_ ?_ ?_ | refine SXl.v (OpW.call rfl (fun w hl => node_any _ _ _ _ k _ _ _ _ _ _ _ _ _ w (by omega) hlt (fun j v hv => hl.old (hc1 j v hv) (fun h => h)))) rfl ?_ ?_ ?_ | refine SXl.v (OpW.call rfl (fun w hl => isNode_any _ _ _ _ _)) rfl ?_ ?_ ?_); rfl; rfl) | (refine l_field ?_; (first | refine SXl.v (OpW.field rfl (nodeRow_a0 _ _ _ _ _ _ _ _ _)) rfl ?_ ?_ ?_); rfl; rfl) | (refine l_load ?_; (first | refine SXl.v (OpW.load 0 rfl rfl rfl) rfl ?_ ?_ ?_ | refine SXl.v (OpW.load 1 rfl rfl rfl) rfl ?_ ?_ ?_ | refine SXl.v (OpW.load 2 rfl rfl rfl) rfl ?_ ?_ ?_ | refine SXl.v (OpW.load 3 rfl rfl rfl) rfl ?_ ?_ ?_ | refine SXl.v (OpW.loadOld rfl (by assumption) (fun h => h)) rfl ?_ ?_ ?_ | refine SXl.v (OpW.loadAll 0 rfl rfl rfl) rfl ?_ ?_ ?_ | refine SXl.v (OpW.loadAll 1 rfl rfl rfl) rfl ?_ ?_ ?_ | refine SXl.v (OpW.loadAll 2 rfl rfl rfl) rfl ?_ ?_ ?_ | refine SXl.v (OpW.loadAll 3 rfl rfl rfl) rfl ?_ ?_ ?_ | refine SXl.v (OpW.loadRow 0 rfl rfl rfl rfl) rfl ?_ ?_ ?_ | refine SXl.v (OpW.loadRow 1 rfl rfl rfl rfl) rfl ?_ ?_ ?_ | refine SXl.v (OpW.loadRow 2 rfl rfl rfl rfl) rfl ?_ ?_ ?_ | refine SXl.v (OpW.loadRow 3 rfl rfl rfl rfl) rfl ?_ ?_ ?_); rfl; rfl) | (refine l_fieldAddr ?_; (first | refine SXl.v (OpW.fieldAddr rfl) rfl ?_ ?_ ?_); rfl; rfl) | (refine l_move ?_; (first | refine SXl.v (OpW.move rfl) rfl ?_ ?_ ?_); rfl; rfl) | (refine l_assign ?_; (first | refine SXl.v (OpW.assign rfl) rfl ?_ ?_ ?_); rfl; rfl) | (refine l_len ?_; (first | refine SXl.v (OpW.len rfl) rfl ?_ ?_ ?_); rfl; rfl) | (refine l_add ?_; (first | refine SXl.v (OpW.succ rfl rfl (by omega)) rfl ?_ ?_ ?_ | refine SXl.v (OpW.addi rfl rfl (by omega) (by omega)) rfl ?_ ?_ ?_ | refine SXl.v (OpW.add rfl rfl) rfl ?_ ?_ ?_); rfl; rfl) | (refine l_gtr ?_; (first | refine SXl.v (OpW.gtrT rfl rfl (by omega)) rfl ?_ ?_ ?_ | refine SXl.v (OpW.gtrF rfl rfl (by omega)) rfl ?_ ?_ ?_ | refine SXl.v (OpW.gtr rfl rfl) rfl ?_ ?_ ?_); rfl; rfl) | (refine l_neq ?_; (first | refine SXl.v (OpW.neqT rfl rfl (by omega)) rfl ?_ ?_ ?_ | refine SXl.v (OpW.neqF rfl rfl (by omega)) rfl ?_ ?_ ?_ | refine SXl.v (OpW.neq rfl rfl) rfl ?_ ?_ ?_); rfl; rfl) | (refine l_not ?_; (first | refine SXl.v (OpW.not rfl) rfl ?_ ?_ ?_); rfl; rfl) | (refine l_pick ?_; (first | refine SXl.v (OpW.pick rfl rfl rfl) rfl ?_ ?_ ?_); rfl; rfl) | (refine l_box ?_; refine SXl.box ?_ ?_ rfl rfl (fun g => ?_); rfl; rfl) | (rw [hq]) | refine SX.ret ?_ | refine SX.exit ?_ | refine SQ.thenRet ?_ | refine SQ.thenExit ?_ | refine SQ.blockNormal ?_ | refine SQ.blockRet ?_ | refine SQ.blockExit ?_ | refine SQ.blockOther rfl ?_)
            refine SQ.round3 (d + 1) x.up () ⟨by omega, hv⟩ (by omega) ?_ (fun _ hl => hl)
            (repeat (first | exact subF_nil _ | (refine subF_cons rfl ?_) | (refine subF_consv rfl (by rfl) ?_)))
          · have hv := he.trans (depthF_end (d := d) (n := n) hf (by omega) h0)
            repeat (first | refine SX.seq ?_ | refine SXl.nil ?_ | refine SX.region ?_ | refine SQ.thenNormal ?_ | refine SX.block ?_ | refine SX.skip ?_ | refine SX.condT rfl ?_ | refine SX.condF rfl ?_ | (refine SXl.no rfl rfl rfl ?_) | (refine l_call ?_; (first | refine SXl.v (OpW.call rfl (fun w hl => isNode_any _ _ _ _ _)) rfl ?_ ?_ ?_ | refine SXl.v (OpW.call rfl (fun w hl => isNode_any _ _ _ _ _)) rfl ?_ ?_ ?_); rfl; rfl) | (refine l_load ?_; (first | refine SXl.v (OpW.load 0 rfl rfl rfl) rfl ?_ ?_ ?_ | refine SXl.v (OpW.load 1 rfl rfl rfl) rfl ?_ ?_ ?_ | refine SXl.v (OpW.load 2 rfl rfl rfl) rfl ?_ ?_ ?_ | refine SXl.v (OpW.load 3 rfl rfl rfl) rfl ?_ ?_ ?_ | refine SXl.v (OpW.loadOld rfl (by assumption) (fun h => h)) rfl ?_ ?_ ?_ | refine SXl.v (OpW.loadAll 0 rfl rfl rfl) rfl ?_ ?_ ?_ | refine SXl.v (OpW.loadAll 1 rfl rfl rfl) rfl ?_ ?_ ?_ | refine SXl.v (OpW.loadAll 2 rfl rfl rfl) rfl ?_ ?_ ?_ | refine SXl.v (OpW.loadAll 3 rfl rfl rfl) rfl ?_ ?_ ?_ | refine SXl.v (OpW.loadRow 0 rfl rfl rfl rfl) rfl ?_ ?_ ?_ | refine SXl.v (OpW.loadRow 1 rfl rfl rfl rfl) rfl ?_ ?_ ?_ | refine SXl.v (OpW.loadRow 2 rfl rfl rfl rfl) rfl ?_ ?_ ?_ | refine SXl.v (OpW.loadRow 3 rfl rfl rfl rfl) rfl ?_ ?_ ?_); rfl; rfl) | (refine l_fieldAddr ?_; (first | refine SXl.v (OpW.fieldAddr rfl) rfl ?_ ?_ ?_); rfl; rfl) | (refine l_move ?_; (first | refine SXl.v (OpW.move rfl) rfl ?_ ?_ ?_); rfl; rfl) | (refine l_assign ?_; (first | refine SXl.v (OpW.assign rfl) rfl ?_ ?_ ?_); rfl; rfl) | (refine l_len ?_; (first | refine SXl.v (OpW.len rfl) rfl ?_ ?_ ?_); rfl; rfl) | (refine l_add ?_; (first | refine SXl.v (OpW.succ rfl rfl (by omega)) rfl ?_ ?_ ?_ | refine SXl.v (OpW.addi rfl rfl (by omega) (by omega)) rfl ?_ ?_ ?_ | refine SXl.v (OpW.add rfl rfl) rfl ?_ ?_ ?_); rfl; rfl) | (refine l_gtr ?_; (first | refine SXl.v (OpW.gtrT rfl rfl (by omega)) rfl ?_ ?_ ?_ | refine SXl.v (OpW.gtrF rfl rfl (by omega)) rfl ?_ ?_ ?_ | refine SXl.v (OpW.gtr rfl rfl) rfl ?_ ?_ ?_); rfl; rfl) | (refine l_neq ?_; (first | refine SXl.v (OpW.neqT rfl rfl (by omega)) rfl ?_ ?_ ?_ | refine SXl.v (OpW.neqF rfl rfl (by omega)) rfl ?_ ?_ ?_ | refine SXl.v (OpW.neq rfl rfl) rfl ?_ ?_ ?_); rfl; rfl) | (refine l_not ?_; (first | refine SXl.v (OpW.not rfl) rfl ?_ ?_ ?_); rfl; rfl) | (refine l_pick ?_; (first | refine SXl.v (OpW.pick rfl rfl rfl) rfl ?_ ?_ ?_); rfl; rfl) | (refine l_box ?_; refine SXl.box ?_ ?_ rfl rfl (fun g => ?_); rfl; rfl) | (rw [hq]) | refine SX.ret ?_ | refine SX.exit ?_ | refine SQ.thenRet ?_ | refine SQ.thenExit ?_ | refine SQ.blockNormal ?_ | refine SQ.blockRet ?_ | refine SQ.blockExit ?_ | refine SQ.blockOther rfl ?_)
            refine SQ.body1 rfl rfl (fun w' hl => ⟨by rw [hv]; first | done | rfl, hl.mod⟩)

set_option maxRecDepth 100000 in
set_option maxHeartbeats 4000000 in
theorem sdepthOf_any (l : List Node) (n0 : Int) (o : Bool) (a : Option Addr) (c : Nat) (R : Nat → Prop) (w : World) (hlen : l.length ≤ 1048576) (h : NodeSlice o R w a l) :
    Calls Try.prog 130 #[.agg #[.slice a l.length c], .int .i64 n0] w fun e w' => e = .returned (.int .i64 (depthF l (l.length + 1) n0 0)) ∧ Mod (fun _ => False) w w' := by
  refine calls_sx Try.func130 rfl rfl (fun a h1 h2 h3 => ((Fr.nil h1 h2).arg (h3 1 _ rfl)).arg (h3 0 _ rfl)) ?_
  repeat (first | refine SX.seq ?_ | refine SXl.nil ?_ | refine SX.region ?_ | refine SQ.thenNormal ?_ | refine SX.block ?_ | refine SX.skip ?_ | refine SX.condT rfl ?_ | refine SX.condF rfl ?_ | (refine l_call ?_; (first | refine SXl.v (OpW.call rfl (fun w hl => sisNode_any _ _ _ _ _)) rfl ?_ ?_ ?_); rfl; rfl) | (refine l_load ?_; (first | refine SXl.v (OpW.load 0 rfl rfl rfl) rfl ?_ ?_ ?_ | refine SXl.v (OpW.load 1 rfl rfl rfl) rfl ?_ ?_ ?_ | refine SXl.v (OpW.load 2 rfl rfl rfl) rfl ?_ ?_ ?_ | refine SXl.v (OpW.load 3 rfl rfl rfl) rfl ?_ ?_ ?_ | refine SXl.v (OpW.loadOld rfl (by assumption) (fun h => h)) rfl ?_ ?_ ?_ | refine SXl.v (OpW.loadAll 0 rfl rfl rfl) rfl ?_ ?_ ?_ | refine SXl.v (OpW.loadAll 1 rfl rfl rfl) rfl ?_ ?_ ?_ | refine SXl.v (OpW.loadAll 2 rfl rfl rfl) rfl ?_ ?_ ?_ | refine SXl.v (OpW.loadAll 3 rfl rfl rfl) rfl ?_ ?_ ?_ | refine SXl.v (OpW.loadRow 0 rfl rfl rfl rfl) rfl ?_ ?_ ?_ | refine SXl.v (OpW.loadRow 1 rfl rfl rfl rfl) rfl ?_ ?_ ?_ | refine SXl.v (OpW.loadRow 2 rfl rfl rfl rfl) rfl ?_ ?_ ?_ | refine SXl.v (OpW.loadRow 3 rfl rfl rfl rfl) rfl ?_ ?_ ?_); rfl; rfl) | (refine l_fieldAddr ?_; (first | refine SXl.v (OpW.fieldAddr rfl) rfl ?_ ?_ ?_); rfl; rfl) | (refine l_move ?_; (first | refine SXl.v (OpW.move rfl) rfl ?_ ?_ ?_); rfl; rfl) | (refine l_assign ?_; (first | refine SXl.v (OpW.assign rfl) rfl ?_ ?_ ?_); rfl; rfl) | (refine l_len ?_; (first | refine SXl.v (OpW.len rfl) rfl ?_ ?_ ?_); rfl; rfl) | (refine l_add ?_; (first | refine SXl.v (OpW.succ rfl rfl (by omega)) rfl ?_ ?_ ?_ | refine SXl.v (OpW.addi rfl rfl (by omega) (by omega)) rfl ?_ ?_ ?_ | refine SXl.v (OpW.add rfl rfl) rfl ?_ ?_ ?_); rfl; rfl) | (refine l_eql ?_; (first | refine SXl.v (OpW.eqlT rfl rfl (by omega)) rfl ?_ ?_ ?_ | refine SXl.v (OpW.eqlF rfl rfl (by omega)) rfl ?_ ?_ ?_ | refine SXl.v (OpW.eql rfl rfl) rfl ?_ ?_ ?_); rfl; rfl) | (refine l_leq ?_; (first | refine SXl.v (OpW.leqT rfl rfl (by omega)) rfl ?_ ?_ ?_ | refine SXl.v (OpW.leqF rfl rfl (by omega)) rfl ?_ ?_ ?_ | refine SXl.v (OpW.leq rfl rfl) rfl ?_ ?_ ?_); rfl; rfl) | (refine l_not ?_; (first | refine SXl.v (OpW.not rfl) rfl ?_ ?_ ?_); rfl; rfl) | (refine l_box ?_; refine SXl.box ?_ ?_ rfl rfl (fun g => ?_); rfl; rfl) | refine SX.ret ?_ | refine SX.exit ?_ | refine SQ.thenRet ?_ | refine SQ.thenExit ?_ | refine SQ.blockNormal ?_ | refine SQ.blockRet ?_ | refine SQ.blockExit ?_ | refine SQ.blockOther rfl ?_)
  refine SX.loop3 (fun (d : Nat) (n : Int) (_ : Unit) => d ≤ l.length + 1 ∧ depthF l (l.length + 1) n0 0 = depthF l (l.length + 1 - d) n d) (fun d _ _ => l.length + 1 - d) (fun _ _ _ => [⟨g, [.slice a l.length c], 61⟩]) (fun _ _ _ => []) (fun _ _ _ => []) (fun d n _ => [(1, .int .i64 n), (2, .pointer (some ⟨g, 0, none⟩)), (5, .int .i64 (d : Nat))]) 0 n0 () ⟨by omega, rfl⟩ ?_ (fun _ hl => hl) ?_
  · (repeat (first | exact subF_nil _ | (refine subF_cons rfl ?_) | (refine subF_consv rfl (by rfl) ?_)))
  · rintro d n _ ⟨hd, he⟩
    · by_cases hf : d ≤ l.length
      · by_cases h0 : n = 0
        · subst h0
          have hv := he.trans (depthF_zero hf)
          repeat (first | refine SX.seq ?_ | refine SXl.nil ?_ | refine SX.region ?_ | refine SQ.thenNormal ?_ | refine SX.block ?_ | refine SX.skip ?_ | refine SX.condT rfl ?_ | refine SX.condF rfl ?_ | (refine l_call ?_; (first | refine SXl.v (OpW.call rfl (fun w hl => sisNode_any _ _ _ _ _)) rfl ?_ ?_ ?_); rfl; rfl) | (refine l_load ?_; (first | refine SXl.v (OpW.load 0 rfl rfl rfl) rfl ?_ ?_ ?_ | refine SXl.v (OpW.load 1 rfl rfl rfl) rfl ?_ ?_ ?_ | refine SXl.v (OpW.load 2 rfl rfl rfl) rfl ?_ ?_ ?_ | refine SXl.v (OpW.load 3 rfl rfl rfl) rfl ?_ ?_ ?_ | refine SXl.v (OpW.loadOld rfl (by assumption) (fun h => h)) rfl ?_ ?_ ?_ | refine SXl.v (OpW.loadAll 0 rfl rfl rfl) rfl ?_ ?_ ?_ | refine SXl.v (OpW.loadAll 1 rfl rfl rfl) rfl ?_ ?_ ?_ | refine SXl.v (OpW.loadAll 2 rfl rfl rfl) rfl ?_ ?_ ?_ | refine SXl.v (OpW.loadAll 3 rfl rfl rfl) rfl ?_ ?_ ?_ | refine SXl.v (OpW.loadRow 0 rfl rfl rfl rfl) rfl ?_ ?_ ?_ | refine SXl.v (OpW.loadRow 1 rfl rfl rfl rfl) rfl ?_ ?_ ?_ | refine SXl.v (OpW.loadRow 2 rfl rfl rfl rfl) rfl ?_ ?_ ?_ | refine SXl.v (OpW.loadRow 3 rfl rfl rfl rfl) rfl ?_ ?_ ?_); rfl; rfl) | (refine l_fieldAddr ?_; (first | refine SXl.v (OpW.fieldAddr rfl) rfl ?_ ?_ ?_); rfl; rfl) | (refine l_move ?_; (first | refine SXl.v (OpW.move rfl) rfl ?_ ?_ ?_); rfl; rfl) | (refine l_assign ?_; (first | refine SXl.v (OpW.assign rfl) rfl ?_ ?_ ?_); rfl; rfl) | (refine l_len ?_; (first | refine SXl.v (OpW.len rfl) rfl ?_ ?_ ?_); rfl; rfl) | (refine l_add ?_; (first | refine SXl.v (OpW.succ rfl rfl (by omega)) rfl ?_ ?_ ?_ | refine SXl.v (OpW.addi rfl rfl (by omega) (by omega)) rfl ?_ ?_ ?_ | refine SXl.v (OpW.add rfl rfl) rfl ?_ ?_ ?_); rfl; rfl) | (refine l_eql ?_; (first | refine SXl.v (OpW.eqlT rfl rfl (by omega)) rfl ?_ ?_ ?_ | refine SXl.v (OpW.eqlF rfl rfl (by omega)) rfl ?_ ?_ ?_ | refine SXl.v (OpW.eql rfl rfl) rfl ?_ ?_ ?_); rfl; rfl) | (refine l_leq ?_; (first | refine SXl.v (OpW.leqT rfl rfl (by omega)) rfl ?_ ?_ ?_ | refine SXl.v (OpW.leqF rfl rfl (by omega)) rfl ?_ ?_ ?_ | refine SXl.v (OpW.leq rfl rfl) rfl ?_ ?_ ?_); rfl; rfl) | (refine l_not ?_; (first | refine SXl.v (OpW.not rfl) rfl ?_ ?_ ?_); rfl; rfl) | (refine l_box ?_; refine SXl.box ?_ ?_ rfl rfl (fun g => ?_); rfl; rfl) | refine SX.ret ?_ | refine SX.exit ?_ | refine SQ.thenRet ?_ | refine SQ.thenExit ?_ | refine SQ.blockNormal ?_ | refine SQ.blockRet ?_ | refine SQ.blockExit ?_ | refine SQ.blockOther rfl ?_)
          refine SQ.body1 rfl rfl (fun w' hl => ⟨by rw [hv], hl.mod⟩)
        · cases hq : inB n 1 l.length
          · have hv := he.trans (depthF_out hf h0 hq)
            repeat (first | refine SX.seq ?_ | refine SXl.nil ?_ | refine SX.region ?_ | refine SQ.thenNormal ?_ | refine SX.block ?_ | refine SX.skip ?_ | refine SX.condT rfl ?_ | refine SX.condF rfl ?_ | (refine l_call ?_; (first | refine SXl.v (OpW.call rfl (fun w hl => sisNode_any _ _ _ _ _)) rfl ?_ ?_ ?_ | refine SXl.v (OpW.call rfl (fun w hl => sisNode_any _ _ _ _ _)) rfl ?_ ?_ ?_); rfl; rfl) | (refine l_load ?_; (first | refine SXl.v (OpW.load 0 rfl rfl rfl) rfl ?_ ?_ ?_ | refine SXl.v (OpW.load 1 rfl rfl rfl) rfl ?_ ?_ ?_ | refine SXl.v (OpW.load 2 rfl rfl rfl) rfl ?_ ?_ ?_ | refine SXl.v (OpW.load 3 rfl rfl rfl) rfl ?_ ?_ ?_ | refine SXl.v (OpW.loadOld rfl (by assumption) (fun h => h)) rfl ?_ ?_ ?_ | refine SXl.v (OpW.loadAll 0 rfl rfl rfl) rfl ?_ ?_ ?_ | refine SXl.v (OpW.loadAll 1 rfl rfl rfl) rfl ?_ ?_ ?_ | refine SXl.v (OpW.loadAll 2 rfl rfl rfl) rfl ?_ ?_ ?_ | refine SXl.v (OpW.loadAll 3 rfl rfl rfl) rfl ?_ ?_ ?_ | refine SXl.v (OpW.loadRow 0 rfl rfl rfl rfl) rfl ?_ ?_ ?_ | refine SXl.v (OpW.loadRow 1 rfl rfl rfl rfl) rfl ?_ ?_ ?_ | refine SXl.v (OpW.loadRow 2 rfl rfl rfl rfl) rfl ?_ ?_ ?_ | refine SXl.v (OpW.loadRow 3 rfl rfl rfl rfl) rfl ?_ ?_ ?_); rfl; rfl) | (refine l_fieldAddr ?_; (first | refine SXl.v (OpW.fieldAddr rfl) rfl ?_ ?_ ?_); rfl; rfl) | (refine l_move ?_; (first | refine SXl.v (OpW.move rfl) rfl ?_ ?_ ?_); rfl; rfl) | (refine l_assign ?_; (first | refine SXl.v (OpW.assign rfl) rfl ?_ ?_ ?_); rfl; rfl) | (refine l_len ?_; (first | refine SXl.v (OpW.len rfl) rfl ?_ ?_ ?_); rfl; rfl) | (refine l_add ?_; (first | refine SXl.v (OpW.succ rfl rfl (by omega)) rfl ?_ ?_ ?_ | refine SXl.v (OpW.addi rfl rfl (by omega) (by omega)) rfl ?_ ?_ ?_ | refine SXl.v (OpW.add rfl rfl) rfl ?_ ?_ ?_); rfl; rfl) | (refine l_eql ?_; (first | refine SXl.v (OpW.eqlT rfl rfl (by omega)) rfl ?_ ?_ ?_ | refine SXl.v (OpW.eqlF rfl rfl (by omega)) rfl ?_ ?_ ?_ | refine SXl.v (OpW.eql rfl rfl) rfl ?_ ?_ ?_); rfl; rfl) | (refine l_leq ?_; (first | refine SXl.v (OpW.leqT rfl rfl (by omega)) rfl ?_ ?_ ?_ | refine SXl.v (OpW.leqF rfl rfl (by omega)) rfl ?_ ?_ ?_ | refine SXl.v (OpW.leq rfl rfl) rfl ?_ ?_ ?_); rfl; rfl) | (refine l_not ?_; (first | refine SXl.v (OpW.not rfl) rfl ?_ ?_ ?_); rfl; rfl) | (refine l_box ?_; refine SXl.box ?_ ?_ rfl rfl (fun g => ?_); rfl; rfl) | (rw [hq]) | refine SX.ret ?_ | refine SX.exit ?_ | refine SQ.thenRet ?_ | refine SQ.thenExit ?_ | refine SQ.blockNormal ?_ | refine SQ.blockRet ?_ | refine SQ.blockExit ?_ | refine SQ.blockOther rfl ?_)
            refine SQ.body1 rfl rfl (fun w' hl => ⟨by rw [hv]; first | done | rfl, hl.mod⟩)
          · obtain ⟨k, rfl, hlt⟩ := inB_node hq
            obtain ⟨b1, o1, x, r1, rfl, _, _, hxk, hr1, hl1, hc1⟩ := h.get hlt
            obtain ⟨ka, kc, ra, rc, rfl, hk1, ht1, _⟩ := hr1
            have hv := he.trans (depthF_up hf hxk.out)
            repeat (first | refine SX.seq ?_ | refine SXl.nil ?_ | refine SX.region ?_ | refine SQ.thenNormal ?_ | refine SX.block ?_ | refine SX.skip ?_ | refine SX.condT rfl ?_ | refine SX.condF rfl ?_ | (refine l_call ?_; (first | refine SXl.v (OpW.call rfl (fun w hl => sisNode_any _ _ _ _ _)) rfl ?_ ?_ ?_ | refine SXl.v (OpW.call rfl (fun w hl => snode_any _ _ _ _ k _ _ _ _ _ _ _ _ _ w (by omega) hlt (fun j v hv => hl.old (hc1 j v hv) (fun h => h)))) rfl ?_ ?_ ?_ | refine SXl.v (OpW.call rfl (fun w hl => sisNode_any _ _ _ _ _)) rfl ?_ ?_ ?_); rfl; rfl) | (refine l_field ?_; (first | refine SXl.v (OpW.field rfl (nodeRow_a0 _ _ _ _ _ _ _ _ _)) rfl ?_ ?_ ?_); rfl; rfl) | (refine l_load ?_; (first | refine SXl.v (OpW.load 0 rfl rfl rfl) rfl ?_ ?_ ?_ | refine SXl.v (OpW.load 1 rfl rfl rfl) rfl ?_ ?_ ?_ | refine SXl.v (OpW.load 2 rfl rfl rfl) rfl ?_ ?_ ?_ | refine SXl.v (OpW.load 3 rfl rfl rfl) rfl ?_ ?_ ?_ | refine SXl.v (OpW.loadOld rfl (by assumption) (fun h => h)) rfl ?_ ?_ ?_ | refine SXl.v (OpW.loadAll 0 rfl rfl rfl) rfl ?_ ?_ ?_ | refine SXl.v (OpW.loadAll 1 rfl rfl rfl) rfl ?_ ?_ ?_ | refine SXl.v (OpW.loadAll 2 rfl rfl rfl) rfl ?_ ?_ ?_ | refine SXl.v (OpW.loadAll 3 rfl rfl rfl) rfl ?_ ?_ ?_ | refine SXl.v (OpW.loadRow 0 rfl rfl rfl rfl) rfl ?_ ?_ ?_ | refine SXl.v (OpW.loadRow 1 rfl rfl rfl rfl) rfl ?_ ?_ ?_ | refine SXl.v (OpW.loadRow 2 rfl rfl rfl rfl) rfl ?_ ?_ ?_ | refine SXl.v (OpW.loadRow 3 rfl rfl rfl rfl) rfl ?_ ?_ ?_); rfl; rfl) | (refine l_fieldAddr ?_; (first | refine SXl.v (OpW.fieldAddr rfl) rfl ?_ ?_ ?_); rfl; rfl) | (refine l_move ?_; (first | refine SXl.v (OpW.move rfl) rfl ?_ ?_ ?_); rfl; rfl) | (refine l_assign ?_; (first | refine SXl.v (OpW.assign rfl) rfl ?_ ?_ ?_); rfl; rfl) | (refine l_len ?_; (first | refine SXl.v (OpW.len rfl) rfl ?_ ?_ ?_); rfl; rfl) | (refine l_add ?_; (first | refine SXl.v (OpW.succ rfl rfl (by omega)) rfl ?_ ?_ ?_ | refine SXl.v (OpW.addi rfl rfl (by omega) (by omega)) rfl ?_ ?_ ?_ | refine SXl.v (OpW.add rfl rfl) rfl ?_ ?_ ?_); rfl; rfl) | (refine l_eql ?_; (first | refine SXl.v (OpW.eqlT rfl rfl (by omega)) rfl ?_ ?_ ?_ | refine SXl.v (OpW.eqlF rfl rfl (by omega)) rfl ?_ ?_ ?_ | refine SXl.v (OpW.eql rfl rfl) rfl ?_ ?_ ?_); rfl; rfl) | (refine l_leq ?_; (first | refine SXl.v (OpW.leqT rfl rfl (by omega)) rfl ?_ ?_ ?_ | refine SXl.v (OpW.leqF rfl rfl (by omega)) rfl ?_ ?_ ?_ | refine SXl.v (OpW.leq rfl rfl) rfl ?_ ?_ ?_); rfl; rfl) | (refine l_not ?_; (first | refine SXl.v (OpW.not rfl) rfl ?_ ?_ ?_); rfl; rfl) | (refine l_box ?_; refine SXl.box ?_ ?_ rfl rfl (fun g => ?_); rfl; rfl) | (rw [hq]) | refine SX.ret ?_ | refine SX.exit ?_ | refine SQ.thenRet ?_ | refine SQ.thenExit ?_ | refine SQ.blockNormal ?_ | refine SQ.blockRet ?_ | refine SQ.blockExit ?_ | refine SQ.blockOther rfl ?_)
            refine SQ.round3 (d + 1) x.up () ⟨by omega, hv⟩ (by omega) ?_ (fun _ hl => hl)
            (repeat (first | exact subF_nil _ | (refine subF_cons rfl ?_) | (refine subF_consv rfl (by rfl) ?_)))
      · have hv := he.trans (depthF_over (n := n) (by omega))
        repeat (first | refine SX.seq ?_ | refine SXl.nil ?_ | refine SX.region ?_ | refine SQ.thenNormal ?_ | refine SX.block ?_ | refine SX.skip ?_ | refine SX.condT rfl ?_ | refine SX.condF rfl ?_ | (refine l_call ?_; (first | refine SXl.v (OpW.call rfl (fun w hl => sisNode_any _ _ _ _ _)) rfl ?_ ?_ ?_); rfl; rfl) | (refine l_load ?_; (first | refine SXl.v (OpW.load 0 rfl rfl rfl) rfl ?_ ?_ ?_ | refine SXl.v (OpW.load 1 rfl rfl rfl) rfl ?_ ?_ ?_ | refine SXl.v (OpW.load 2 rfl rfl rfl) rfl ?_ ?_ ?_ | refine SXl.v (OpW.load 3 rfl rfl rfl) rfl ?_ ?_ ?_ | refine SXl.v (OpW.loadOld rfl (by assumption) (fun h => h)) rfl ?_ ?_ ?_ | refine SXl.v (OpW.loadAll 0 rfl rfl rfl) rfl ?_ ?_ ?_ | refine SXl.v (OpW.loadAll 1 rfl rfl rfl) rfl ?_ ?_ ?_ | refine SXl.v (OpW.loadAll 2 rfl rfl rfl) rfl ?_ ?_ ?_ | refine SXl.v (OpW.loadAll 3 rfl rfl rfl) rfl ?_ ?_ ?_ | refine SXl.v (OpW.loadRow 0 rfl rfl rfl rfl) rfl ?_ ?_ ?_ | refine SXl.v (OpW.loadRow 1 rfl rfl rfl rfl) rfl ?_ ?_ ?_ | refine SXl.v (OpW.loadRow 2 rfl rfl rfl rfl) rfl ?_ ?_ ?_ | refine SXl.v (OpW.loadRow 3 rfl rfl rfl rfl) rfl ?_ ?_ ?_); rfl; rfl) | (refine l_fieldAddr ?_; (first | refine SXl.v (OpW.fieldAddr rfl) rfl ?_ ?_ ?_); rfl; rfl) | (refine l_move ?_; (first | refine SXl.v (OpW.move rfl) rfl ?_ ?_ ?_); rfl; rfl) | (refine l_assign ?_; (first | refine SXl.v (OpW.assign rfl) rfl ?_ ?_ ?_); rfl; rfl) | (refine l_len ?_; (first | refine SXl.v (OpW.len rfl) rfl ?_ ?_ ?_); rfl; rfl) | (refine l_add ?_; (first | refine SXl.v (OpW.succ rfl rfl (by omega)) rfl ?_ ?_ ?_ | refine SXl.v (OpW.addi rfl rfl (by omega) (by omega)) rfl ?_ ?_ ?_ | refine SXl.v (OpW.add rfl rfl) rfl ?_ ?_ ?_); rfl; rfl) | (refine l_eql ?_; (first | refine SXl.v (OpW.eqlT rfl rfl (by omega)) rfl ?_ ?_ ?_ | refine SXl.v (OpW.eqlF rfl rfl (by omega)) rfl ?_ ?_ ?_ | refine SXl.v (OpW.eql rfl rfl) rfl ?_ ?_ ?_); rfl; rfl) | (refine l_leq ?_; (first | refine SXl.v (OpW.leqT rfl rfl (by omega)) rfl ?_ ?_ ?_ | refine SXl.v (OpW.leqF rfl rfl (by omega)) rfl ?_ ?_ ?_ | refine SXl.v (OpW.leq rfl rfl) rfl ?_ ?_ ?_); rfl; rfl) | (refine l_not ?_; (first | refine SXl.v (OpW.not rfl) rfl ?_ ?_ ?_); rfl; rfl) | (refine l_box ?_; refine SXl.box ?_ ?_ rfl rfl (fun g => ?_); rfl; rfl) | refine SX.ret ?_ | refine SX.exit ?_ | refine SQ.thenRet ?_ | refine SQ.thenExit ?_ | refine SQ.blockNormal ?_ | refine SQ.blockRet ?_ | refine SQ.blockExit ?_ | refine SQ.blockOther rfl ?_)
        refine SQ.body1 rfl rfl (fun w' hl => ⟨by rw [hv]; first | done | rfl, hl.mod⟩)

end Go.Proofs.Ytcolkidnjojlmaa
