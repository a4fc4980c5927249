/-
  PROVED: contracts of the exact laws' functions at trees: copy, comparison, count, reading. No condition but a bound on the lengths.
-/
import Derived.Test.YtcolkidnjojlmaaNodeS
import Derived.Test.YtcolkidnjojlmaaStyleRd
namespace Go.Proofs.Ytcolkidnjojlmaa
open Go.RowKit

theorem NodeSlice.wide {o : Bool} {R S : Nat → Prop} {w : World} {a : Option Addr} {l : List Node} (h : NodeSlice o R w a l) (hs : ∀ k, k < w.heap.size → R k → S k) : NodeSlice o S w a l := SliceAt.wideBy h hs fun _ _ hx => hx.wide hs
/-- A tree, read from its cells; o: it may be written. -/
def TreeIn (o : Bool) (R : Nat → Prop) (w : World) (cs : List Value) (l : List Node) : Prop :=
  ∃ a c, cs = [.slice a l.length c] ∧ NodeSlice o R w a l ∧ (o = true → Wr 137 64 R w a l.length)
theorem TreeIn.mod {o : Bool} {R S : Nat → Prop} {w w' : World} {cs : List Value} {x : List Node} (h : TreeIn o R w cs x) (hm : Mod S w w') (hs : ∀ k, R k → ¬ S k) : TreeIn o R w' cs x := by
  obtain ⟨a, c, h1, h2, h3⟩ := h
  exact ⟨a, c, h1, NodeSlice.mod h2 hm hs, fun ho => (h3 ho).mod hm hs⟩
theorem TreeIn.keep {o : Bool} {R : Nat → Prop} {w w' : World} {cs : List Value} {x : List Node} (h : TreeIn o R w cs x) (hm : Mod (fun _ => False) w w') : TreeIn o R w' cs x := h.mod hm fun _ _ f => f
theorem TreeIn.wide {o : Bool} {R S : Nat → Prop} {w : World} {cs : List Value} {x : List Node} (h : TreeIn o R w cs x) (hs : ∀ k, k < w.heap.size → R k → S k) : TreeIn o S w cs x := by
  obtain ⟨a, c, h1, h2, h3⟩ := h
  exact ⟨a, c, h1, NodeSlice.wide h2 hs, fun ho => (h3 ho).weaken hs⟩
/-- Lengths that a walk can bear. -/
def treeFits (n : Nat) (l : List Node) : Prop := l.length ≤ n ∧ ∀ x ∈ l, x.fits n
def treeCost (l : List Node) : Nat := l.length + costs Node.cost l
theorem treeFits_of {l : List Node} {n : Nat} (h : treeCost l ≤ n) : treeFits n l := by
  unfold treeCost at h
  refine ⟨by omega, fun x hx => ?_⟩
  have := costs_mem Node.cost hx
  have e : x.cost = x.kids.length + x.rules.length := rfl
  unfold Node.fits
  omega

set_option maxHeartbeats 2000000 in
theorem toTree_any (x : List Node) (o : Bool) (cs : List Value) (R : Nat → Prop) (w : World) (hf : treeFits 1048576 x) (h : TreeIn o R w cs x) :
    Calls Try.prog 48 #[.agg cs.toArray] w fun e w' => ∃ cs', e = .returned (.agg cs'.toArray) ∧ TreeIn true (fun b => w.heap.size ≤ b) w' cs' x ∧ Mod (fun _ => False) w w' := by
  obtain ⟨a, c, rfl, h1, _⟩ := h
  obtain ⟨f1, f2⟩ := hf
  have H1 := hid h1
  have F2 := hid f2
  clear h1 f2
  go_enter Try.func48, Try.ntmps48
  go_wp2_with fail
  refine (toNodeS_any x o _ _ R _ f1 F2.out (H1.out.keep (by (repeat (first | with_reducible exact Mod.refl _ _ | with_reducible refine Mod.drewN ?_ _ | with_reducible refine Mod.drew ?_ | with_reducible refine Mod.alloc ?_ _ | ((with_reducible refine Mod.setNew ?_ ?_ _ _ _); (rotate_left; omega)) | with_reducible refine Mod.setAt ?_ _ _ _ ))))).mono ?_
  intro e w1 hh
  obtain ⟨g1, rfl, hg1, s1, u1, hm1⟩ := hh.use
  obtain ⟨hq1, hz1⟩ := mcell hm1
  have hs1 := hm1.size
  repeat (first | rw [World.size_alloc] at hs1 | rw [World.size_setCell] at hs1 | rw [World.size_drew] at hs1 | unfold World.drewN at hs1)
  have hr1_0 : w.heap.size < w1.heap.size := by omega
  have hr1_1 : w.heap.size + 1 < w1.heap.size := by omega
  have hr1_2 : w.heap.size + 1 + 1 < w1.heap.size := by omega
  have hM1 : Mod (fun _ => False) w w1 := by (repeat (first | with_reducible exact Mod.refl _ _ | with_reducible refine Mod.drewN ?_ _ | with_reducible refine Mod.drew ?_ | with_reducible refine Mod.alloc ?_ _ | ((with_reducible refine Mod.setNew ?_ ?_ _ _ _); (rotate_left; omega)) | with_reducible refine Mod.setAt ?_ _ _ _ | with_reducible exact hm1 | with_reducible refine Mod.thenNone ?_ hm1 ))
  have S1 := hid (NodeSlice.wide s1 (S := fun b => w.heap.size + 1 + 1 + 1 ≤ b) (fun k _ hk => by simpa using hk))
  have U1 := hid (u1.weaken (S := fun b => w.heap.size + 1 + 1 + 1 ≤ b) (fun k _ hk => by simpa using hk))
  clear hh s1 u1 hm1
  go_wp2
  have hfin : ∀ W : World, Mod (fun k => k = w.heap.size + 1 + 1 ∨ k = w.heap.size + 1) w1 W → TreeIn true (fun b => w.heap.size ≤ b) W [.slice (some ⟨g1, 0, none⟩) x.length x.length] x := by
    intro W hW
    have k1 : ∀ k, w.heap.size + 1 + 1 + 1 ≤ k → ¬ (k = w.heap.size + 1 + 1 ∨ k = w.heap.size + 1) := by omega
    exact TreeIn.wide ⟨_, _, rfl, NodeSlice.mod S1.out hW k1, fun _ => U1.out.mod hW k1⟩ (fun k _ hk => by show w.heap.size ≤ k; omega)
  refine bodyPost_ret (v := .agg [.slice (some ⟨g1, 0, none⟩) x.length x.length].toArray) ?_ rfl ⟨_, rfl, hfin _ ?_, ?_⟩
  · simp [results, Try.results48, go_sem, *]
  · refine Mod.setCell (Mod.setCell (Mod.refl _ _) (fun _ => .inl (.inl rfl)) _) (fun _ => .inl (.inr rfl)) _
  · (repeat (first | with_reducible exact Mod.refl _ _ | with_reducible refine Mod.drewN ?_ _ | with_reducible refine Mod.drew ?_ | with_reducible refine Mod.alloc ?_ _ | ((with_reducible refine Mod.setNew ?_ ?_ _ _ _); (rotate_left; omega)) | with_reducible refine Mod.setAt ?_ _ _ _ | with_reducible exact hM1 | with_reducible refine Mod.thenNone ?_ hM1 ))

set_option maxHeartbeats 2000000 in
theorem eqTree_same (x : List Node) (o o' : Bool) (cs cs' : List Value) (R S : Nat → Prop) (w : World) (hf : treeFits 1048576 x) (h : TreeIn o R w cs x) (h' : TreeIn o' S w cs' x) :
    Calls Try.prog 51 #[.agg cs.toArray, .agg cs'.toArray] w fun e w' => e = .returned (.bool true) ∧ Mod (fun _ => False) w w' := by
  obtain ⟨m, c, rfl, h1, _⟩ := h
  obtain ⟨m', d, rfl, h1', _⟩ := h'
  obtain ⟨f1, f3⟩ := hf
  have H1 := hid h1
  have H1' := hid h1'
  have F3 := hid f3
  clear h1 h1' f3
  go_enter Try.func51, Try.ntmps51
  go_wp2_with fail
  refine (eqNodeS_same x o o' _ _ _ _ R S _ f1 F3.out (H1.out.keep (by (repeat (first | with_reducible exact Mod.refl _ _ | with_reducible refine Mod.drewN ?_ _ | with_reducible refine Mod.drew ?_ | with_reducible refine Mod.alloc ?_ _ | ((with_reducible refine Mod.setNew ?_ ?_ _ _ _); (rotate_left; omega)) | with_reducible refine Mod.setAt ?_ _ _ _ )))) (H1'.out.keep (by (repeat (first | with_reducible exact Mod.refl _ _ | with_reducible refine Mod.drewN ?_ _ | with_reducible refine Mod.drew ?_ | with_reducible refine Mod.alloc ?_ _ | ((with_reducible refine Mod.setNew ?_ ?_ _ _ _); (rotate_left; omega)) | with_reducible refine Mod.setAt ?_ _ _ _ ))))).mono ?_
  rintro e w1 ⟨rfl, hm1⟩
  have hM1 : Mod (fun _ => False) w w1 := by (repeat (first | with_reducible exact Mod.refl _ _ | with_reducible refine Mod.drewN ?_ _ | with_reducible refine Mod.drew ?_ | with_reducible refine Mod.alloc ?_ _ | ((with_reducible refine Mod.setNew ?_ ?_ _ _ _); (rotate_left; omega)) | with_reducible refine Mod.setAt ?_ _ _ _ | with_reducible exact hm1 | with_reducible refine Mod.thenNone ?_ hm1 ))
  go_wp2
  go_ret
  exact ⟨rfl, hM1⟩

set_option maxHeartbeats 2000000 in
theorem szTree_any (x : List Node) (o : Bool) (cs : List Value) (R : Nat → Prop) (left : Int) (w : World) (h0 : 0 ≤ left) (h1 : left ≤ 1048576) (hf : treeFits 9223372036854775807 x) (h : TreeIn o R w cs x) :
    Calls Try.prog 45 #[.agg cs.toArray, .int .i64 left] w fun e w' => e = .returned (.int .i64 (szRes left (treeCost x))) ∧ Mod (fun _ => False) w w' := by
  obtain ⟨m, c, rfl, hs, _⟩ := h
  obtain ⟨f1, f3⟩ := hf
  have H := hid hs
  have F3 := hid f3
  clear hs f3
  go_enter Try.func45, Try.ntmps45
  go_wp2_with fail
  refine (szNodeS_any x o _ _ R left _ h0 h1 f1 F3.out (H.out.keep (by (repeat (first | with_reducible exact Mod.refl _ _ | with_reducible refine Mod.drewN ?_ _ | with_reducible refine Mod.drew ?_ | with_reducible refine Mod.alloc ?_ _ | ((with_reducible refine Mod.setNew ?_ ?_ _ _ _); (rotate_left; omega)) | with_reducible refine Mod.setAt ?_ _ _ _ ))))).mono ?_
  rintro e w1 ⟨rfl, hm1⟩
  have hM1 : Mod (fun _ => False) w w1 := by (repeat (first | with_reducible exact Mod.refl _ _ | with_reducible refine Mod.drewN ?_ _ | with_reducible refine Mod.drew ?_ | with_reducible refine Mod.alloc ?_ _ | ((with_reducible refine Mod.setNew ?_ ?_ _ _ _); (rotate_left; omega)) | with_reducible refine Mod.setAt ?_ _ _ _ | with_reducible exact hm1 | with_reducible refine Mod.thenNone ?_ hm1 ))
  by_cases hs : left < (x.length + costs Node.cost x : Nat)
  · rw [szRes_less hs]
    have hc := hid (szRes_less (left := left) (n := treeCost x) hs)
    go_wp2
    go_ret
    exact ⟨ret_int hc.out.symm, hM1⟩
  · rw [szRes_more (by omega)]
    have hc := hid (szRes_more (left := left) (n := treeCost x) (by unfold treeCost; omega))
    have h2 : 0 ≤ left - (x.length + costs Node.cost x : Nat) := by omega
    unfold treeCost at hc
    generalize left - ((x.length + costs Node.cost x : Nat) : Int) = q at hc h2
    go_wp2
    go_ret
    exact ⟨ret_int hc.out.symm, hM1⟩

set_option maxRecDepth 100000 in
theorem rd_int {w : World} {cs : List Value} (h : Rd Try.prog w 3 cs) : ∃ x : Int, cs = icell x := by
  obtain ⟨x, e, _⟩ := h.int Try.underlying3
  exact ⟨x, e⟩
set_option maxRecDepth 100000 in
theorem rd_Node {w : World} {cs : List Value} (h : Rd Try.prog w 185 cs) : ∃ x : Node, NodeIn false (fun k => k < w.heap.size) w cs x ∧ x.fits 9223372036854775807 := by
  obtain ⟨hl, hf⟩ := h.struct Try.underlying185
  have hl2 : cs.length = 64 := hl.trans (by kernel_rfl)
  have z1 : Try.prog.cellsOf 3 = 1 := by kernel_rfl
  have z2 : Try.prog.cellsOf 29 = 1 := by kernel_rfl
  have z3 : Try.prog.cellsOf 180 = 60 := by kernel_rfl
  have z4 : Try.prog.cellsOf 4 = 1 := by kernel_rfl
  have z5 : Try.prog.cellsOf 183 = 1 := by kernel_rfl
  obtain ⟨up, e0, _⟩ := (hf 0 _ rfl).int Try.underlying3
  replace e0 : (cs.drop 0).take (Try.prog.cellsOf 3) = [.int .i64 up] := e0
  rw [z1] at e0
  obtain ⟨a, l, c, e1, h1, h2, h3⟩ := (hf 1 _ rfl).list (rep := Flat icell) (sz := 1) Try.underlying29 (by kernel_rfl) (by decide) (fun cs h => rd_int h)
  replace e1 : (cs.drop 1).take (Try.prog.cellsOf 29) = [.slice a l.length c] := e1
  rw [z2] at e1
  obtain ⟨s, e2⟩ := rdA_Style (hf 2 _ rfl)
  replace e2 : (cs.drop 2).take (Try.prog.cellsOf 180) = s.cells := e2
  rw [z3] at e2
  obtain ⟨m, e3⟩ := (hf 3 _ rfl).bool Try.underlying4
  replace e3 : (cs.drop 62).take (Try.prog.cellsOf 4) = [.bool m] := e3
  rw [z4] at e3
  obtain ⟨a', l', c', e4, h1', h3'⟩ := rd_Table (hf 4 _ rfl)
  replace e4 : (cs.drop 63).take (Try.prog.cellsOf 183) = [.slice a' l'.length c'] := e4
  rw [z5] at e4
  have hz : cs.drop 64 = [] := List.drop_eq_nil_of_le (by omega)
  have e : cs = nodeRow up a l.length c s m a' l'.length c' := by
    show cs.drop 0 = _
    rw [cut_at cs 0 1 1 rfl, e0, cut_at cs 1 1 2 rfl, e1, cut_at cs 2 60 62 rfl, e2, cut_at cs 62 1 63 rfl, e3, cut_at cs 63 1 64 rfl, e4, hz]
    simp [nodeRow]
  unfold maxLen at h2
  exact ⟨⟨up, l, s, m, l'⟩, ⟨a, c, a', c', e, h3, h3', fun h => by cases h⟩, by show l.length ≤ _; omega, h1'⟩
set_option maxRecDepth 100000 in
theorem rd_Tree {w : World} {cs : List Value} (h : Rd Try.prog w 49 cs) : ∃ x : List Node, TreeIn false (fun k => k < w.heap.size) w cs x ∧ treeFits 9223372036854775807 x := by
  obtain ⟨hl, hf⟩ := h.struct Try.underlying49
  have hl2 : cs.length = 1 := hl.trans (by kernel_rfl)
  have c1 : Try.prog.cellsOf 47 = 1 := by kernel_rfl
  match cs, hl2 with
  | [q0], _ =>
    obtain ⟨a, l, c, e0, h1, h2, h3⟩ := (hf 0 _ rfl).list (rep := fun w' r x => NodeIn false (fun k => k < w.heap.size) w' r x ∧ x.fits 9223372036854775807) (sz := 64) Try.underlying47 (by kernel_rfl) (by decide) (fun cs h => rd_Node h)
    obtain ⟨h4, h5⟩ := h3.split2
    simp [c1] at e0
    unfold maxLen at h2
    exact ⟨l, ⟨a, c, by simp [e0], h4, fun h => by cases h⟩, by omega, h5⟩

end Go.Proofs.Ytcolkidnjojlmaa
