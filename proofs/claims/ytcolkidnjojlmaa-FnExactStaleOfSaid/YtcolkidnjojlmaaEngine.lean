/-
  PROVED: contracts of the exact laws' functions at engines: copy, comparison, count, reading. No condition but a bound on the lengths.
-/
import Derived.Test.YtcolkidnjojlmaaTree
import Derived.Test.YtcolkidnjojlmaaKept
namespace Go.Proofs.Ytcolkidnjojlmaa
open Go.RowKit

structure Engine where
  tree : List Node
  kept : KeptT
  frames : List Frame
  root : Int
  wide : Int
  high : Int
  rtl : Bool
  deriving DecidableEq, Inhabited
/-- An engine, read from its cells; o: it may be written. -/
def EngineIn (o : Bool) (R : Nat → Prop) (w : World) (cs : List Value) (x : Engine) : Prop :=
  ∃ t k0 k1 f c, cs = [t, k0, k1, .slice f x.frames.length c, .int .i64 x.root, .int .i64 x.wide, .int .i64 x.high, .bool x.rtl] ∧ TreeIn o R w [t] x.tree ∧ KeptIn o R w [k0, k1] x.kept ∧ SliceAt (Flat Frame.cells) 5 R w f x.frames ∧ (o = true → Wr 166 5 R w f x.frames.length)
theorem EngineIn.mod {o : Bool} {R S : Nat → Prop} {w w' : World} {cs : List Value} {x : Engine} (h : EngineIn o R w cs x) (hm : Mod S w w') (hs : ∀ k, R k → ¬ S k) : EngineIn o R w' cs x := by
  obtain ⟨t, k0, k1, f, c, h1, h2, h3, h4, h5⟩ := h
  exact ⟨t, k0, k1, f, c, h1, h2.mod hm hs, h3.mod hm hs, h4.flatMod hm hs, fun ho => (h5 ho).mod hm hs⟩
theorem EngineIn.keep {o : Bool} {R : Nat → Prop} {w w' : World} {cs : List Value} {x : Engine} (h : EngineIn o R w cs x) (hm : Mod (fun _ => False) w w') : EngineIn o R w' cs x := h.mod hm fun _ _ f => f
theorem EngineIn.wide {o : Bool} {R S : Nat → Prop} {w : World} {cs : List Value} {x : Engine} (h : EngineIn o R w cs x) (hs : ∀ k, k < w.heap.size → R k → S k) : EngineIn o S w cs x := by
  obtain ⟨t, k0, k1, f, c, h1, h2, h3, h4, h5⟩ := h
  exact ⟨t, k0, k1, f, c, h1, h2.wide hs, h3.wide hs, SliceAt.wide h4 hs, fun ho => (h5 ho).weaken hs⟩
/-- Lengths that a walk can bear. -/
def Engine.fits (n : Nat) (x : Engine) : Prop := treeFits n x.tree ∧ x.kept.fits n ∧ x.frames.length ≤ n
def Engine.cost (x : Engine) : Nat := treeCost x.tree + x.kept.cost + x.frames.length
theorem Engine.fits_of {x : Engine} {n : Nat} (h : x.cost ≤ n) : x.fits n := by
  unfold Engine.cost at h
  exact ⟨treeFits_of (by omega), KeptT.fits_of (by omega), by omega⟩
theorem TreeIn.one {o : Bool} {R : Nat → Prop} {w : World} {cs : List Value} {l : List Node} (h : TreeIn o R w cs l) : ∃ t, cs = [t] ∧ t.oneCell' = true := by
  obtain ⟨a, c, rfl, _⟩ := h
  exact ⟨_, rfl, rfl⟩
theorem KeptIn.two {o : Bool} {R : Nat → Prop} {w : World} {cs : List Value} {x : KeptT} (h : KeptIn o R w cs x) : ∃ p q, cs = [p, q] ∧ p.oneCell' = true ∧ q.oneCell' = true := by
  obtain ⟨m, c, a, c', rfl, _⟩ := h
  exact ⟨_, _, rfl, rfl, rfl⟩

set_option maxRecDepth 100000 in
set_option maxHeartbeats 4000000 in
theorem toEngine_any (x : Engine) (o : Bool) (cs : List Value) (R : Nat → Prop) (w : World) (hf : x.fits 1048576) (h : EngineIn o R w cs x) :
    Calls Try.prog 34 #[.agg cs.toArray] w fun e w' => ∃ cs', e = .returned (.agg cs'.toArray) ∧ EngineIn true (fun b => w.heap.size ≤ b) w' cs' x ∧ Mod (fun _ => False) w w' := by
  obtain ⟨t, k0, k1, f, c, rfl, h1, h2, h3, _⟩ := h
  obtain ⟨f1, f2, f3⟩ := hf
  obtain ⟨ta, tc, et, ht⟩ := h1
  obtain ⟨ka, kc, kb, kc', ek, hk⟩ := h2
  simp only [List.cons.injEq, and_true] at et ek
  obtain rfl := et
  obtain ⟨rfl, rfl⟩ := ek
  have H1 := hid (show TreeIn o R w [.slice ta x.tree.length tc] x.tree from ⟨ta, tc, rfl, ht⟩)
  have H2 := hid (show KeptIn o R w [.slice ka x.kept.memos.length kc, .slice kb x.kept.asked.length kc'] x.kept from ⟨ka, kc, kb, kc', rfl, hk⟩)
  have H3 := hid h3
  have F1 := hid f1
  have F2 := hid f2
  clear ht hk h3 f1 f2
  go_enter Try.func34, Try.ntmps34
  go_wp2_with fail
  refine (toTree_any x.tree o [.slice ta x.tree.length tc] R _ F1.out (H1.out.keep (by (repeat (first | with_reducible exact Mod.refl _ _ | with_reducible refine Mod.drewN ?_ _ | with_reducible refine Mod.drew ?_ | with_reducible refine Mod.alloc ?_ _ | ((with_reducible refine Mod.setNew ?_ ?_ _ _ _); (rotate_left; omega)) | with_reducible refine Mod.setAt ?_ _ _ _ ))))).mono ?_
  rintro e w1 ⟨cs1, rfl, ⟨g1, c1, rfl, s1⟩, hm1⟩
  obtain ⟨hq1, hz1⟩ := mcell hm1
  have hs1 := hm1.size
  repeat (first | rw [World.size_alloc] at hs1 | rw [World.size_setCell] at hs1 | rw [World.size_drew] at hs1 | unfold World.drewN at hs1)
  have hr1_0 : w.heap.size < w1.heap.size := by omega
  have hr1_1 : w.heap.size + 1 < w1.heap.size := by omega
  have hr1_2 : w.heap.size + 1 + 1 < w1.heap.size := by omega
  have hM1 : Mod (fun _ => False) w w1 := by (repeat (first | with_reducible exact Mod.refl _ _ | with_reducible refine Mod.drewN ?_ _ | with_reducible refine Mod.drew ?_ | with_reducible refine Mod.alloc ?_ _ | ((with_reducible refine Mod.setNew ?_ ?_ _ _ _); (rotate_left; omega)) | with_reducible refine Mod.setAt ?_ _ _ _ | with_reducible exact hm1 | with_reducible refine Mod.thenNone ?_ hm1 ))
  have hB1 : w.heap.size + 1 + 1 + 1 ≤ w1.heap.size := by have := hm1.size; simpa using this
  have S1 := hid (TreeIn.wide (show TreeIn true _ w1 _ x.tree from ⟨g1, c1, rfl, s1⟩) (S := fun b => w.heap.size + 1 + 1 + 1 ≤ b) (fun k _ hk => by simpa using hk))
  clear s1 hm1
  go_wp2_with fail
  refine (toKept_any x.kept o [.slice ka x.kept.memos.length kc, .slice kb x.kept.asked.length kc'] R _ F2.out (H2.out.keep (by (repeat (first | with_reducible exact Mod.refl _ _ | with_reducible refine Mod.drewN ?_ _ | with_reducible refine Mod.drew ?_ | with_reducible refine Mod.alloc ?_ _ | ((with_reducible refine Mod.setNew ?_ ?_ _ _ _); (rotate_left; omega)) | with_reducible refine Mod.setAt ?_ _ _ _ | with_reducible exact hM1 | with_reducible refine Mod.thenNone ?_ hM1 ))))).mono ?_
  rintro e w2 ⟨cs2, rfl, ⟨g2, c2, g2', c2', rfl, s2⟩, hm2⟩
  obtain ⟨hq2, hz2⟩ := mcell hm2
  have hs2 := hm2.size
  repeat (first | rw [World.size_alloc] at hs2 | rw [World.size_setCell] at hs2 | rw [World.size_drew] at hs2 | unfold World.drewN at hs2)
  have hr2_0 : w.heap.size < w2.heap.size := by omega
  have hr2_1 : w.heap.size + 1 < w2.heap.size := by omega
  have hr2_2 : w.heap.size + 1 + 1 < w2.heap.size := by omega
  have hM2 : Mod (fun _ => False) w w2 := by (repeat (first | with_reducible exact Mod.refl _ _ | with_reducible refine Mod.drewN ?_ _ | with_reducible refine Mod.drew ?_ | with_reducible refine Mod.alloc ?_ _ | ((with_reducible refine Mod.setNew ?_ ?_ _ _ _); (rotate_left; omega)) | with_reducible refine Mod.setAt ?_ _ _ _ | with_reducible exact hm2 | with_reducible refine Mod.thenNone ?_ hm2 | with_reducible exact hM1 | with_reducible refine Mod.thenNone ?_ hM1 ))
  have hB2 : w.heap.size + 1 + 1 + 1 ≤ w2.heap.size := by have := hm2.size; simp only [World.size_setCell] at this; omega
  have hms1 : Mod (fun k => k = w.heap.size + 1 + 1) w1 (w1.setCell ⟨w.heap.size + 1 + 1, 0, none⟩ (.slice g1 x.tree.length c1)) := (Mod.refl _ _).setAt _ _ _
  have hlow : ∀ k, w.heap.size + 1 + 1 + 1 ≤ k → ¬ k = w.heap.size + 1 + 1 := by omega
  have S1' := hid ((S1.out.mod hms1 hlow).keep hm2)
  have S2 := hid (KeptIn.wide (show KeptIn true _ w2 _ x.kept from ⟨g2, c2, g2', c2', rfl, s2⟩) (S := fun b => w.heap.size + 1 + 1 + 1 ≤ b) (fun k _ hk => Nat.le_trans hB1 (by simpa using hk)))
  clear s2 hm2 hms1 S1
  go_wp2_with fail
  refine (toFrameS_any x.frames _ _ R _ f3 (H3.out.flatKeep (by (repeat (first | with_reducible exact Mod.refl _ _ | with_reducible refine Mod.drewN ?_ _ | with_reducible refine Mod.drew ?_ | with_reducible refine Mod.alloc ?_ _ | ((with_reducible refine Mod.setNew ?_ ?_ _ _ _); (rotate_left; omega)) | with_reducible refine Mod.setAt ?_ _ _ _ | with_reducible exact hM2 | with_reducible refine Mod.thenNone ?_ hM2 ))))).mono ?_
  intro e w3 hh
  obtain ⟨g3, rfl, hg3, s3, u3, hm3⟩ := hh.wr (sz := 5) (fun _ => rfl)
  obtain ⟨hq3, hz3⟩ := mcell hm3
  have hs3 := hm3.size
  repeat (first | rw [World.size_alloc] at hs3 | rw [World.size_setCell] at hs3 | rw [World.size_drew] at hs3 | unfold World.drewN at hs3)
  have hr3_0 : w.heap.size < w3.heap.size := by omega
  have hr3_1 : w.heap.size + 1 < w3.heap.size := by omega
  have hr3_2 : w.heap.size + 1 + 1 < w3.heap.size := by omega
  have hM3 : Mod (fun _ => False) w w3 := by (repeat (first | with_reducible exact Mod.refl _ _ | with_reducible refine Mod.drewN ?_ _ | with_reducible refine Mod.drew ?_ | with_reducible refine Mod.alloc ?_ _ | ((with_reducible refine Mod.setNew ?_ ?_ _ _ _); (rotate_left; omega)) | with_reducible refine Mod.setAt ?_ _ _ _ | with_reducible exact hm3 | with_reducible refine Mod.thenNone ?_ hm3 | with_reducible exact hM2 | with_reducible refine Mod.thenNone ?_ hM2 ))
  have hms2 : Mod (fun k => k = w.heap.size + 1 + 1) w2 ((w2.setCell ⟨w.heap.size + 1 + 1, 1, none⟩ (.slice g2 x.kept.memos.length c2)).setCell ⟨w.heap.size + 1 + 1, 2, none⟩ (.slice g2' x.kept.asked.length c2')) := ((Mod.refl _ _).setAt _ _ _).setAt _ _ _
  have S1'' := hid ((S1'.out.mod hms2 hlow).keep hm3)
  have S2' := hid ((S2.out.mod hms2 hlow).keep hm3)
  have S3 := hid (SliceAt.wide s3 (S := fun b => w.heap.size + 1 + 1 + 1 ≤ b) (fun k _ hk => Nat.le_trans hB2 (by simpa using hk)))
  have U3 := hid (u3.weaken (S := fun b => w.heap.size + 1 + 1 + 1 ≤ b) (fun k _ hk => Nat.le_trans hB2 (by simpa using hk)))
  clear hh s3 u3 hms2 hm3 S1' S2 hg3
  go_wp2
  have hfin : ∀ W : World, Mod (fun k => k = w.heap.size + 1 + 1 ∨ k = w.heap.size + 1) w3 W → EngineIn true (fun b => w.heap.size ≤ b) W [.slice g1 x.tree.length c1, .slice g2 x.kept.memos.length c2, .slice g2' x.kept.asked.length c2', .slice (some ⟨g3, 0, none⟩) x.frames.length x.frames.length, .int .i64 x.root, .int .i64 x.wide, .int .i64 x.high, .bool x.rtl] x := by
    intro W hW
    have k1 : ∀ k, w.heap.size + 1 + 1 + 1 ≤ k → ¬ (k = w.heap.size + 1 + 1 ∨ k = w.heap.size + 1) := by omega
    exact EngineIn.wide ⟨_, _, _, _, _, rfl, S1''.out.mod hW k1, S2'.out.mod hW k1, S3.out.flatMod hW k1, fun _ => U3.out.mod hW k1⟩ (fun k _ hk => by show w.heap.size ≤ k; omega)
  refine bodyPost_ret (v := .agg [.slice g1 x.tree.length c1, .slice g2 x.kept.memos.length c2, .slice g2' x.kept.asked.length c2', .slice (some ⟨g3, 0, none⟩) x.frames.length x.frames.length, .int .i64 x.root, .int .i64 x.wide, .int .i64 x.high, .bool x.rtl].toArray) ?_ rfl ⟨_, rfl, hfin _ ?_, ?_⟩
  · simp [results, Try.results34, go_sem, *]
  · iterate 8 refine Mod.setCell ?_ (fun _ => .inl (.inr rfl)) _
    iterate 5 refine Mod.setCell ?_ (fun _ => .inl (.inl rfl)) _
    exact Mod.refl _ _
  · (repeat (first | with_reducible exact Mod.refl _ _ | with_reducible refine Mod.drewN ?_ _ | with_reducible refine Mod.drew ?_ | with_reducible refine Mod.alloc ?_ _ | ((with_reducible refine Mod.setNew ?_ ?_ _ _ _); (rotate_left; omega)) | with_reducible refine Mod.setAt ?_ _ _ _ | with_reducible exact hM3 | with_reducible refine Mod.thenNone ?_ hM3 ))

set_option maxHeartbeats 4000000 in
theorem eqEngine_same (x : Engine) (o o' : Bool) (cs cs' : List Value) (R S : Nat → Prop) (w : World) (hf : x.fits 1048576) (h : EngineIn o R w cs x) (h' : EngineIn o' S w cs' x) :
    Calls Try.prog 36 #[.agg cs.toArray, .agg cs'.toArray] w fun e w' => e = .returned (.bool true) ∧ Mod (fun _ => False) w w' := by
  obtain ⟨t, k0, k1, f, c, rfl, h1, h2, h3, _⟩ := h
  obtain ⟨t', k0', k1', f', c', rfl, h1', h2', h3', _⟩ := h'
  obtain ⟨f1, f2, f3⟩ := hf
  obtain ⟨ta, tc, et, ht⟩ := h1
  obtain ⟨ka, kc, kb, kc', ek, hk⟩ := h2
  obtain ⟨ta', tc', et', ht'⟩ := h1'
  obtain ⟨ka', kd, kb', kd', ek', hk'⟩ := h2'
  simp only [List.cons.injEq, and_true] at et ek et' ek'
  obtain rfl := et
  obtain ⟨rfl, rfl⟩ := ek
  obtain rfl := et'
  obtain ⟨rfl, rfl⟩ := ek'
  have H1 := hid (show TreeIn o R w [.slice ta x.tree.length tc] x.tree from ⟨ta, tc, rfl, ht⟩)
  have H2 := hid (show KeptIn o R w [.slice ka x.kept.memos.length kc, .slice kb x.kept.asked.length kc'] x.kept from ⟨ka, kc, kb, kc', rfl, hk⟩)
  have H1' := hid (show TreeIn o' S w [.slice ta' x.tree.length tc'] x.tree from ⟨ta', tc', rfl, ht'⟩)
  have H2' := hid (show KeptIn o' S w [.slice ka' x.kept.memos.length kd, .slice kb' x.kept.asked.length kd'] x.kept from ⟨ka', kd, kb', kd', rfl, hk'⟩)
  have H3 := hid h3
  have H3' := hid h3'
  have F1 := hid f1
  have F2 := hid f2
  clear ht hk ht' hk' h3 h3' f1 f2
  go_enter Try.func36, Try.ntmps36
  go_wp2_with fail
  refine (eqTree_same x.tree o o' [.slice ta x.tree.length tc] [.slice ta' x.tree.length tc'] R S _ F1.out (H1.out.keep (by (repeat (first | with_reducible exact Mod.refl _ _ | with_reducible refine Mod.drewN ?_ _ | with_reducible refine Mod.drew ?_ | with_reducible refine Mod.alloc ?_ _ | ((with_reducible refine Mod.setNew ?_ ?_ _ _ _); (rotate_left; omega)) | with_reducible refine Mod.setAt ?_ _ _ _ )))) (H1'.out.keep (by (repeat (first | with_reducible exact Mod.refl _ _ | with_reducible refine Mod.drewN ?_ _ | with_reducible refine Mod.drew ?_ | with_reducible refine Mod.alloc ?_ _ | ((with_reducible refine Mod.setNew ?_ ?_ _ _ _); (rotate_left; omega)) | with_reducible refine Mod.setAt ?_ _ _ _ ))))).mono ?_
  rintro e w1 ⟨rfl, hm1⟩
  obtain ⟨hq1, hz1⟩ := mcell hm1
  have hs1 := hm1.size
  repeat (first | rw [World.size_alloc] at hs1 | rw [World.size_setCell] at hs1 | rw [World.size_drew] at hs1 | unfold World.drewN at hs1)
  have hr1_0 : w.heap.size < w1.heap.size := by omega
  have hr1_1 : w.heap.size + 1 < w1.heap.size := by omega
  have hM1 : Mod (fun _ => False) w w1 := by (repeat (first | with_reducible exact Mod.refl _ _ | with_reducible refine Mod.drewN ?_ _ | with_reducible refine Mod.drew ?_ | with_reducible refine Mod.alloc ?_ _ | ((with_reducible refine Mod.setNew ?_ ?_ _ _ _); (rotate_left; omega)) | with_reducible refine Mod.setAt ?_ _ _ _ | with_reducible exact hm1 | with_reducible refine Mod.thenNone ?_ hm1 ))
  clear hm1
  go_wp2_with fail
  refine (eqKept_same x.kept o o' [.slice ka x.kept.memos.length kc, .slice kb x.kept.asked.length kc'] [.slice ka' x.kept.memos.length kd, .slice kb' x.kept.asked.length kd'] R S _ F2.out (H2.out.keep hM1) (H2'.out.keep hM1)).mono ?_
  rintro e w2 ⟨rfl, hm2⟩
  obtain ⟨hq2, hz2⟩ := mcell hm2
  have hs2 := hm2.size
  repeat (first | rw [World.size_alloc] at hs2 | rw [World.size_setCell] at hs2 | rw [World.size_drew] at hs2 | unfold World.drewN at hs2)
  have hr2_0 : w.heap.size < w2.heap.size := by omega
  have hr2_1 : w.heap.size + 1 < w2.heap.size := by omega
  have hM2 := hM1.thenNone hm2
  clear hm2
  go_wp2_with fail
  refine (eqFrameS_any x.frames x.frames _ _ _ _ R S _ (by omega) (by omega) (H3.out.flatKeep hM2) (H3'.out.flatKeep hM2)).mono ?_
  rintro e w3 ⟨rfl, hm3⟩
  obtain ⟨hq3, hz3⟩ := mcell hm3
  have hs3 := hm3.size
  repeat (first | rw [World.size_alloc] at hs3 | rw [World.size_setCell] at hs3 | rw [World.size_drew] at hs3 | unfold World.drewN at hs3)
  have hr3_0 : w.heap.size < w3.heap.size := by omega
  have hr3_1 : w.heap.size + 1 < w3.heap.size := by omega
  rw [decide_eq_true rfl]
  have hM3 := hM2.thenNone hm3
  clear hm3
  go_wp2
  go_ret
  exact ⟨rfl, hM3⟩

theorem szRes_next {left : Int} {a b : Nat} (h : (a : Int) ≤ left) : szRes left (a + b) = szRes (left - a) b := by
  unfold szRes
  split <;> split <;> omega
set_option maxHeartbeats 4000000 in
theorem szEngine_any (x : Engine) (o : Bool) (cs : List Value) (R : Nat → Prop) (left : Int) (w : World) (h0 : 0 ≤ left) (h1 : left ≤ 1048576) (hf : x.fits 9223372036854775807) (h : EngineIn o R w cs x) :
    Calls Try.prog 32 #[.agg cs.toArray, .int .i64 left] w fun e w' => e = .returned (.int .i64 (szRes left x.cost)) ∧ Mod (fun _ => False) w w' := by
  obtain ⟨t, k0, k1, f, c, rfl, p1, p2, _, _⟩ := h
  obtain ⟨f1, f2, f3⟩ := hf
  obtain ⟨ta, tc, et, ht⟩ := p1
  obtain ⟨ka, kc, kb, kc', ek, hk⟩ := p2
  simp only [List.cons.injEq, and_true] at et ek
  obtain rfl := et
  obtain ⟨rfl, rfl⟩ := ek
  have H1 := hid (show TreeIn o R w [.slice ta x.tree.length tc] x.tree from ⟨ta, tc, rfl, ht⟩)
  have H2 := hid (show KeptIn o R w [.slice ka x.kept.memos.length kc, .slice kb x.kept.asked.length kc'] x.kept from ⟨ka, kc, kb, kc', rfl, hk⟩)
  have F1 := hid f1
  have F2 := hid f2
  clear ht hk f1 f2
  go_enter Try.func32, Try.ntmps32
  go_wp2_with fail
  refine (szTree_any x.tree o [.slice ta x.tree.length tc] R left _ h0 h1 F1.out (H1.out.keep (by (repeat (first | with_reducible exact Mod.refl _ _ | with_reducible refine Mod.drewN ?_ _ | with_reducible refine Mod.drew ?_ | with_reducible refine Mod.alloc ?_ _ | ((with_reducible refine Mod.setNew ?_ ?_ _ _ _); (rotate_left; omega)) | with_reducible refine Mod.setAt ?_ _ _ _ ))))).mono ?_
  rintro e w1 ⟨rfl, hm1⟩
  obtain ⟨hq1, hz1⟩ := mcell hm1
  have hs1 := hm1.size
  repeat (first | rw [World.size_alloc] at hs1 | rw [World.size_setCell] at hs1 | rw [World.size_drew] at hs1 | unfold World.drewN at hs1)
  have hr1_0 : w.heap.size < w1.heap.size := by omega
  have hM1 : Mod (fun _ => False) w w1 := by (repeat (first | with_reducible exact Mod.refl _ _ | with_reducible refine Mod.drewN ?_ _ | with_reducible refine Mod.drew ?_ | with_reducible refine Mod.alloc ?_ _ | ((with_reducible refine Mod.setNew ?_ ?_ _ _ _); (rotate_left; omega)) | with_reducible refine Mod.setAt ?_ _ _ _ | with_reducible exact hm1 | with_reducible refine Mod.thenNone ?_ hm1 ))
  clear hm1
  by_cases hs : left < treeCost x.tree
  · rw [szRes_less hs]
    have hc := hid (szRes_less (left := left) (n := x.cost) (by unfold Engine.cost; omega))
    go_wp2
    go_ret
    exact ⟨ret_int hc.out.symm, hM1⟩
  · rw [szRes_more (by omega)]
    have hc := hid (show szRes left x.cost = szRes (left - treeCost x.tree) (x.kept.cost + x.frames.length) from by
      rw [← szRes_next (by omega)]
      unfold Engine.cost
      rw [Nat.add_assoc])
    have q0 : 0 ≤ left - treeCost x.tree := by omega
    have q1 : left - treeCost x.tree ≤ 1048576 := by omega
    generalize left - (treeCost x.tree : Int) = q at hc q0 q1
    clear hs
    go_wp2_with fail
    refine (szKept_any x.kept o [.slice ka x.kept.memos.length kc, .slice kb x.kept.asked.length kc'] R q _ q0 q1 F2.out (H2.out.keep hM1)).mono ?_
    rintro e w2 ⟨rfl, hm2⟩
    obtain ⟨hq2, hz2⟩ := mcell hm2
    have hs2 := hm2.size
    repeat (first | rw [World.size_alloc] at hs2 | rw [World.size_setCell] at hs2 | rw [World.size_drew] at hs2 | unfold World.drewN at hs2)
    have hr2_0 : w.heap.size < w2.heap.size := by omega
    have hM2 := hM1.thenNone hm2
    clear hm2
    by_cases hs : q < x.kept.cost
    · rw [szRes_less hs]
      have hc2 := hid (hc.out.trans (szRes_less (by omega)))
      clear hc
      go_wp2
      go_ret
      exact ⟨ret_int hc2.out.symm, hM2⟩
    · rw [szRes_more (by omega)]
      have hc2 := hid (hc.out.trans (szRes_next (by omega)))
      have r0 : 0 ≤ q - x.kept.cost := by omega
      have r1 : q - x.kept.cost ≤ 1048576 := by omega
      generalize q - (x.kept.cost : Int) = r at hc2 r0 r1
      clear hs hc
      go_wp2_with fail
      refine (szFrameS_any _ _ _ _ r0 r1 f3 _).mono ?_
      rintro e w3 ⟨rfl, rfl⟩
      by_cases hs : r < x.frames.length
      · rw [if_pos hs]
        have hc3 := hid (hc2.out.trans (szRes_less hs))
        clear hc2
        go_wp2
        go_ret
        exact ⟨ret_int hc3.out.symm, hM2⟩
      · rw [if_neg hs]
        have hc3 := hid (hc2.out.trans (szRes_more (by omega)))
        have s0 : 0 ≤ r - x.frames.length := by omega
        clear hc2
        go_wp2
        go_ret
        exact ⟨ret_int hc3.out.symm, hM2⟩

set_option maxRecDepth 100000 in
theorem rd_Engine {w : World} {cs : List Value} (h : Rd Try.prog w 56 cs) : ∃ x : Engine, EngineIn false (fun k => k < w.heap.size) w cs x ∧ x.fits 9223372036854775807 := by
  obtain ⟨hl, hf⟩ := h.struct Try.underlying56
  have hl2 : cs.length = 8 := hl.trans (by kernel_rfl)
  have c1 : Try.prog.cellsOf 49 = 1 := by kernel_rfl
  have c2 : Try.prog.cellsOf 53 = 2 := by kernel_rfl
  have c3 : Try.prog.cellsOf 54 = 1 := by kernel_rfl
  have c4 : Try.prog.cellsOf 3 = 1 := by kernel_rfl
  have c5 : Try.prog.cellsOf 4 = 1 := by kernel_rfl
  match cs, hl2 with
  | [q0, q1, q2, q3, q4, q5, q6, q7], _ =>
    obtain ⟨tr, e0, t1⟩ := rd_Tree (hf 0 _ rfl)
    obtain ⟨ke, e1, t2, _⟩ := rd_Kept (hf 1 _ rfl)
    obtain ⟨a, l, c, e2, h1, h2, h3⟩ := (hf 2 _ rfl).list (rep := Flat Frame.cells) (sz := 5) Try.underlying54 (by kernel_rfl) (by decide) (fun cs h => by
      obtain ⟨x, e, _⟩ := rd_Frame h
      exact ⟨x, e⟩)
    obtain ⟨n3, e3, _⟩ := (hf 3 _ rfl).int Try.underlying3
    obtain ⟨n4, e4, _⟩ := (hf 4 _ rfl).int Try.underlying3
    obtain ⟨n5, e5, _⟩ := (hf 5 _ rfl).int Try.underlying3
    obtain ⟨b6, e6⟩ := (hf 6 _ rfl).bool Try.underlying4
    simp [c1, c2, c3, c4, c5] at e0 e1 e2 e3 e4 e5 e6
    unfold maxLen at h2
    exact ⟨⟨tr, ke, l, n3, n4, n5, b6⟩, ⟨q0, q1, q2, a, c, by simp [e2, e3, e4, e5, e6], e0, e1, h3, fun h => by cases h⟩, t1, t2, by show l.length ≤ _; omega⟩

end Go.Proofs.Ytcolkidnjojlmaa
