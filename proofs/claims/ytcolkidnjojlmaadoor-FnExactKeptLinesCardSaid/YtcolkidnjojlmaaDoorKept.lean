/-
  PROVED: contracts of the exact laws' functions at what an engine keeps (memos and what was asked): copy, comparison, count, reading. No condition but a bound on the lengths.
-/
import Derived.Test.YtcolkidnjojlmaaDoorMemoMk
import Derived.Test.YtcolkidnjojlmaaDoorAskedS
namespace Go.Proofs.YtcolkidnjojlmaaDoor
open Go.RowKit

abbrev AskedSlice (R : Nat → Prop) (w : World) (a : Option Addr) (l : List Asked) : Prop := SliceAt (Flat Asked.cells) 6 R w a l
theorem MemoSlice.wide {o : Bool} {R S : Nat → Prop} {w : World} {a : Option Addr} {l : List Memo} (h : MemoSlice o R w a l) (hs : ∀ k, k < w.heap.size → R k → S k) : MemoSlice o S w a l := SliceAt.wideBy h hs fun _ _ hx => hx.wide hs
theorem MemoIn.old {o : Bool} {R : Nat → Prop} {w : World} {cs : List Value} {x : Memo} (h : MemoIn o R w cs x) : MemoIn false R w cs x := by
  obtain ⟨a, c, h1, h2, _⟩ := h
  exact ⟨a, c, h1, h2, fun h => by cases h⟩

structure KeptT where
  memos : List Memo
  asked : List Asked
  deriving DecidableEq, Inhabited
/-- What is kept, read from its cells; o: it may be written. -/
def KeptIn (o : Bool) (R : Nat → Prop) (w : World) (cs : List Value) (x : KeptT) : Prop :=
  ∃ m c a c', cs = [.slice m x.memos.length c, .slice a x.asked.length c'] ∧ MemoSlice o R w m x.memos ∧ AskedSlice R w a x.asked ∧ (o = true → Wr 106 10 R w m x.memos.length ∧ Wr 135 6 R w a x.asked.length)
theorem KeptIn.mod {o : Bool} {R S : Nat → Prop} {w w' : World} {cs : List Value} {x : KeptT} (h : KeptIn o R w cs x) (hm : Mod S w w') (hs : ∀ k, R k → ¬ S k) : KeptIn o R w' cs x := by
  obtain ⟨m, c, a, c', h1, h2, h3, h4⟩ := h
  exact ⟨m, c, a, c', h1, h2.mod hm hs, h3.flatMod hm hs, fun ho => ⟨(h4 ho).1.mod hm hs, (h4 ho).2.mod hm hs⟩⟩
theorem KeptIn.keep {o : Bool} {R : Nat → Prop} {w w' : World} {cs : List Value} {x : KeptT} (h : KeptIn o R w cs x) (hm : Mod (fun _ => False) w w') : KeptIn o R w' cs x := h.mod hm fun _ _ f => f
theorem KeptIn.wide {o : Bool} {R S : Nat → Prop} {w : World} {cs : List Value} {x : KeptT} (h : KeptIn o R w cs x) (hs : ∀ k, k < w.heap.size → R k → S k) : KeptIn o S w cs x := by
  obtain ⟨m, c, a, c', h1, h2, h3, h4⟩ := h
  exact ⟨m, c, a, c', h1, h2.wide hs, SliceAt.wide h3 hs, fun ho => ⟨(h4 ho).1.weaken hs, (h4 ho).2.weaken hs⟩⟩
/-- Lengths that a walk can bear. -/
def KeptT.fits (n : Nat) (x : KeptT) : Prop := x.memos.length ≤ n ∧ x.asked.length ≤ n ∧ ∀ m ∈ x.memos, m.frames.length ≤ n
def KeptT.cost (x : KeptT) : Nat := x.memos.length + costs Memo.cost x.memos + x.asked.length
theorem KeptT.fits_of {x : KeptT} {n : Nat} (h : x.cost ≤ n) : x.fits n := by
  unfold KeptT.cost at h
  refine ⟨by omega, by omega, fun m hm => ?_⟩
  have := costs_mem Memo.cost hm
  unfold Memo.cost at *
  omega

set_option maxHeartbeats 2000000 in
theorem toKept_any (x : KeptT) (o : Bool) (cs : List Value) (R : Nat → Prop) (w : World) (hf : x.fits 1048576) (h : KeptIn o R w cs x) :
    Calls Tryd.prog 26 #[.agg cs.toArray] w fun e w' => ∃ cs', e = .returned (.agg cs'.toArray) ∧ KeptIn true (fun b => w.heap.size ≤ b) w' cs' x ∧ Mod (fun _ => False) w w' := by
  obtain ⟨m, c, a, c', rfl, h1, h2, _⟩ := h
  obtain ⟨f1, f2, f3⟩ := hf
  have H1 := hid h1
  have H2 := hid h2
  have F3 := hid f3
  clear h1 h2 f3
  go_enter Tryd.func26, Tryd.ntmps26
  go_wp2_with fail
  refine (toMemoS_any x.memos o _ _ R _ f1 F3.out (H1.out.keep (by (repeat (first | with_reducible exact Mod.refl _ _ | with_reducible refine Mod.drewN ?_ _ | with_reducible refine Mod.drew ?_ | with_reducible refine Mod.alloc ?_ _ | ((with_reducible refine Mod.setNew ?_ ?_ _ _ _); (rotate_left; omega)) | with_reducible refine Mod.setAt ?_ _ _ _ ))))).mono ?_
  intro e w1 hh
  obtain ⟨g1, rfl, hg1, s1, u1, hm1⟩ := hh.use
  obtain ⟨hq1, hz1⟩ := mcell hm1
  have hs1 := hm1.size
  repeat (first | rw [World.size_alloc] at hs1 | rw [World.size_setCell] at hs1 | rw [World.size_drew] at hs1 | unfold World.drewN at hs1)
  have hr1_0 : w.heap.size < w1.heap.size := by omega
  have hr1_1 : w.heap.size + 1 < w1.heap.size := by omega
  have hr1_2 : w.heap.size + 1 + 1 < w1.heap.size := by omega
  have hM1 : Mod (fun _ => False) w w1 := by (repeat (first | with_reducible exact Mod.refl _ _ | with_reducible refine Mod.drewN ?_ _ | with_reducible refine Mod.drew ?_ | with_reducible refine Mod.alloc ?_ _ | ((with_reducible refine Mod.setNew ?_ ?_ _ _ _); (rotate_left; omega)) | with_reducible refine Mod.setAt ?_ _ _ _ | with_reducible exact hm1 | with_reducible refine Mod.thenNone ?_ hm1 ))
  simp only [World.size_alloc] at hg1
  have S1 := hid (MemoSlice.wide s1 (S := fun b => w.heap.size + 1 + 1 + 1 ≤ b) (fun k _ hk => by simpa using hk))
  have U1 := hid (u1.weaken (S := fun b => w.heap.size + 1 + 1 + 1 ≤ b) (fun k _ hk => by simpa using hk))
  have hsz : w.heap.size + 1 + 1 + 1 ≤ w1.heap.size := by have := hm1.size; simpa using this
  clear hh s1 u1
  go_wp2_with fail
  refine (toAskedS_any x.asked _ _ R _ f2 (H2.out.flatKeep (by (repeat (first | with_reducible exact Mod.refl _ _ | with_reducible refine Mod.drewN ?_ _ | with_reducible refine Mod.drew ?_ | with_reducible refine Mod.alloc ?_ _ | ((with_reducible refine Mod.setNew ?_ ?_ _ _ _); (rotate_left; omega)) | with_reducible refine Mod.setAt ?_ _ _ _ | with_reducible exact hM1 | with_reducible refine Mod.thenNone ?_ hM1 ))))).mono ?_
  intro e w2 hh
  obtain ⟨g2, rfl, hg2, s2, u2, hm2⟩ := hh.wr (sz := 6) (fun _ => rfl)
  obtain ⟨hq2, hz2⟩ := mcell hm2
  have hs2 := hm2.size
  repeat (first | rw [World.size_alloc] at hs2 | rw [World.size_setCell] at hs2 | rw [World.size_drew] at hs2 | unfold World.drewN at hs2)
  have hr2_0 : w.heap.size < w2.heap.size := by omega
  have hr2_1 : w.heap.size + 1 < w2.heap.size := by omega
  have hr2_2 : w.heap.size + 1 + 1 < w2.heap.size := by omega
  have hM2 : Mod (fun _ => False) w w2 := by (repeat (first | with_reducible exact Mod.refl _ _ | with_reducible refine Mod.drewN ?_ _ | with_reducible refine Mod.drew ?_ | with_reducible refine Mod.alloc ?_ _ | ((with_reducible refine Mod.setNew ?_ ?_ _ _ _); (rotate_left; omega)) | with_reducible refine Mod.setAt ?_ _ _ _ | with_reducible exact hm2 | with_reducible refine Mod.thenNone ?_ hm2 | with_reducible exact hM1 | with_reducible refine Mod.thenNone ?_ hM1 ))
  have hms1 : Mod (fun k => k = w.heap.size + 1 + 1) w1 (w1.setCell ⟨w.heap.size + 1 + 1, 0, none⟩ (.slice (some ⟨g1, 0, none⟩) x.memos.length x.memos.length)) := (Mod.refl _ _).setAt _ _ _
  have hlow : ∀ k, w.heap.size + 1 + 1 + 1 ≤ k → ¬ k = w.heap.size + 1 + 1 := by omega
  have S1' := hid (MemoSlice.keep (MemoSlice.mod S1.out hms1 hlow) hm2)
  have U1' := hid ((U1.out.mod hms1 hlow).mod hm2 (fun _ _ f => f))
  have S2 := hid (SliceAt.wide s2 (S := fun b => w.heap.size + 1 + 1 + 1 ≤ b) (fun k _ hk => Nat.le_trans hsz (by simpa using hk)))
  have U2 := hid (u2.weaken (S := fun b => w.heap.size + 1 + 1 + 1 ≤ b) (fun k _ hk => Nat.le_trans hsz (by simpa using hk)))
  simp only [World.size_alloc, World.size_setCell] at hg2
  clear hh s2 u2 S1 U1 hms1 hm1 hm2
  go_wp2
  have hfin : ∀ W : World, Mod (fun k => k = w.heap.size + 1 + 1 ∨ k = w.heap.size + 1) w2 W → KeptIn true (fun b => w.heap.size ≤ b) W [.slice (some ⟨g1, 0, none⟩) x.memos.length x.memos.length, .slice (some ⟨g2, 0, none⟩) x.asked.length x.asked.length] x := by
    intro W hW
    have k1 : ∀ k, w.heap.size + 1 + 1 + 1 ≤ k → ¬ (k = w.heap.size + 1 + 1 ∨ k = w.heap.size + 1) := by omega
    exact KeptIn.wide ⟨_, _, _, _, rfl, MemoSlice.mod S1'.out hW k1, S2.out.flatMod hW k1, fun _ => ⟨U1'.out.mod hW k1, U2.out.mod hW k1⟩⟩ (fun k _ hk => by show w.heap.size ≤ k; omega)
  refine bodyPost_ret (v := .agg [.slice (some ⟨g1, 0, none⟩) x.memos.length x.memos.length, .slice (some ⟨g2, 0, none⟩) x.asked.length x.asked.length].toArray) ?_ rfl ⟨_, rfl, hfin _ ?_, ?_⟩
  · simp [results, Tryd.results26, go_sem, *]
  · refine Mod.setCell (Mod.setCell (Mod.setCell (Mod.refl _ _) (fun _ => .inl (.inl rfl)) _) (fun _ => .inl (.inr rfl)) _) (fun _ => .inl (.inr rfl)) _
  · (repeat (first | with_reducible exact Mod.refl _ _ | with_reducible refine Mod.drewN ?_ _ | with_reducible refine Mod.drew ?_ | with_reducible refine Mod.alloc ?_ _ | ((with_reducible refine Mod.setNew ?_ ?_ _ _ _); (rotate_left; omega)) | with_reducible refine Mod.setAt ?_ _ _ _ | with_reducible exact hM2 | with_reducible refine Mod.thenNone ?_ hM2 ))

set_option maxHeartbeats 2000000 in
theorem eqKept_same (x : KeptT) (o o' : Bool) (cs cs' : List Value) (R S : Nat → Prop) (w : World) (hf : x.fits 1048576) (h : KeptIn o R w cs x) (h' : KeptIn o' S w cs' x) :
    Calls Tryd.prog 28 #[.agg cs.toArray, .agg cs'.toArray] w fun e w' => e = .returned (.bool true) ∧ Mod (fun _ => False) w w' := by
  obtain ⟨m, c, a, c', rfl, h1, h2, _⟩ := h
  obtain ⟨m', d, a', d', rfl, h1', h2', _⟩ := h'
  obtain ⟨f1, f2, f3⟩ := hf
  have H1 := hid h1
  have H2 := hid h2
  have H1' := hid h1'
  have H2' := hid h2'
  have F3 := hid f3
  clear h1 h2 h1' h2' f3
  go_enter Tryd.func28, Tryd.ntmps28
  go_wp2_with fail
  refine (eqMemoS_same x.memos o o' _ _ _ _ R S _ f1 F3.out (H1.out.keep (by (repeat (first | with_reducible exact Mod.refl _ _ | with_reducible refine Mod.drewN ?_ _ | with_reducible refine Mod.drew ?_ | with_reducible refine Mod.alloc ?_ _ | ((with_reducible refine Mod.setNew ?_ ?_ _ _ _); (rotate_left; omega)) | with_reducible refine Mod.setAt ?_ _ _ _ )))) (H1'.out.keep (by (repeat (first | with_reducible exact Mod.refl _ _ | with_reducible refine Mod.drewN ?_ _ | with_reducible refine Mod.drew ?_ | with_reducible refine Mod.alloc ?_ _ | ((with_reducible refine Mod.setNew ?_ ?_ _ _ _); (rotate_left; omega)) | with_reducible refine Mod.setAt ?_ _ _ _ ))))).mono ?_
  rintro e w1 ⟨rfl, hm1⟩
  obtain ⟨hq1, hz1⟩ := mcell hm1
  have hs1 := hm1.size
  repeat (first | rw [World.size_alloc] at hs1 | rw [World.size_setCell] at hs1 | rw [World.size_drew] at hs1 | unfold World.drewN at hs1)
  have hr1_0 : w.heap.size < w1.heap.size := by omega
  have hr1_1 : w.heap.size + 1 < w1.heap.size := by omega
  have hM1 : Mod (fun _ => False) w w1 := by (repeat (first | with_reducible exact Mod.refl _ _ | with_reducible refine Mod.drewN ?_ _ | with_reducible refine Mod.drew ?_ | with_reducible refine Mod.alloc ?_ _ | ((with_reducible refine Mod.setNew ?_ ?_ _ _ _); (rotate_left; omega)) | with_reducible refine Mod.setAt ?_ _ _ _ | with_reducible exact hm1 | with_reducible refine Mod.thenNone ?_ hm1 ))
  go_wp2_with fail
  refine (eqAskedS_any x.asked x.asked _ _ _ _ R S _ (by omega) (by omega) (H2.out.flatKeep hM1) (H2'.out.flatKeep hM1)).mono ?_
  rintro e w2 ⟨rfl, hm2⟩
  rw [decide_eq_true rfl]
  go_wp2
  go_ret
  exact ⟨rfl, by (repeat (first | with_reducible exact Mod.refl _ _ | with_reducible refine Mod.drewN ?_ _ | with_reducible refine Mod.drew ?_ | with_reducible refine Mod.alloc ?_ _ | ((with_reducible refine Mod.setNew ?_ ?_ _ _ _); (rotate_left; omega)) | with_reducible refine Mod.setAt ?_ _ _ _ | with_reducible exact hm2 | with_reducible refine Mod.thenNone ?_ hm2 | with_reducible exact hM1 | with_reducible refine Mod.thenNone ?_ hM1 ))⟩

set_option maxHeartbeats 2000000 in
theorem szKept_any (x : KeptT) (o : Bool) (cs : List Value) (R : Nat → Prop) (left : Int) (w : World) (h0 : 0 ≤ left) (h1 : left ≤ 1048576) (hf : x.fits 9223372036854775807) (h : KeptIn o R w cs x) :
    Calls Tryd.prog 24 #[.agg cs.toArray, .int .i64 left] w fun e w' => e = .returned (.int .i64 (szRes left x.cost)) ∧ Mod (fun _ => False) w w' := by
  obtain ⟨m, c, a, c', rfl, hs, _, _⟩ := h
  obtain ⟨f1, f2, f3⟩ := hf
  have H := hid hs
  have F3 := hid f3
  clear hs f3
  go_enter Tryd.func24, Tryd.ntmps24
  go_wp2_with fail
  refine (szMemoS_any x.memos o _ _ R left _ h0 h1 f1 F3.out (H.out.keep (by (repeat (first | with_reducible exact Mod.refl _ _ | with_reducible refine Mod.drewN ?_ _ | with_reducible refine Mod.drew ?_ | with_reducible refine Mod.alloc ?_ _ | ((with_reducible refine Mod.setNew ?_ ?_ _ _ _); (rotate_left; omega)) | with_reducible refine Mod.setAt ?_ _ _ _ ))))).mono ?_
  rintro e w1 ⟨rfl, hm1⟩
  obtain ⟨hq1, hz1⟩ := mcell hm1
  have hs1 := hm1.size
  repeat (first | rw [World.size_alloc] at hs1 | rw [World.size_setCell] at hs1 | rw [World.size_drew] at hs1 | unfold World.drewN at hs1)
  have hr1_0 : w.heap.size < w1.heap.size := by omega
  have hM1 : Mod (fun _ => False) w w1 := by (repeat (first | with_reducible exact Mod.refl _ _ | with_reducible refine Mod.drewN ?_ _ | with_reducible refine Mod.drew ?_ | with_reducible refine Mod.alloc ?_ _ | ((with_reducible refine Mod.setNew ?_ ?_ _ _ _); (rotate_left; omega)) | with_reducible refine Mod.setAt ?_ _ _ _ | with_reducible exact hm1 | with_reducible refine Mod.thenNone ?_ hm1 ))
  by_cases hs : left < (x.memos.length + costs Memo.cost x.memos : Nat)
  · rw [szRes_less hs]
    have hc := hid (szRes_less (left := left) (n := x.cost) (by unfold KeptT.cost; omega))
    go_wp2
    go_ret
    exact ⟨ret_int hc.out.symm, hM1⟩
  · rw [szRes_more (by omega)]
    have h2 : 0 ≤ left - (x.memos.length + costs Memo.cost x.memos : Nat) := by omega
    have h3 : left - (x.memos.length + costs Memo.cost x.memos : Nat) ≤ 1048576 := by omega
    have hc := hid (show ∀ q : Int, q = left - (x.memos.length + costs Memo.cost x.memos : Nat) → szRes left x.cost = szRes q x.asked.length from by
      intro q hq
      unfold szRes KeptT.cost
      split <;> split <;> omega)
    generalize hq : left - (x.memos.length + costs Memo.cost x.memos : Nat) = q at h2 h3
    have hc2 := hid (hc.out q hq.symm)
    clear hc hq hs
    go_wp2_with fail
    refine (szAskedS_any _ _ _ _ h2 h3 f2 _).mono ?_
    rintro e w2 ⟨rfl, rfl⟩
    by_cases hs2 : q < x.asked.length
    · rw [if_pos hs2]
      have hc3 := hid (hc2.out.trans (szRes_less hs2))
      go_wp2
      go_ret
      exact ⟨ret_int hc3.out.symm, hM1⟩
    · rw [if_neg hs2]
      have hc3 := hid (hc2.out.trans (szRes_more (by omega)))
      have h4 : 0 ≤ q - x.asked.length := by omega
      go_wp2
      go_ret
      exact ⟨ret_int hc3.out.symm, hM1⟩

set_option maxRecDepth 100000 in
theorem rd_Asked {w : World} {cs : List Value} (h : Rd Tryd.prog w 138 cs) : ∃ x : Asked, cs = x.cells := by
  obtain ⟨hl, hf⟩ := h.struct Tryd.underlying138
  have hl2 : cs.length = 6 := hl.trans (by kernel_rfl)
  have c1 : Tryd.prog.cellsOf 3 = 1 := by kernel_rfl
  have c2 : Tryd.prog.cellsOf 4 = 1 := by kernel_rfl
  have c3 : Tryd.prog.cellsOf 125 = 2 := by kernel_rfl
  match cs, hl2 with
  | [q0, q1, q2, q3, q4, q5], _ =>
    obtain ⟨n0, e0, _⟩ := (hf 0 _ rfl).int Tryd.underlying3
    obtain ⟨x1, e1⟩ := rd_Space (hf 1 _ rfl)
    obtain ⟨x2, e2⟩ := rd_Space (hf 2 _ rfl)
    obtain ⟨b3, e3⟩ := (hf 3 _ rfl).bool Tryd.underlying4
    simp [c1, c2, c3, Space.cells] at e0 e1 e2 e3
    exact ⟨⟨n0, x1, x2, b3⟩, by simp [Asked.cells, e0, e1, e2, e3]⟩
set_option maxRecDepth 100000 in
theorem rd_Kept {w : World} {cs : List Value} (h : Rd Tryd.prog w 56 cs) : ∃ x : KeptT, KeptIn false (fun k => k < w.heap.size) w cs x ∧ x.fits 9223372036854775807 ∧ ∀ m ∈ x.memos, m.ok := by
  obtain ⟨hl, hf⟩ := h.struct Tryd.underlying56
  have hl2 : cs.length = 2 := hl.trans (by kernel_rfl)
  have c1 : Tryd.prog.cellsOf 53 = 1 := by kernel_rfl
  have c2 : Tryd.prog.cellsOf 54 = 1 := by kernel_rfl
  match cs, hl2 with
  | [q0, q1], _ =>
    obtain ⟨a, l, c, e0, h1, h2, h3⟩ := (hf 0 _ rfl).list (rep := fun w' r x => MemoIn false (fun k => k < w.heap.size) w' r x ∧ (x.frames.length ≤ 9223372036854775807 ∧ x.ok)) (sz := 10) Tryd.underlying53 (by kernel_rfl) (by decide) (fun cs h => by
      obtain ⟨x, a, c, e, ho, hn, hs⟩ := rd_Memo h
      exact ⟨x, ⟨a, c, e, hs, fun h => by cases h⟩, hn, ho⟩)
    obtain ⟨h4, h5⟩ := h3.split2
    obtain ⟨a', l', c', e1, h1', h2', h3'⟩ := (hf 1 _ rfl).list (rep := Flat Asked.cells) (sz := 6) Tryd.underlying54 (by kernel_rfl) (by decide) (fun cs h => rd_Asked h)
    simp [c1, c2] at e0 e1
    unfold maxLen at h2 h2'
    exact ⟨⟨l, l'⟩, ⟨a, c, a', c', by simp [e0, e1], h4, h3', fun h => by cases h⟩, ⟨by show l.length ≤ _; omega, by show l'.length ≤ _; omega, fun m hm => (h5 m hm).1⟩, fun m hm => (h5 m hm).2⟩

end Go.Proofs.YtcolkidnjojlmaaDoor
