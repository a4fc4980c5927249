/-
  PROVED: contracts of the exact laws' functions at one Memo (and its Box): copy, comparison, count, reading. No condition but a bound on the length.
-/
import Derived.Test.YtcolkidnjojlmaaDoorSpaceCodec
import Derived.Test.YtcolkidnjojlmaaDoorFrameS
namespace Go.Proofs.YtcolkidnjojlmaaDoor
open Go.RowKit

/-- What holds after a struct with one new slice of frames was made. -/
def NewFrames (l : List Frame) (v : Nat → Value) (w : World) (en : Ending) (w' : World) : Prop :=
  ∃ g, en = .returned (v g) ∧ w.heap.size ≤ g ∧ w'.heap[g]? = some (.cells (l.map Frame.cells).flatten.toArray 161 (0, 0)) ∧ Mod (fun _ => False) w w'

set_option maxHeartbeats 1000000 in
theorem toBox_any (x : Memo) (a : Option Addr) (c : Nat) (R : Nat → Prop) (w : World) (hl : x.frames.length ≤ 1048576) (h : SliceAt (Flat Frame.cells) 5 R w a x.frames) :
    Calls Tryd.prog 107 #[.agg #[.int .i64 x.bw, .int .i64 x.bh, .int .i64 x.bb, .slice a x.frames.length c]] w (NewFrames x.frames (fun g => .agg #[.int .i64 x.bw, .int .i64 x.bh, .int .i64 x.bb, .slice (some ⟨g, 0, none⟩) x.frames.length x.frames.length]) w) := by
  have H := hid h
  clear h
  go_enter Tryd.func107, Tryd.ntmps107
  go_wp2_with fail
  refine (toFrameS_any x.frames _ _ R _ hl ?_).mono ?_
  · refine H.out.flatKeep ?_
    (repeat (first | with_reducible exact Mod.refl _ _ | with_reducible refine Mod.drewN ?_ _ | with_reducible refine Mod.drew ?_ | with_reducible refine Mod.alloc ?_ _ | ((with_reducible refine Mod.setNew ?_ ?_ _ _ _); (rotate_left; omega)) | with_reducible refine Mod.setAt ?_ _ _ _ ))
  rintro e w1 ⟨g, rfl, hg, hb, hm1⟩
  obtain ⟨hq1, hz1⟩ := mcell hm1
  have hs1 := hm1.size
  repeat (first | rw [World.size_alloc] at hs1 | rw [World.size_setCell] at hs1 | rw [World.size_drew] at hs1 | unfold World.drewN at hs1)
  have hr1_0 : w.heap.size < w1.heap.size := by omega
  have hr1_1 : w.heap.size + 1 < w1.heap.size := by omega
  have hr1_2 : w.heap.size + 1 + 1 < w1.heap.size := by omega
  simp only [World.size_alloc, World.size_setCell] at hg
  have hne : g ≠ w.heap.size + 1 + 1 := by omega
  have hne' : g ≠ w.heap.size + 1 := by omega
  have Hb := hid hb
  clear hb
  go_wp2
  refine bodyPost_ret (v := .agg #[.int .i64 x.bw, .int .i64 x.bh, .int .i64 x.bb, .slice (some ⟨g, 0, none⟩) x.frames.length x.frames.length]) ?_ rfl ⟨g, rfl, by omega, ?_, ?_⟩
  · simp [results, Tryd.results107, go_sem, *]
  · simp only [blk_far hne, blk_far hne']
    exact Hb.out
  · (repeat (first | with_reducible exact Mod.refl _ _ | with_reducible refine Mod.drewN ?_ _ | with_reducible refine Mod.drew ?_ | with_reducible refine Mod.alloc ?_ _ | ((with_reducible refine Mod.setNew ?_ ?_ _ _ _); (rotate_left; omega)) | with_reducible refine Mod.setAt ?_ _ _ _ | with_reducible exact hm1 | with_reducible refine Mod.thenNone ?_ hm1 ))

set_option maxRecDepth 100000 in
set_option maxHeartbeats 2000000 in
theorem toMemo_any (x : Memo) (a : Option Addr) (c : Nat) (R : Nat → Prop) (w : World) (hl : x.frames.length ≤ 1048576) (h : SliceAt (Flat Frame.cells) 5 R w a x.frames) :
    Calls Tryd.prog 89 #[.agg #[.int .i64 x.node, .int .i64 x.wide.mode, .int .i64 x.wide.n, .int .i64 x.high.mode, .int .i64 x.high.n, .bool x.rtl, .int .i64 x.bw, .int .i64 x.bh, .int .i64 x.bb, .slice a x.frames.length c]] w (NewFrames x.frames (fun g => .agg #[.int .i64 x.node, .int .i64 x.wide.mode, .int .i64 x.wide.n, .int .i64 x.high.mode, .int .i64 x.high.n, .bool x.rtl, .int .i64 x.bw, .int .i64 x.bh, .int .i64 x.bb, .slice (some ⟨g, 0, none⟩) x.frames.length x.frames.length]) w) := by
  have H := hid h
  clear h
  go_enter Tryd.func89, Tryd.ntmps89
  go_wp2_with fail
  refine (toSpace_any x.wide _).mono ?_
  rintro e w1 ⟨rfl, hm1⟩
  obtain ⟨hq1, hz1⟩ := mcell hm1
  have hs1 := hm1.size
  repeat (first | rw [World.size_alloc] at hs1 | rw [World.size_setCell] at hs1 | rw [World.size_drew] at hs1 | unfold World.drewN at hs1)
  have hr1_0 : w.heap.size < w1.heap.size := by omega
  have hr1_1 : w.heap.size + 1 < w1.heap.size := by omega
  have hr1_2 : w.heap.size + 1 + 1 < w1.heap.size := by omega
  have hM1 : Mod (fun _ => False) w w1 := by (repeat (first | with_reducible exact Mod.refl _ _ | with_reducible refine Mod.drewN ?_ _ | with_reducible refine Mod.drew ?_ | with_reducible refine Mod.alloc ?_ _ | ((with_reducible refine Mod.setNew ?_ ?_ _ _ _); (rotate_left; omega)) | with_reducible refine Mod.setAt ?_ _ _ _ | with_reducible exact hm1 | with_reducible refine Mod.thenNone ?_ hm1 ))
  go_wp2_with fail
  refine (toSpace_any x.high _).mono ?_
  rintro e w2 ⟨rfl, hm2⟩
  obtain ⟨hq2, hz2⟩ := mcell hm2
  have hs2 := hm2.size
  repeat (first | rw [World.size_alloc] at hs2 | rw [World.size_setCell] at hs2 | rw [World.size_drew] at hs2 | unfold World.drewN at hs2)
  have hr2_0 : w.heap.size < w2.heap.size := by omega
  have hr2_1 : w.heap.size + 1 < w2.heap.size := by omega
  have hr2_2 : w.heap.size + 1 + 1 < w2.heap.size := by omega
  have hM2 : Mod (fun _ => False) w w2 := by (repeat (first | with_reducible exact Mod.refl _ _ | with_reducible refine Mod.drewN ?_ _ | with_reducible refine Mod.drew ?_ | with_reducible refine Mod.alloc ?_ _ | ((with_reducible refine Mod.setNew ?_ ?_ _ _ _); (rotate_left; omega)) | with_reducible refine Mod.setAt ?_ _ _ _ | with_reducible exact hm2 | with_reducible refine Mod.thenNone ?_ hm2 | with_reducible exact hM1 | with_reducible refine Mod.thenNone ?_ hM1 ))
  go_wp2_with fail
  refine (toBox_any x _ _ R _ hl ?_).mono ?_
  · refine H.out.flatKeep ?_
    (repeat (first | with_reducible exact Mod.refl _ _ | with_reducible refine Mod.drewN ?_ _ | with_reducible refine Mod.drew ?_ | with_reducible refine Mod.alloc ?_ _ | ((with_reducible refine Mod.setNew ?_ ?_ _ _ _); (rotate_left; omega)) | with_reducible refine Mod.setAt ?_ _ _ _ | with_reducible exact hM2 | with_reducible refine Mod.thenNone ?_ hM2 ))
  rintro e w3 ⟨g, rfl, hg, hb, hm3⟩
  obtain ⟨hq3, hz3⟩ := mcell hm3
  have hs3 := hm3.size
  repeat (first | rw [World.size_alloc] at hs3 | rw [World.size_setCell] at hs3 | rw [World.size_drew] at hs3 | unfold World.drewN at hs3)
  have hr3_0 : w.heap.size < w3.heap.size := by omega
  have hr3_1 : w.heap.size + 1 < w3.heap.size := by omega
  have hr3_2 : w.heap.size + 1 + 1 < w3.heap.size := by omega
  simp only [World.size_alloc, World.size_setCell] at hg
  have hne : g ≠ w.heap.size + 1 + 1 := by omega
  have hne' : g ≠ w.heap.size + 1 := by omega
  have Hb := hid hb
  have hM3 : Mod (fun _ => False) w w3 := by (repeat (first | with_reducible exact Mod.refl _ _ | with_reducible refine Mod.drewN ?_ _ | with_reducible refine Mod.drew ?_ | with_reducible refine Mod.alloc ?_ _ | ((with_reducible refine Mod.setNew ?_ ?_ _ _ _); (rotate_left; omega)) | with_reducible refine Mod.setAt ?_ _ _ _ | with_reducible exact hm3 | with_reducible refine Mod.thenNone ?_ hm3 | with_reducible exact hM2 | with_reducible refine Mod.thenNone ?_ hM2 ))
  clear hb hm1 hm2 hm3 hM1 hM2
  go_wp2
  refine bodyPost_ret (v := .agg #[.int .i64 x.node, .int .i64 x.wide.mode, .int .i64 x.wide.n, .int .i64 x.high.mode, .int .i64 x.high.n, .bool x.rtl, .int .i64 x.bw, .int .i64 x.bh, .int .i64 x.bb, .slice (some ⟨g, 0, none⟩) x.frames.length x.frames.length]) ?_ rfl ⟨g, rfl, by omega, ?_, ?_⟩
  · simp [results, Tryd.results89, go_sem, *]
  · simp only [blk_far hne, blk_far hne']
    exact Hb.out
  · (repeat (first | with_reducible exact Mod.refl _ _ | with_reducible refine Mod.drewN ?_ _ | with_reducible refine Mod.drew ?_ | with_reducible refine Mod.alloc ?_ _ | ((with_reducible refine Mod.setNew ?_ ?_ _ _ _); (rotate_left; omega)) | with_reducible refine Mod.setAt ?_ _ _ _ | with_reducible exact hM3 | with_reducible refine Mod.thenNone ?_ hM3 ))

set_option maxHeartbeats 1000000 in
theorem eqBox_any (x : Memo) (a a' : Option Addr) (c c' : Nat) (R S : Nat → Prop) (w : World) (hl : x.frames.length ≤ 1048576) (h : SliceAt (Flat Frame.cells) 5 R w a x.frames) (h' : SliceAt (Flat Frame.cells) 5 S w a' x.frames) :
    Calls Tryd.prog 114 #[.agg #[.int .i64 x.bw, .int .i64 x.bh, .int .i64 x.bb, .slice a x.frames.length c], .agg #[.int .i64 x.bw, .int .i64 x.bh, .int .i64 x.bb, .slice a' x.frames.length c']] w fun e w' => e = .returned (.bool true) ∧ Mod (fun _ => False) w w' := by
  have H := hid h
  have H' := hid h'
  clear h h'
  go_enter Tryd.func114, Tryd.ntmps114
  go_wp2_with fail
  refine (eqFrameS_any x.frames x.frames _ _ _ _ _ _ _ (by omega) (by omega) (H.out.flatKeep (by (repeat (first | with_reducible exact Mod.refl _ _ | with_reducible refine Mod.drewN ?_ _ | with_reducible refine Mod.drew ?_ | with_reducible refine Mod.alloc ?_ _ | ((with_reducible refine Mod.setNew ?_ ?_ _ _ _); (rotate_left; omega)) | with_reducible refine Mod.setAt ?_ _ _ _ )))) (H'.out.flatKeep (by (repeat (first | with_reducible exact Mod.refl _ _ | with_reducible refine Mod.drewN ?_ _ | with_reducible refine Mod.drew ?_ | with_reducible refine Mod.alloc ?_ _ | ((with_reducible refine Mod.setNew ?_ ?_ _ _ _); (rotate_left; omega)) | with_reducible refine Mod.setAt ?_ _ _ _ ))))).mono ?_
  rintro e w1 ⟨rfl, hm1⟩
  rw [decide_eq_true rfl]
  go_wp2
  go_ret
  exact ⟨rfl, by (repeat (first | with_reducible exact Mod.refl _ _ | with_reducible refine Mod.drewN ?_ _ | with_reducible refine Mod.drew ?_ | with_reducible refine Mod.alloc ?_ _ | ((with_reducible refine Mod.setNew ?_ ?_ _ _ _); (rotate_left; omega)) | with_reducible refine Mod.setAt ?_ _ _ _ | with_reducible exact hm1 | with_reducible refine Mod.thenNone ?_ hm1 ))⟩

set_option maxHeartbeats 1000000 in
theorem eqMemo_any (x : Memo) (a a' : Option Addr) (c c' : Nat) (R S : Nat → Prop) (w : World) (hl : x.frames.length ≤ 1048576) (h : SliceAt (Flat Frame.cells) 5 R w a x.frames) (h' : SliceAt (Flat Frame.cells) 5 S w a' x.frames) :
    Calls Tryd.prog 96 #[.agg #[.int .i64 x.node, .int .i64 x.wide.mode, .int .i64 x.wide.n, .int .i64 x.high.mode, .int .i64 x.high.n, .bool x.rtl, .int .i64 x.bw, .int .i64 x.bh, .int .i64 x.bb, .slice a x.frames.length c], .agg #[.int .i64 x.node, .int .i64 x.wide.mode, .int .i64 x.wide.n, .int .i64 x.high.mode, .int .i64 x.high.n, .bool x.rtl, .int .i64 x.bw, .int .i64 x.bh, .int .i64 x.bb, .slice a' x.frames.length c']] w fun e w' => e = .returned (.bool true) ∧ Mod (fun _ => False) w w' := by
  have H := hid h
  have H' := hid h'
  clear h h'
  go_enter Tryd.func96, Tryd.ntmps96
  go_wp2_with fail
  refine (eqSpace_any x.wide x.wide _).mono ?_
  rintro e w1 ⟨rfl, hm1⟩
  rw [decide_eq_true rfl]
  obtain ⟨hq1, hz1⟩ := mcell hm1
  have hs1 := hm1.size
  repeat (first | rw [World.size_alloc] at hs1 | rw [World.size_setCell] at hs1 | rw [World.size_drew] at hs1 | unfold World.drewN at hs1)
  have hr1_0 : w.heap.size < w1.heap.size := by omega
  have hr1_1 : w.heap.size + 1 < w1.heap.size := by omega
  have hM1 : Mod (fun _ => False) w w1 := by (repeat (first | with_reducible exact Mod.refl _ _ | with_reducible refine Mod.drewN ?_ _ | with_reducible refine Mod.drew ?_ | with_reducible refine Mod.alloc ?_ _ | ((with_reducible refine Mod.setNew ?_ ?_ _ _ _); (rotate_left; omega)) | with_reducible refine Mod.setAt ?_ _ _ _ | with_reducible exact hm1 | with_reducible refine Mod.thenNone ?_ hm1 ))
  go_wp2_with fail
  refine (eqSpace_any x.high x.high _).mono ?_
  rintro e w2 ⟨rfl, hm2⟩
  rw [decide_eq_true rfl]
  obtain ⟨hq2, hz2⟩ := mcell hm2
  have hs2 := hm2.size
  repeat (first | rw [World.size_alloc] at hs2 | rw [World.size_setCell] at hs2 | rw [World.size_drew] at hs2 | unfold World.drewN at hs2)
  have hr2_0 : w.heap.size < w2.heap.size := by omega
  have hr2_1 : w.heap.size + 1 < w2.heap.size := by omega
  have hM2 : Mod (fun _ => False) w w2 := by (repeat (first | with_reducible exact Mod.refl _ _ | with_reducible refine Mod.drewN ?_ _ | with_reducible refine Mod.drew ?_ | with_reducible refine Mod.alloc ?_ _ | ((with_reducible refine Mod.setNew ?_ ?_ _ _ _); (rotate_left; omega)) | with_reducible refine Mod.setAt ?_ _ _ _ | with_reducible exact hm2 | with_reducible refine Mod.thenNone ?_ hm2 | with_reducible exact hM1 | with_reducible refine Mod.thenNone ?_ hM1 ))
  go_wp2_with fail
  refine (eqBox_any x _ _ _ _ R S _ hl (H.out.flatKeep hM2) (H'.out.flatKeep hM2)).mono ?_
  rintro e w3 ⟨rfl, hm3⟩
  go_wp2
  go_ret
  exact ⟨rfl, by (repeat (first | with_reducible exact Mod.refl _ _ | with_reducible refine Mod.drewN ?_ _ | with_reducible refine Mod.drew ?_ | with_reducible refine Mod.alloc ?_ _ | ((with_reducible refine Mod.setNew ?_ ?_ _ _ _); (rotate_left; omega)) | with_reducible refine Mod.setAt ?_ _ _ _ | with_reducible exact hm3 | with_reducible refine Mod.thenNone ?_ hm3 | with_reducible exact hM2 | with_reducible refine Mod.thenNone ?_ hM2 ))⟩

theorem szBox_any (x0 x1 x2 : Int) (n c : Nat) (a : Option Addr) (left : Int) (h0 : 0 ≤ left) (h1 : left ≤ 1048576) (hn : n ≤ 9223372036854775807) (w : World) : Calls Tryd.prog 104 #[.agg #[.int .i64 x0, .int .i64 x1, .int .i64 x2, .slice a n c], .int .i64 left] w fun e w' => e = .returned (.int .i64 (if left < n then -1 else left - n)) ∧ Mod (fun _ => False) w w' := by
  by_cases h : left < n
  · rw [if_pos h]
    go_enter Tryd.func104, Tryd.ntmps104
    go_wp2_with fail
    refine (szFrameS_any _ _ _ _ h0 h1 hn _).mono ?_
    rintro e w' ⟨rfl, rfl⟩
    rw [if_pos h]
    go_wp2
    go_ret
    exact ⟨rfl, by (repeat (first | with_reducible exact Mod.refl _ _ | with_reducible refine Mod.drewN ?_ _ | with_reducible refine Mod.drew ?_ | with_reducible refine Mod.alloc ?_ _ | ((with_reducible refine Mod.setNew ?_ ?_ _ _ _); (rotate_left; omega)) | with_reducible refine Mod.setAt ?_ _ _ _ ))⟩
  · rw [if_neg h]
    have h2 : 0 ≤ left - n := by omega
    go_enter Tryd.func104, Tryd.ntmps104
    go_wp2_with fail
    refine (szFrameS_any _ _ _ _ h0 h1 hn _).mono ?_
    rintro e w' ⟨rfl, rfl⟩
    rw [if_neg (by omega)]
    go_wp2
    go_ret
    exact ⟨rfl, by (repeat (first | with_reducible exact Mod.refl _ _ | with_reducible refine Mod.drewN ?_ _ | with_reducible refine Mod.drew ?_ | with_reducible refine Mod.alloc ?_ _ | ((with_reducible refine Mod.setNew ?_ ?_ _ _ _); (rotate_left; omega)) | with_reducible refine Mod.setAt ?_ _ _ _ ))⟩
theorem szMemo_any (x : Memo) (n c : Nat) (a : Option Addr) (left : Int) (h0 : 0 ≤ left) (h1 : left ≤ 1048576) (hn : n ≤ 9223372036854775807) (w : World) : Calls Tryd.prog 86 #[.agg #[.int .i64 x.node, .int .i64 x.wide.mode, .int .i64 x.wide.n, .int .i64 x.high.mode, .int .i64 x.high.n, .bool x.rtl, .int .i64 x.bw, .int .i64 x.bh, .int .i64 x.bb, .slice a n c], .int .i64 left] w fun e w' => e = .returned (.int .i64 (if left < n then -1 else left - n)) ∧ Mod (fun _ => False) w w' := by
  by_cases h : left < n
  · rw [if_pos h]
    go_enter Tryd.func86, Tryd.ntmps86
    go_wp2_with fail
    refine (szBox_any _ _ _ _ _ _ _ h0 h1 hn _).mono ?_
    rintro e w1 ⟨rfl, hm1⟩
    rw [if_pos h]
    go_wp2
    go_ret
    exact ⟨rfl, by (repeat (first | with_reducible exact Mod.refl _ _ | with_reducible refine Mod.drewN ?_ _ | with_reducible refine Mod.drew ?_ | with_reducible refine Mod.alloc ?_ _ | ((with_reducible refine Mod.setNew ?_ ?_ _ _ _); (rotate_left; omega)) | with_reducible refine Mod.setAt ?_ _ _ _ | with_reducible exact hm1 | with_reducible refine Mod.thenNone ?_ hm1 ))⟩
  · rw [if_neg h]
    have h2 : 0 ≤ left - n := by omega
    go_enter Tryd.func86, Tryd.ntmps86
    go_wp2_with fail
    refine (szBox_any _ _ _ _ _ _ _ h0 h1 hn _).mono ?_
    rintro e w1 ⟨rfl, hm1⟩
    rw [if_neg (by omega)]
    go_wp2
    go_ret
    exact ⟨rfl, by (repeat (first | with_reducible exact Mod.refl _ _ | with_reducible refine Mod.drewN ?_ _ | with_reducible refine Mod.drew ?_ | with_reducible refine Mod.alloc ?_ _ | ((with_reducible refine Mod.setNew ?_ ?_ _ _ _); (rotate_left; omega)) | with_reducible refine Mod.setAt ?_ _ _ _ | with_reducible exact hm1 | with_reducible refine Mod.thenNone ?_ hm1 ))⟩

/-- A memo of machine numbers. -/
def Memo.ok (x : Memo) : Prop := I64 x.node ∧ I64 x.bw ∧ I64 x.bh ∧ ∀ f ∈ x.frames, f.ok
set_option maxRecDepth 100000 in
theorem rd_Space {w : World} {cs : List Value} (h : Rd Tryd.prog w 125 cs) : ∃ x : Space, cs = x.cells := by
  obtain ⟨hl, hf⟩ := h.struct Tryd.underlying125
  have hl2 : cs.length = 2 := hl.trans (by kernel_rfl)
  have c1 : Tryd.prog.cellsOf 3 = 1 := by kernel_rfl
  match cs, hl2 with
  | [c0, c1'], _ =>
    obtain ⟨n0, e0, _⟩ := (hf 0 _ rfl).int Tryd.underlying3
    obtain ⟨n1, e1, _⟩ := (hf 1 _ rfl).int Tryd.underlying3
    simp [c1] at e0 e1
    exact ⟨⟨n0, n1⟩, by simp [Space.cells, e0, e1]⟩
set_option maxRecDepth 100000 in
theorem rd_Box {w : World} {cs : List Value} (h : Rd Tryd.prog w 128 cs) : ∃ (x0 x1 x2 : Int) (a : Option Addr) (l : List Frame) (c : Nat), cs = [.int .i64 x0, .int .i64 x1, .int .i64 x2, .slice a l.length c] ∧ I64 x0 ∧ I64 x1 ∧ l.length ≤ 9223372036854775807 ∧ SliceAt (Flat Frame.cells) 5 (fun k => k < w.heap.size) w a l ∧ ∀ f ∈ l, f.ok := by
  obtain ⟨hl, hf⟩ := h.struct Tryd.underlying128
  have hl2 : cs.length = 4 := hl.trans (by kernel_rfl)
  have c1 : Tryd.prog.cellsOf 3 = 1 := by kernel_rfl
  have c2 : Tryd.prog.cellsOf 126 = 1 := by kernel_rfl
  match cs, hl2 with
  | [q0, q1, q2, q3], _ =>
    obtain ⟨n0, e0, w0⟩ := (hf 0 _ rfl).int Tryd.underlying3
    obtain ⟨n1, e1, w1⟩ := (hf 1 _ rfl).int Tryd.underlying3
    obtain ⟨n2, e2, w2⟩ := (hf 2 _ rfl).int Tryd.underlying3
    obtain ⟨a, l, c, e, h1, h2, h3⟩ := (hf 3 _ rfl).list (rep := fun _ r x => r = Frame.cells x ∧ x.ok) (sz := 5) Tryd.underlying126 (by kernel_rfl) (by decide) (fun cs h => rd_Frame h)
    simp [c1, c2] at e0 e1 e2 e
    unfold maxLen at h2
    obtain ⟨h4, h5⟩ := h3.split
    exact ⟨n0, n1, n2, a, l, c, by simp [e0, e1, e2, e], wf_i64 w0, wf_i64 w1, by omega, h4, h5⟩
set_option maxRecDepth 100000 in
theorem rd_Memo {w : World} {cs : List Value} (h : Rd Tryd.prog w 130 cs) : ∃ (x : Memo) (a : Option Addr) (c : Nat), cs = [.int .i64 x.node, .int .i64 x.wide.mode, .int .i64 x.wide.n, .int .i64 x.high.mode, .int .i64 x.high.n, .bool x.rtl, .int .i64 x.bw, .int .i64 x.bh, .int .i64 x.bb, .slice a x.frames.length c] ∧ x.ok ∧ x.frames.length ≤ 9223372036854775807 ∧ SliceAt (Flat Frame.cells) 5 (fun k => k < w.heap.size) w a x.frames := by
  obtain ⟨hl, hf⟩ := h.struct Tryd.underlying130
  have hl2 : cs.length = 10 := hl.trans (by kernel_rfl)
  have c1 : Tryd.prog.cellsOf 3 = 1 := by kernel_rfl
  have c2 : Tryd.prog.cellsOf 4 = 1 := by kernel_rfl
  have c3 : Tryd.prog.cellsOf 125 = 2 := by kernel_rfl
  have c4 : Tryd.prog.cellsOf 128 = 4 := by kernel_rfl
  match cs, hl2 with
  | [q0, q1, q2, q3, q4, q5, q6, q7, q8, q9], _ =>
    obtain ⟨n0, e0, w0⟩ := (hf 0 _ rfl).int Tryd.underlying3
    obtain ⟨x1, e1⟩ := rd_Space (hf 1 _ rfl)
    obtain ⟨x2, e2⟩ := rd_Space (hf 2 _ rfl)
    obtain ⟨b3, e3⟩ := (hf 3 _ rfl).bool Tryd.underlying4
    obtain ⟨y0, y1, y2, a, l, c, e4, i0, i1, hn, hs, hk⟩ := rd_Box (hf 4 _ rfl)
    simp [c1, c2, c3, c4, Space.cells] at e0 e1 e2 e3 e4
    exact ⟨⟨n0, x1, x2, b3, y0, y1, y2, l⟩, a, c, by simp [e0, e1, e2, e3, e4], ⟨wf_i64 w0, i0, i1, hk⟩, hn, hs⟩

/-- A memo's value reads as the memo. -/
def MemoAt (x : Memo) (w : World) (v : Value) : Prop := ∃ a c, v = .agg #[.int .i64 x.node, .int .i64 x.wide.mode, .int .i64 x.wide.n, .int .i64 x.high.mode, .int .i64 x.high.n, .bool x.rtl, .int .i64 x.bw, .int .i64 x.bh, .int .i64 x.bb, .slice a x.frames.length c] ∧ ∃ R, SliceAt (Flat Frame.cells) 5 R w a x.frames
theorem MemoAt.keep {x : Memo} {w w' : World} {v : Value} (h : MemoAt x w v) (hm : Mod (fun _ => False) w w') : MemoAt x w' v := by
  obtain ⟨a, c, h1, R, h2⟩ := h
  exact ⟨a, c, h1, R, h2.flatKeep hm⟩
theorem NewFrames.at {w w' : World} {x : Memo} {en : Ending} (h : NewFrames x.frames (fun g => .agg #[.int .i64 x.node, .int .i64 x.wide.mode, .int .i64 x.wide.n, .int .i64 x.high.mode, .int .i64 x.high.n, .bool x.rtl, .int .i64 x.bw, .int .i64 x.bh, .int .i64 x.bb, .slice (some ⟨g, 0, none⟩) x.frames.length x.frames.length]) w en w') :
    ∃ v, en = .returned v ∧ MemoAt x w' v ∧ Mod (fun _ => False) w w' := by
  obtain ⟨g, he, hg, hb, hm⟩ := h
  exact ⟨_, he, ⟨_, _, rfl, _, flat_of_blk hb (fun _ => rfl)⟩, hm⟩

end Go.Proofs.YtcolkidnjojlmaaDoor
