/-
  PROVED: contracts of functions and words on memory, several texts put together: what each says stands at its theorems. Conditions: as told there.
-/
import Derived.Test.YthffgbhphjkdeaaMGe
set_option linter.unusedVariables false
set_option linter.unusedSimpArgs false
namespace Go.Proofs.Ythffgbhphjkdeaa
open Go.RowKit
set_option linter.unusedVariables false
set_option linter.unusedSimpArgs false

/-- A valid style, field by field. -/
structure StyleR (x : Style) : Prop where
  dir : inB x.dir (1) 4 = true
  wrap : inB x.wrap (1) 3 = true
  justify : inB x.justify (1) 6 = true
  items : inB x.items (1) 5 = true
  self : inB x.self (0) 5 = true
  content : inB x.content (1) 6 = true
  order : inB x.order (-1000) 1000 = true
  grow : inB x.grow (0) 1000 = true
  shrink : inB x.shrink (0) 1000 = true
  basis : sizeOk x.basis = true
  width : sizeOk x.width = true
  height : sizeOk x.height = true
  minWidth : sizeOk x.minWidth = true
  minHeight : sizeOk x.minHeight = true
  maxWidth : sizeOk x.maxWidth = true
  maxHeight : sizeOk x.maxHeight = true
  ratio : inB x.ratio (0) 6400 = true
  margin : sidesOk x.margin = true
  inset : sidesOk x.inset = true
  pad : edgesOk x.pad = true
  border : edgesOk x.border = true
  rowGap : inB x.rowGap (0) 1048576 = true
  colGap : inB x.colGap (0) 1048576 = true
theorem StyleR.ok {x : Style} (h : StyleR x) : styleOk x = true := by
  have h0 := h.order
  simp only [styleOk, h.dir, h.wrap, h.justify, h.items, h.self, h.content, h.grow, h.shrink, h.basis, h.width, h.height, h.minWidth, h.minHeight, h.maxWidth, h.maxHeight, h.ratio, h.margin, h.inset, h.pad, h.border, h.rowGap, h.colGap, Bool.and_true, Bool.true_and]
  exact h0
theorem newStyle_r : StyleR newStyle := by constructor <;> decide
structure SidesR (x : Sides) : Prop where
  left : valOk x.left = true
  top : valOk x.top = true
  right : valOk x.right = true
  bottom : valOk x.bottom = true
  start : valOk x.start = true
  stop : valOk x.stop = true
theorem SidesR.ok {x : Sides} (h : SidesR x) : sidesOk x = true := by simp only [sidesOk, h.left, h.top, h.right, h.bottom, h.start, h.stop, Bool.and_true]
theorem size_val {v : Val} (h : sizeOk v = true) : valOk v = true := by unfold sizeOk at h; exact (Bool.and_eq_true_iff.1 h).1
theorem auto_ok : valOk ⟨3, 0⟩ = true := by decide
theorem zero_sides : SidesR default := by constructor <;> decide

set_option maxRecDepth 100000 in
set_option maxHeartbeats 8000000 in
theorem l04Value_r (B gc : Nat) (w : World) (hc : Cur B 141 w gc) : Calls Try.prog 112 #[.pointer (some ⟨gc, 0, none⟩)] w (DrewV 141 B gc w (fun v : Val => .agg v.cells.toArray) (fun v => sizeOk v = true)) := by
  refine calls_draw (as_ := [.pointer (some ⟨gc, 0, none⟩)]) hc Try.func112 rfl rfl (fun a h1 h2 h3 => ((Fr.nil h1 h2).arg (h3 0 _ rfl))) ?_
  repeat (first | refine qan ?_ | refine qaj ?_ | refine qaf ?_ | refine qad ?_ | (refine qao ?_; (refine qac (qai rfl) rfl ?_ ?_ ?_); rfl; rfl) | (refine qaR ?_; refine SXl.alloc ?_ ?_ (fun g => ?_); rfl; rfl))
  refine qat ?_
  refine qaB (ξ := Int) (v := fun x : Int => .int .i64 x) rfl rfl rfl (fun x => 0 ≤ x ∧ x < 6) (fun w hl => below_d B gc w hl.inv 6 (by decide) (by decide)) (fun x hx => ?_)
  by_cases h0 : x = 0
  · repeat (first | refine qan ?_ | refine qaj ?_ | refine qaf ?_ | refine qad ?_ | refine SX.block ?_ | refine qaq rfl ?_ | (refine qao ?_; (refine qac (qai rfl) rfl ?_ ?_ ?_); rfl; rfl) | (refine qal ?_; (refine qac (qag rfl) rfl ?_ ?_ ?_); rfl; rfl) | (refine l_eql ?_; (refine qac (qaQ rfl rfl (by omega)) rfl ?_ ?_ ?_); rfl; rfl))
    refine qaN ?_
    refine SXl.lit (cells := [.int .i64 0, .int .i64 10, .int .i64 25, .int .i64 50, .int .i64 100, .int .i64 150, .int .i64 33]) (z := .int .i64 0) ?_ ?_ rfl (by decide) (by kernel_rfl) rfl (fun gl => ?_)
    rfl; rfl
    skip
    refine qat ?_
    refine qaB (ξ := Int) (v := fun x => .int .i64 x) rfl rfl rfl (fun x => x ∈ ([0, 10, 25, 50, 100, 150, 33] : List Int)) (fun w hl => pick_d (l := [0, 10, 25, 50, 100, 150, 33]) hl (by decide) (by decide)) (fun y hy => ?_)
    refine SXl.drop1 ?_
    have hy2 : 0 ≤ y ∧ y ≤ 150 := by simp at hy; omega
    repeat (first | refine qaj ?_ | refine qad ?_ | (refine l_build ?_; (refine qac ((OpW.build (vals := [(0, .int .i64 2), (1, .int .i64 y)]) (cells := [.int .i64 2, .int .i64 y]) rfl (by kernel_rfl))) rfl ?_ ?_ ?_); rfl; rfl) | (refine qay ?_; first | ((first | refine qaa 0 ?_ rfl rfl rfl rfl rfl rfl rfl ?_ | refine qaa 1 ?_ rfl rfl rfl rfl rfl rfl rfl ?_ | refine qaa 2 ?_ rfl rfl rfl rfl rfl rfl rfl ?_); rfl; simp only [List.set_cons_zero, List.set_cons_succ]) | ((first | refine qab 0 ?_ rfl rfl rfl rfl rfl rfl rfl ?_ | refine qab 1 ?_ rfl rfl rfl rfl rfl rfl rfl ?_ | refine qab 2 ?_ rfl rfl rfl rfl rfl rfl rfl ?_); rfl; simp only [over, List.set_cons_zero, List.set_cons_succ])) | refine qaA ?_ | refine qax ?_ | refine qaH ?_)
    refine qaK 0 rfl rfl rfl rfl (fun w' hl => ⟨⟨2, y⟩, rfl, (by simp [sizeOk, valOk, inB]; omega), hl.mod, hl.inv⟩)
  by_cases h12 : x = 1 ∨ x = 2
  · have hz2 : ∀ z : Int, 0 ≤ z ∧ z < 3000 → ∀ y : Int, y ∈ ([0, 64, 100, 640, 1000, 33, z] : List Int) → 0 ≤ y ∧ y ≤ 3000 := fun z hz y hy => by simp at hy; omega
    rcases h12 with h12 | h12
    · repeat (first | refine qan ?_ | refine qaj ?_ | refine qaf ?_ | refine qad ?_ | refine SX.block ?_ | refine qaC ?_ | refine qaq rfl ?_ | refine qas rfl ?_ | (refine qao ?_; (refine qac (qai rfl) rfl ?_ ?_ ?_); rfl; rfl) | (refine qal ?_; (refine qac (qag rfl) rfl ?_ ?_ ?_); rfl; rfl) | (refine l_eql ?_; (first | refine qac (qaQ rfl rfl (by omega)) rfl ?_ ?_ ?_ | refine qac (qaP rfl rfl (by omega)) rfl ?_ ?_ ?_); rfl; rfl))
      refine qat ?_
      refine qaB (ξ := Int) (v := fun x : Int => .int .i64 x) rfl rfl rfl (fun x => 0 ≤ x ∧ x < 3000) (fun w hl => below_d B gc w hl.inv 3000 (by decide) (by decide)) (fun z hz => ?_)
      skip
      refine qaN ?_
      refine SXl.lit (cells := [.int .i64 0, .int .i64 64, .int .i64 100, .int .i64 640, .int .i64 1000, .int .i64 33, .int .i64 z]) (z := .int .i64 0) ?_ ?_ rfl (by decide) (by kernel_rfl) rfl (fun gl => ?_)
      rfl; rfl
      skip
      refine qat ?_
      refine qaB (ξ := Int) (v := fun x => .int .i64 x) rfl rfl rfl (fun x => x ∈ ([0, 64, 100, 640, 1000, 33, z] : List Int)) (fun w hl => pick_d (l := [0, 64, 100, 640, 1000, 33, z]) hl (by simp) (by simp)) (fun y hy => ?_)
      refine SXl.drop1 ?_
      have hy2 := hz2 z hz y hy
      repeat (first | refine qaj ?_ | refine qad ?_ | (refine l_build ?_; (refine qac ((OpW.build (vals := [(0, .int .i64 1), (1, .int .i64 y)]) (cells := [.int .i64 1, .int .i64 y]) rfl (by kernel_rfl))) rfl ?_ ?_ ?_); rfl; rfl) | (refine qay ?_; first | ((first | refine qaa 0 ?_ rfl rfl rfl rfl rfl rfl rfl ?_ | refine qaa 1 ?_ rfl rfl rfl rfl rfl rfl rfl ?_ | refine qaa 2 ?_ rfl rfl rfl rfl rfl rfl rfl ?_); rfl; simp only [List.set_cons_zero, List.set_cons_succ]) | ((first | refine qab 0 ?_ rfl rfl rfl rfl rfl rfl rfl ?_ | refine qab 1 ?_ rfl rfl rfl rfl rfl rfl rfl ?_ | refine qab 2 ?_ rfl rfl rfl rfl rfl rfl rfl ?_); rfl; simp only [over, List.set_cons_zero, List.set_cons_succ])) | refine qaA ?_ | refine qax ?_ | refine qaH ?_)
      refine qaK 0 rfl rfl rfl rfl (fun w' hl => ⟨⟨1, y⟩, rfl, (by simp [sizeOk, valOk, inB]; omega), hl.mod, hl.inv⟩)
    · repeat (first | refine qan ?_ | refine qaj ?_ | refine qaf ?_ | refine qad ?_ | refine SX.block ?_ | refine qaq rfl ?_ | refine qas rfl ?_ | (refine qao ?_; (refine qac (qai rfl) rfl ?_ ?_ ?_); rfl; rfl) | (refine qal ?_; (refine qac (qag rfl) rfl ?_ ?_ ?_); rfl; rfl) | (refine l_eql ?_; (first | refine qac (qaQ rfl rfl (by omega)) rfl ?_ ?_ ?_ | refine qac (qaP rfl rfl (by omega)) rfl ?_ ?_ ?_); rfl; rfl))
      refine qat ?_
      refine qaB (ξ := Int) (v := fun x : Int => .int .i64 x) rfl rfl rfl (fun x => 0 ≤ x ∧ x < 3000) (fun w hl => below_d B gc w hl.inv 3000 (by decide) (by decide)) (fun z hz => ?_)
      skip
      refine qaN ?_
      refine SXl.lit (cells := [.int .i64 0, .int .i64 64, .int .i64 100, .int .i64 640, .int .i64 1000, .int .i64 33, .int .i64 z]) (z := .int .i64 0) ?_ ?_ rfl (by decide) (by kernel_rfl) rfl (fun gl => ?_)
      rfl; rfl
      skip
      refine qat ?_
      refine qaB (ξ := Int) (v := fun x => .int .i64 x) rfl rfl rfl (fun x => x ∈ ([0, 64, 100, 640, 1000, 33, z] : List Int)) (fun w hl => pick_d (l := [0, 64, 100, 640, 1000, 33, z]) hl (by simp) (by simp)) (fun y hy => ?_)
      refine SXl.drop1 ?_
      have hy2 := hz2 z hz y hy
      repeat (first | refine qaj ?_ | refine qad ?_ | (refine l_build ?_; (refine qac ((OpW.build (vals := [(0, .int .i64 1), (1, .int .i64 y)]) (cells := [.int .i64 1, .int .i64 y]) rfl (by kernel_rfl))) rfl ?_ ?_ ?_); rfl; rfl) | (refine qay ?_; first | ((first | refine qaa 0 ?_ rfl rfl rfl rfl rfl rfl rfl ?_ | refine qaa 1 ?_ rfl rfl rfl rfl rfl rfl rfl ?_ | refine qaa 2 ?_ rfl rfl rfl rfl rfl rfl rfl ?_); rfl; simp only [List.set_cons_zero, List.set_cons_succ]) | ((first | refine qab 0 ?_ rfl rfl rfl rfl rfl rfl rfl ?_ | refine qab 1 ?_ rfl rfl rfl rfl rfl rfl rfl ?_ | refine qab 2 ?_ rfl rfl rfl rfl rfl rfl rfl ?_); rfl; simp only [over, List.set_cons_zero, List.set_cons_succ])) | refine qaA ?_ | refine qax ?_ | refine qaH ?_)
      refine qaK 0 rfl rfl rfl rfl (fun w' hl => ⟨⟨1, y⟩, rfl, (by simp [sizeOk, valOk, inB]; omega), hl.mod, hl.inv⟩)
  repeat (first | refine qan ?_ | refine qaj ?_ | refine qaf ?_ | refine qad ?_ | refine SX.block ?_ | refine qaC ?_ | refine qas rfl ?_ | (refine l_build ?_; (refine qac ((OpW.build (vals := []) (cells := [.int .i64 0, .int .i64 0]) rfl (by kernel_rfl))) rfl ?_ ?_ ?_); rfl; rfl) | (refine qal ?_; (refine qac (qag rfl) rfl ?_ ?_ ?_); rfl; rfl) | (refine l_eql ?_; (refine qac (qaP rfl rfl (by omega)) rfl ?_ ?_ ?_); rfl; rfl) | (refine qay ?_; first | ((first | refine qaa 0 ?_ rfl rfl rfl rfl rfl rfl rfl ?_ | refine qaa 1 ?_ rfl rfl rfl rfl rfl rfl rfl ?_ | refine qaa 2 ?_ rfl rfl rfl rfl rfl rfl rfl ?_); rfl; simp only [List.set_cons_zero, List.set_cons_succ]) | ((first | refine qab 0 ?_ rfl rfl rfl rfl rfl rfl rfl ?_ | refine qab 1 ?_ rfl rfl rfl rfl rfl rfl rfl ?_ | refine qab 2 ?_ rfl rfl rfl rfl rfl rfl rfl ?_); rfl; simp only [over, List.set_cons_zero, List.set_cons_succ])) | refine qaA ?_ | refine qar ?_)
  refine qaK 0 rfl rfl rfl rfl (fun w' hl => ⟨⟨0, 0⟩, rfl, (by decide), hl.mod, hl.inv⟩)

set_option maxRecDepth 100000 in
set_option maxHeartbeats 8000000 in
theorem l05Sides_r (B gc : Nat) (w : World) (hc : Cur B 141 w gc) : Calls Try.prog 113 #[.pointer (some ⟨gc, 0, none⟩)] w (DrewV 141 B gc w (fun v : Sides => .agg v.cells.toArray) (fun v => sidesOk v = true)) := by
  refine calls_draw (as_ := [.pointer (some ⟨gc, 0, none⟩)]) hc Try.func113 rfl rfl (fun a h1 h2 h3 => ((Fr.nil h1 h2).arg (h3 0 _ rfl))) ?_
  repeat (first | refine qan ?_ | refine qaj ?_ | refine qaf ?_ | refine qad ?_ | refine SX.block ?_ | (refine l_build ?_; (refine qac ((OpW.build (vals := []) (cells := Sides.cells default) rfl (by kernel_rfl))) rfl ?_ ?_ ?_); rfl; rfl) | (refine qal ?_; (refine qac (qag rfl) rfl ?_ ?_ ?_); rfl; rfl) | (refine qaR ?_; refine SXl.alloc ?_ ?_ (fun g => ?_); rfl; rfl) | (refine qay ?_; first | ((first | refine qaa 0 ?_ rfl rfl rfl rfl rfl rfl rfl ?_ | refine qaa 1 ?_ rfl rfl rfl rfl rfl rfl rfl ?_ | refine qaa 2 ?_ rfl rfl rfl rfl rfl rfl rfl ?_); rfl; simp only [List.set_cons_zero, List.set_cons_succ]) | ((first | refine qab 0 ?_ rfl rfl rfl rfl rfl rfl rfl ?_ | refine qab 1 ?_ rfl rfl rfl rfl rfl rfl rfl ?_ | refine qab 2 ?_ rfl rfl rfl rfl rfl rfl rfl ?_); rfl; simp only [over, List.set_cons_zero, List.set_cons_succ])))
  rename_i g2
  revert g; intro g3
  refine SX.loopi (ι := Nat × Sides) (fun i => i.1 ≤ 3 ∧ SidesR i.2) (fun i => 4 - i.1) (fun i => [⟨g3, i.2.cells, 62⟩, ⟨g2, [.int .i64 0, .int .i64 0, .int .i64 0, .int .i64 0, .int .i64 0, .int .i64 0, .int .i64 0, .int .i64 0, .int .i64 0, .int .i64 0, .int .i64 0, .int .i64 0], 62⟩]) (fun _ => []) (fun _ => []) (fun i => [(0, .pointer (some ⟨gc, 0, none⟩)), (2, .pointer (some ⟨g2, 0, none⟩)), (3, .pointer (some ⟨g3, 0, none⟩)), (4, .int .i64 i.1)]) (0, default) ⟨by simp, zero_sides⟩ ?_ (fun _ hl => hl) ?_
  · (repeat (first | exact subF_nil _ | (refine subF_cons rfl ?_) | (refine subF_consv rfl (by rfl) ?_)))
  rintro ⟨i, s⟩ ⟨hi, hs⟩
  simp only at hi hs
  repeat (first | refine qan ?_ | refine qaf ?_ | (refine qao ?_; (refine qac (qai rfl) rfl ?_ ?_ ?_); rfl; rfl))
  refine qat ?_
  refine qaB (ξ := Int) (v := fun x : Int => .int .i64 x) rfl rfl rfl (fun x => 0 ≤ x ∧ x < 4) (fun w hl => below_d B gc w hl.inv 4 (by decide) (by decide)) (fun x hx => ?_)
  by_cases hlt : (i : Int) < x
  rotate_left
  · repeat (first | refine qan ?_ | refine qaj ?_ | refine qaf ?_ | refine qad ?_ | refine qas rfl ?_ | (refine qau ?_; (refine qac (qam 0 rfl rfl rfl) rfl ?_ ?_ ?_); rfl; rfl) | (refine l_lss ?_; (refine qac (OpW.lssF rfl rfl (by omega)) rfl ?_ ?_ ?_); rfl; rfl) | (refine qay ?_; first | ((first | refine qaa 0 ?_ rfl rfl rfl rfl rfl rfl rfl ?_ | refine qaa 1 ?_ rfl rfl rfl rfl rfl rfl rfl ?_ | refine qaa 2 ?_ rfl rfl rfl rfl rfl rfl rfl ?_); rfl; simp only [List.set_cons_zero, List.set_cons_succ]) | ((first | refine qab 0 ?_ rfl rfl rfl rfl rfl rfl rfl ?_ | refine qab 1 ?_ rfl rfl rfl rfl rfl rfl rfl ?_ | refine qab 2 ?_ rfl rfl rfl rfl rfl rfl rfl ?_); rfl; simp only [over, List.set_cons_zero, List.set_cons_succ])) | refine qaA ?_ | refine SX.exit ?_ | refine qaF ?_ | refine qaD ?_)
    refine qaK 1 rfl rfl rfl rfl (fun w' hl => ⟨s, rfl, hs.ok, hl.mod, hl.inv⟩)
  repeat (first | refine qan ?_ | refine qaj ?_ | refine qaf ?_ | refine qad ?_ | refine SX.block ?_ | refine qaC ?_ | refine qaq rfl ?_ | (refine qao ?_; (refine qac (qai rfl) rfl ?_ ?_ ?_); rfl; rfl) | (refine l_lss ?_; (refine qac (OpW.lssT rfl rfl (by omega)) rfl ?_ ?_ ?_); rfl; rfl))
  refine qat ?_
  refine qaB (ξ := Val) (v := fun v => .agg v.cells.toArray) rfl rfl rfl (fun v => sizeOk v = true) (fun w hl => l04Value_r B gc w hl.inv) (fun v hv => ?_)
  repeat (first | refine qan ?_ | refine qaj ?_ | refine qaf ?_ | refine qad ?_ | (refine qao ?_; (refine qac (qai rfl) rfl ?_ ?_ ?_); rfl; rfl) | (refine qaR ?_; refine SXl.alloc ?_ ?_ (fun g => ?_); rfl; rfl) | (refine qay ?_; first | ((first | refine qaa 0 ?_ rfl rfl rfl rfl rfl rfl rfl ?_ | refine qaa 1 ?_ rfl rfl rfl rfl rfl rfl rfl ?_ | refine qaa 2 ?_ rfl rfl rfl rfl rfl rfl rfl ?_); rfl; simp only [List.set_cons_zero, List.set_cons_succ]) | ((first | refine qab 0 ?_ rfl rfl rfl rfl rfl rfl rfl ?_ | refine qab 1 ?_ rfl rfl rfl rfl rfl rfl rfl ?_ | refine qab 2 ?_ rfl rfl rfl rfl rfl rfl rfl ?_); rfl; simp only [over, List.set_cons_zero, List.set_cons_succ])))
  refine qat ?_
  refine qaB (ξ := Bool) (v := fun b => .bool b) rfl rfl rfl (fun _ => True) (fun w hl => once_d B gc w hl.inv 4 (by decide)) (fun b _ => ?_)
  cases b
  · repeat (first | refine qan ?_ | refine qaj ?_ | refine qaf ?_ | refine qad ?_ | refine qaC ?_ | refine qas rfl ?_ | (refine qao ?_; (refine qac (qai rfl) rfl ?_ ?_ ?_); rfl; rfl))
    refine qat ?_
    refine qaB (ξ := Int) (v := fun x : Int => .int .i64 x) rfl rfl rfl (fun x => 0 ≤ x ∧ x < 6) (fun w hl => below_d B gc w hl.inv 6 (by decide) (by decide)) (fun y hy => ?_)
    by_cases h0 : y = 0
    · repeat (first | refine qan ?_ | refine qaj ?_ | refine qaf ?_ | refine qad ?_ | refine SX.block ?_ | refine qaq rfl ?_ | (refine qau ?_; (refine qac (qam 0 rfl rfl rfl) rfl ?_ ?_ ?_); rfl; rfl) | (refine qak ?_; (refine qac (qae rfl) rfl ?_ ?_ ?_); rfl; rfl) | (refine qao ?_; (refine qac (qai rfl) rfl ?_ ?_ ?_); rfl; rfl) | (refine qal ?_; (refine qac (qag rfl) rfl ?_ ?_ ?_); rfl; rfl) | (refine l_add ?_; (refine qac (OpW.succ rfl rfl (by omega)) rfl ?_ ?_ ?_); rfl; rfl) | (refine l_eql ?_; (refine qac (qaQ rfl rfl (by omega)) rfl ?_ ?_ ?_); rfl; rfl) | (refine qay ?_; first | ((first | refine qaa 0 ?_ rfl rfl rfl rfl rfl rfl rfl ?_ | refine qaa 1 ?_ rfl rfl rfl rfl rfl rfl rfl ?_ | refine qaa 2 ?_ rfl rfl rfl rfl rfl rfl rfl ?_); rfl; simp only [List.set_cons_zero, List.set_cons_succ]) | ((first | refine qab 0 ?_ rfl rfl rfl rfl rfl rfl rfl ?_ | refine qab 1 ?_ rfl rfl rfl rfl rfl rfl rfl ?_ | refine qab 2 ?_ rfl rfl rfl rfl rfl rfl rfl ?_); rfl; simp only [over, List.set_cons_zero, List.set_cons_succ])) | refine qar ?_)
      refine SQ.roundi (i + 1, { s with left := v }) ⟨by simp only; omega, { hs with left := size_val hv }⟩ (by simp only; omega) ?_ (fun _ hl => hl.drop1)
      (repeat (first | exact subF_nil _ | (refine subF_cons rfl ?_) | (refine subF_consv rfl (by rfl) ?_)))
    by_cases h1 : y = 1
    · repeat (first | refine qan ?_ | refine qaj ?_ | refine qaf ?_ | refine qad ?_ | refine SX.block ?_ | refine qaq rfl ?_ | refine qas rfl ?_ | (refine qau ?_; (refine qac (qam 0 rfl rfl rfl) rfl ?_ ?_ ?_); rfl; rfl) | (refine qak ?_; (refine qac (qae rfl) rfl ?_ ?_ ?_); rfl; rfl) | (refine qao ?_; (refine qac (qai rfl) rfl ?_ ?_ ?_); rfl; rfl) | (refine qal ?_; (refine qac (qag rfl) rfl ?_ ?_ ?_); rfl; rfl) | (refine l_add ?_; (refine qac (OpW.succ rfl rfl (by omega)) rfl ?_ ?_ ?_); rfl; rfl) | (refine l_eql ?_; (first | refine qac (qaQ rfl rfl (by omega)) rfl ?_ ?_ ?_ | refine qac (qaP rfl rfl (by omega)) rfl ?_ ?_ ?_); rfl; rfl) | (refine qay ?_; first | ((first | refine qaa 0 ?_ rfl rfl rfl rfl rfl rfl rfl ?_ | refine qaa 1 ?_ rfl rfl rfl rfl rfl rfl rfl ?_ | refine qaa 2 ?_ rfl rfl rfl rfl rfl rfl rfl ?_); rfl; simp only [List.set_cons_zero, List.set_cons_succ]) | ((first | refine qab 0 ?_ rfl rfl rfl rfl rfl rfl rfl ?_ | refine qab 1 ?_ rfl rfl rfl rfl rfl rfl rfl ?_ | refine qab 2 ?_ rfl rfl rfl rfl rfl rfl rfl ?_); rfl; simp only [over, List.set_cons_zero, List.set_cons_succ])) | refine qar ?_)
      refine SQ.roundi (i + 1, { s with top := v }) ⟨by simp only; omega, { hs with top := size_val hv }⟩ (by simp only; omega) ?_ (fun _ hl => hl.drop1)
      (repeat (first | exact subF_nil _ | (refine subF_cons rfl ?_) | (refine subF_consv rfl (by rfl) ?_)))
    by_cases h2 : y = 2
    · repeat (first | refine qan ?_ | refine qaj ?_ | refine qaf ?_ | refine qad ?_ | refine SX.block ?_ | refine qaq rfl ?_ | refine qas rfl ?_ | (refine qau ?_; (refine qac (qam 0 rfl rfl rfl) rfl ?_ ?_ ?_); rfl; rfl) | (refine qak ?_; (refine qac (qae rfl) rfl ?_ ?_ ?_); rfl; rfl) | (refine qao ?_; (refine qac (qai rfl) rfl ?_ ?_ ?_); rfl; rfl) | (refine qal ?_; (refine qac (qag rfl) rfl ?_ ?_ ?_); rfl; rfl) | (refine l_add ?_; (refine qac (OpW.succ rfl rfl (by omega)) rfl ?_ ?_ ?_); rfl; rfl) | (refine l_eql ?_; (first | refine qac (qaQ rfl rfl (by omega)) rfl ?_ ?_ ?_ | refine qac (qaP rfl rfl (by omega)) rfl ?_ ?_ ?_); rfl; rfl) | (refine qay ?_; first | ((first | refine qaa 0 ?_ rfl rfl rfl rfl rfl rfl rfl ?_ | refine qaa 1 ?_ rfl rfl rfl rfl rfl rfl rfl ?_ | refine qaa 2 ?_ rfl rfl rfl rfl rfl rfl rfl ?_); rfl; simp only [List.set_cons_zero, List.set_cons_succ]) | ((first | refine qab 0 ?_ rfl rfl rfl rfl rfl rfl rfl ?_ | refine qab 1 ?_ rfl rfl rfl rfl rfl rfl rfl ?_ | refine qab 2 ?_ rfl rfl rfl rfl rfl rfl rfl ?_); rfl; simp only [over, List.set_cons_zero, List.set_cons_succ])) | refine qar ?_)
      refine SQ.roundi (i + 1, { s with right := v }) ⟨by simp only; omega, { hs with right := size_val hv }⟩ (by simp only; omega) ?_ (fun _ hl => hl.drop1)
      (repeat (first | exact subF_nil _ | (refine subF_cons rfl ?_) | (refine subF_consv rfl (by rfl) ?_)))
    by_cases h3 : y = 3
    · repeat (first | refine qan ?_ | refine qaj ?_ | refine qaf ?_ | refine qad ?_ | refine SX.block ?_ | refine qaq rfl ?_ | refine qas rfl ?_ | (refine qau ?_; (refine qac (qam 0 rfl rfl rfl) rfl ?_ ?_ ?_); rfl; rfl) | (refine qak ?_; (refine qac (qae rfl) rfl ?_ ?_ ?_); rfl; rfl) | (refine qao ?_; (refine qac (qai rfl) rfl ?_ ?_ ?_); rfl; rfl) | (refine qal ?_; (refine qac (qag rfl) rfl ?_ ?_ ?_); rfl; rfl) | (refine l_add ?_; (refine qac (OpW.succ rfl rfl (by omega)) rfl ?_ ?_ ?_); rfl; rfl) | (refine l_eql ?_; (first | refine qac (qaQ rfl rfl (by omega)) rfl ?_ ?_ ?_ | refine qac (qaP rfl rfl (by omega)) rfl ?_ ?_ ?_); rfl; rfl) | (refine qay ?_; first | ((first | refine qaa 0 ?_ rfl rfl rfl rfl rfl rfl rfl ?_ | refine qaa 1 ?_ rfl rfl rfl rfl rfl rfl rfl ?_ | refine qaa 2 ?_ rfl rfl rfl rfl rfl rfl rfl ?_); rfl; simp only [List.set_cons_zero, List.set_cons_succ]) | ((first | refine qab 0 ?_ rfl rfl rfl rfl rfl rfl rfl ?_ | refine qab 1 ?_ rfl rfl rfl rfl rfl rfl rfl ?_ | refine qab 2 ?_ rfl rfl rfl rfl rfl rfl rfl ?_); rfl; simp only [over, List.set_cons_zero, List.set_cons_succ])) | refine qar ?_)
      refine SQ.roundi (i + 1, { s with bottom := v }) ⟨by simp only; omega, { hs with bottom := size_val hv }⟩ (by simp only; omega) ?_ (fun _ hl => hl.drop1)
      (repeat (first | exact subF_nil _ | (refine subF_cons rfl ?_) | (refine subF_consv rfl (by rfl) ?_)))
    by_cases h4 : y = 4
    · repeat (first | refine qan ?_ | refine qaj ?_ | refine qaf ?_ | refine qad ?_ | refine SX.block ?_ | refine qaq rfl ?_ | refine qas rfl ?_ | (refine qau ?_; (refine qac (qam 0 rfl rfl rfl) rfl ?_ ?_ ?_); rfl; rfl) | (refine qak ?_; (refine qac (qae rfl) rfl ?_ ?_ ?_); rfl; rfl) | (refine qao ?_; (refine qac (qai rfl) rfl ?_ ?_ ?_); rfl; rfl) | (refine qal ?_; (refine qac (qag rfl) rfl ?_ ?_ ?_); rfl; rfl) | (refine l_add ?_; (refine qac (OpW.succ rfl rfl (by omega)) rfl ?_ ?_ ?_); rfl; rfl) | (refine l_eql ?_; (first | refine qac (qaQ rfl rfl (by omega)) rfl ?_ ?_ ?_ | refine qac (qaP rfl rfl (by omega)) rfl ?_ ?_ ?_); rfl; rfl) | (refine qay ?_; first | ((first | refine qaa 0 ?_ rfl rfl rfl rfl rfl rfl rfl ?_ | refine qaa 1 ?_ rfl rfl rfl rfl rfl rfl rfl ?_ | refine qaa 2 ?_ rfl rfl rfl rfl rfl rfl rfl ?_); rfl; simp only [List.set_cons_zero, List.set_cons_succ]) | ((first | refine qab 0 ?_ rfl rfl rfl rfl rfl rfl rfl ?_ | refine qab 1 ?_ rfl rfl rfl rfl rfl rfl rfl ?_ | refine qab 2 ?_ rfl rfl rfl rfl rfl rfl rfl ?_); rfl; simp only [over, List.set_cons_zero, List.set_cons_succ])) | refine qar ?_)
      refine SQ.roundi (i + 1, { s with start := v }) ⟨by simp only; omega, { hs with start := size_val hv }⟩ (by simp only; omega) ?_ (fun _ hl => hl.drop1)
      (repeat (first | exact subF_nil _ | (refine subF_cons rfl ?_) | (refine subF_consv rfl (by rfl) ?_)))
    repeat (first | refine qan ?_ | refine qaj ?_ | refine qaf ?_ | refine qad ?_ | refine SX.block ?_ | refine qas rfl ?_ | (refine qau ?_; (refine qac (qam 0 rfl rfl rfl) rfl ?_ ?_ ?_); rfl; rfl) | (refine qak ?_; (refine qac (qae rfl) rfl ?_ ?_ ?_); rfl; rfl) | (refine qao ?_; (refine qac (qai rfl) rfl ?_ ?_ ?_); rfl; rfl) | (refine qal ?_; (refine qac (qag rfl) rfl ?_ ?_ ?_); rfl; rfl) | (refine l_add ?_; (refine qac (OpW.succ rfl rfl (by omega)) rfl ?_ ?_ ?_); rfl; rfl) | (refine l_eql ?_; (refine qac (qaP rfl rfl (by omega)) rfl ?_ ?_ ?_); rfl; rfl) | (refine qay ?_; first | ((first | refine qaa 0 ?_ rfl rfl rfl rfl rfl rfl rfl ?_ | refine qaa 1 ?_ rfl rfl rfl rfl rfl rfl rfl ?_ | refine qaa 2 ?_ rfl rfl rfl rfl rfl rfl rfl ?_); rfl; simp only [List.set_cons_zero, List.set_cons_succ]) | ((first | refine qab 0 ?_ rfl rfl rfl rfl rfl rfl rfl ?_ | refine qab 1 ?_ rfl rfl rfl rfl rfl rfl rfl ?_ | refine qab 2 ?_ rfl rfl rfl rfl rfl rfl rfl ?_); rfl; simp only [over, List.set_cons_zero, List.set_cons_succ])) | refine qar ?_)
    refine SQ.roundi (i + 1, { s with stop := v }) ⟨by simp only; omega, { hs with stop := size_val hv }⟩ (by simp only; omega) ?_ (fun _ hl => hl.drop1)
    (repeat (first | exact subF_nil _ | (refine subF_cons rfl ?_) | (refine subF_consv rfl (by rfl) ?_)))
  · repeat (first | refine qan ?_ | refine qaj ?_ | refine qaf ?_ | refine qad ?_ | refine qaq rfl ?_ | (refine l_build ?_; (refine qac ((OpW.build (vals := [(0, .int .i64 3)]) (cells := Val.cells ⟨3, 0⟩) rfl (by kernel_rfl))) rfl ?_ ?_ ?_); rfl; rfl) | (refine qao ?_; (refine qac (qai rfl) rfl ?_ ?_ ?_); rfl; rfl) | (refine qay ?_; first | ((first | refine qaa 0 ?_ rfl rfl rfl rfl rfl rfl rfl ?_ | refine qaa 1 ?_ rfl rfl rfl rfl rfl rfl rfl ?_ | refine qaa 2 ?_ rfl rfl rfl rfl rfl rfl rfl ?_); rfl; simp only [List.set_cons_zero, List.set_cons_succ]) | ((first | refine qab 0 ?_ rfl rfl rfl rfl rfl rfl rfl ?_ | refine qab 1 ?_ rfl rfl rfl rfl rfl rfl rfl ?_ | refine qab 2 ?_ rfl rfl rfl rfl rfl rfl rfl ?_); rfl; simp only [over, List.set_cons_zero, List.set_cons_succ])))
    refine qat ?_
    refine qaB (ξ := Int) (v := fun x : Int => .int .i64 x) rfl rfl rfl (fun x => 0 ≤ x ∧ x < 6) (fun w hl => below_d B gc w hl.inv 6 (by decide) (by decide)) (fun y hy => ?_)
    by_cases h0 : y = 0
    · repeat (first | refine qan ?_ | refine qaj ?_ | refine qaf ?_ | refine qad ?_ | refine SX.block ?_ | refine qaq rfl ?_ | (refine qau ?_; (refine qac (qam 0 rfl rfl rfl) rfl ?_ ?_ ?_); rfl; rfl) | (refine qak ?_; (refine qac (qae rfl) rfl ?_ ?_ ?_); rfl; rfl) | (refine qao ?_; (refine qac (qai rfl) rfl ?_ ?_ ?_); rfl; rfl) | (refine qal ?_; (refine qac (qag rfl) rfl ?_ ?_ ?_); rfl; rfl) | (refine l_add ?_; (refine qac (OpW.succ rfl rfl (by omega)) rfl ?_ ?_ ?_); rfl; rfl) | (refine l_eql ?_; (refine qac (qaQ rfl rfl (by omega)) rfl ?_ ?_ ?_); rfl; rfl) | (refine qay ?_; first | ((first | refine qaa 0 ?_ rfl rfl rfl rfl rfl rfl rfl ?_ | refine qaa 1 ?_ rfl rfl rfl rfl rfl rfl rfl ?_ | refine qaa 2 ?_ rfl rfl rfl rfl rfl rfl rfl ?_); rfl; simp only [List.set_cons_zero, List.set_cons_succ]) | ((first | refine qab 0 ?_ rfl rfl rfl rfl rfl rfl rfl ?_ | refine qab 1 ?_ rfl rfl rfl rfl rfl rfl rfl ?_ | refine qab 2 ?_ rfl rfl rfl rfl rfl rfl rfl ?_); rfl; simp only [over, List.set_cons_zero, List.set_cons_succ])) | refine qar ?_)
      refine SQ.roundi (i + 1, { s with left := ⟨3, 0⟩ }) ⟨by simp only; omega, { hs with left := auto_ok }⟩ (by simp only; omega) ?_ (fun _ hl => hl.drop1)
      (repeat (first | exact subF_nil _ | (refine subF_cons rfl ?_) | (refine subF_consv rfl (by rfl) ?_)))
    by_cases h1 : y = 1
    · repeat (first | refine qan ?_ | refine qaj ?_ | refine qaf ?_ | refine qad ?_ | refine SX.block ?_ | refine qaq rfl ?_ | refine qas rfl ?_ | (refine qau ?_; (refine qac (qam 0 rfl rfl rfl) rfl ?_ ?_ ?_); rfl; rfl) | (refine qak ?_; (refine qac (qae rfl) rfl ?_ ?_ ?_); rfl; rfl) | (refine qao ?_; (refine qac (qai rfl) rfl ?_ ?_ ?_); rfl; rfl) | (refine qal ?_; (refine qac (qag rfl) rfl ?_ ?_ ?_); rfl; rfl) | (refine l_add ?_; (refine qac (OpW.succ rfl rfl (by omega)) rfl ?_ ?_ ?_); rfl; rfl) | (refine l_eql ?_; (first | refine qac (qaQ rfl rfl (by omega)) rfl ?_ ?_ ?_ | refine qac (qaP rfl rfl (by omega)) rfl ?_ ?_ ?_); rfl; rfl) | (refine qay ?_; first | ((first | refine qaa 0 ?_ rfl rfl rfl rfl rfl rfl rfl ?_ | refine qaa 1 ?_ rfl rfl rfl rfl rfl rfl rfl ?_ | refine qaa 2 ?_ rfl rfl rfl rfl rfl rfl rfl ?_); rfl; simp only [List.set_cons_zero, List.set_cons_succ]) | ((first | refine qab 0 ?_ rfl rfl rfl rfl rfl rfl rfl ?_ | refine qab 1 ?_ rfl rfl rfl rfl rfl rfl rfl ?_ | refine qab 2 ?_ rfl rfl rfl rfl rfl rfl rfl ?_); rfl; simp only [over, List.set_cons_zero, List.set_cons_succ])) | refine qar ?_)
      refine SQ.roundi (i + 1, { s with top := ⟨3, 0⟩ }) ⟨by simp only; omega, { hs with top := auto_ok }⟩ (by simp only; omega) ?_ (fun _ hl => hl.drop1)
      (repeat (first | exact subF_nil _ | (refine subF_cons rfl ?_) | (refine subF_consv rfl (by rfl) ?_)))
    by_cases h2 : y = 2
    · repeat (first | refine qan ?_ | refine qaj ?_ | refine qaf ?_ | refine qad ?_ | refine SX.block ?_ | refine qaq rfl ?_ | refine qas rfl ?_ | (refine qau ?_; (refine qac (qam 0 rfl rfl rfl) rfl ?_ ?_ ?_); rfl; rfl) | (refine qak ?_; (refine qac (qae rfl) rfl ?_ ?_ ?_); rfl; rfl) | (refine qao ?_; (refine qac (qai rfl) rfl ?_ ?_ ?_); rfl; rfl) | (refine qal ?_; (refine qac (qag rfl) rfl ?_ ?_ ?_); rfl; rfl) | (refine l_add ?_; (refine qac (OpW.succ rfl rfl (by omega)) rfl ?_ ?_ ?_); rfl; rfl) | (refine l_eql ?_; (first | refine qac (qaQ rfl rfl (by omega)) rfl ?_ ?_ ?_ | refine qac (qaP rfl rfl (by omega)) rfl ?_ ?_ ?_); rfl; rfl) | (refine qay ?_; first | ((first | refine qaa 0 ?_ rfl rfl rfl rfl rfl rfl rfl ?_ | refine qaa 1 ?_ rfl rfl rfl rfl rfl rfl rfl ?_ | refine qaa 2 ?_ rfl rfl rfl rfl rfl rfl rfl ?_); rfl; simp only [List.set_cons_zero, List.set_cons_succ]) | ((first | refine qab 0 ?_ rfl rfl rfl rfl rfl rfl rfl ?_ | refine qab 1 ?_ rfl rfl rfl rfl rfl rfl rfl ?_ | refine qab 2 ?_ rfl rfl rfl rfl rfl rfl rfl ?_); rfl; simp only [over, List.set_cons_zero, List.set_cons_succ])) | refine qar ?_)
      refine SQ.roundi (i + 1, { s with right := ⟨3, 0⟩ }) ⟨by simp only; omega, { hs with right := auto_ok }⟩ (by simp only; omega) ?_ (fun _ hl => hl.drop1)
      (repeat (first | exact subF_nil _ | (refine subF_cons rfl ?_) | (refine subF_consv rfl (by rfl) ?_)))
    by_cases h3 : y = 3
    · repeat (first | refine qan ?_ | refine qaj ?_ | refine qaf ?_ | refine qad ?_ | refine SX.block ?_ | refine qaq rfl ?_ | refine qas rfl ?_ | (refine qau ?_; (refine qac (qam 0 rfl rfl rfl) rfl ?_ ?_ ?_); rfl; rfl) | (refine qak ?_; (refine qac (qae rfl) rfl ?_ ?_ ?_); rfl; rfl) | (refine qao ?_; (refine qac (qai rfl) rfl ?_ ?_ ?_); rfl; rfl) | (refine qal ?_; (refine qac (qag rfl) rfl ?_ ?_ ?_); rfl; rfl) | (refine l_add ?_; (refine qac (OpW.succ rfl rfl (by omega)) rfl ?_ ?_ ?_); rfl; rfl) | (refine l_eql ?_; (first | refine qac (qaQ rfl rfl (by omega)) rfl ?_ ?_ ?_ | refine qac (qaP rfl rfl (by omega)) rfl ?_ ?_ ?_); rfl; rfl) | (refine qay ?_; first | ((first | refine qaa 0 ?_ rfl rfl rfl rfl rfl rfl rfl ?_ | refine qaa 1 ?_ rfl rfl rfl rfl rfl rfl rfl ?_ | refine qaa 2 ?_ rfl rfl rfl rfl rfl rfl rfl ?_); rfl; simp only [List.set_cons_zero, List.set_cons_succ]) | ((first | refine qab 0 ?_ rfl rfl rfl rfl rfl rfl rfl ?_ | refine qab 1 ?_ rfl rfl rfl rfl rfl rfl rfl ?_ | refine qab 2 ?_ rfl rfl rfl rfl rfl rfl rfl ?_); rfl; simp only [over, List.set_cons_zero, List.set_cons_succ])) | refine qar ?_)
      refine SQ.roundi (i + 1, { s with bottom := ⟨3, 0⟩ }) ⟨by simp only; omega, { hs with bottom := auto_ok }⟩ (by simp only; omega) ?_ (fun _ hl => hl.drop1)
      (repeat (first | exact subF_nil _ | (refine subF_cons rfl ?_) | (refine subF_consv rfl (by rfl) ?_)))
    by_cases h4 : y = 4
    · repeat (first | refine qan ?_ | refine qaj ?_ | refine qaf ?_ | refine qad ?_ | refine SX.block ?_ | refine qaq rfl ?_ | refine qas rfl ?_ | (refine qau ?_; (refine qac (qam 0 rfl rfl rfl) rfl ?_ ?_ ?_); rfl; rfl) | (refine qak ?_; (refine qac (qae rfl) rfl ?_ ?_ ?_); rfl; rfl) | (refine qao ?_; (refine qac (qai rfl) rfl ?_ ?_ ?_); rfl; rfl) | (refine qal ?_; (refine qac (qag rfl) rfl ?_ ?_ ?_); rfl; rfl) | (refine l_add ?_; (refine qac (OpW.succ rfl rfl (by omega)) rfl ?_ ?_ ?_); rfl; rfl) | (refine l_eql ?_; (first | refine qac (qaQ rfl rfl (by omega)) rfl ?_ ?_ ?_ | refine qac (qaP rfl rfl (by omega)) rfl ?_ ?_ ?_); rfl; rfl) | (refine qay ?_; first | ((first | refine qaa 0 ?_ rfl rfl rfl rfl rfl rfl rfl ?_ | refine qaa 1 ?_ rfl rfl rfl rfl rfl rfl rfl ?_ | refine qaa 2 ?_ rfl rfl rfl rfl rfl rfl rfl ?_); rfl; simp only [List.set_cons_zero, List.set_cons_succ]) | ((first | refine qab 0 ?_ rfl rfl rfl rfl rfl rfl rfl ?_ | refine qab 1 ?_ rfl rfl rfl rfl rfl rfl rfl ?_ | refine qab 2 ?_ rfl rfl rfl rfl rfl rfl rfl ?_); rfl; simp only [over, List.set_cons_zero, List.set_cons_succ])) | refine qar ?_)
      refine SQ.roundi (i + 1, { s with start := ⟨3, 0⟩ }) ⟨by simp only; omega, { hs with start := auto_ok }⟩ (by simp only; omega) ?_ (fun _ hl => hl.drop1)
      (repeat (first | exact subF_nil _ | (refine subF_cons rfl ?_) | (refine subF_consv rfl (by rfl) ?_)))
    repeat (first | refine qan ?_ | refine qaj ?_ | refine qaf ?_ | refine qad ?_ | refine SX.block ?_ | refine qas rfl ?_ | (refine qau ?_; (refine qac (qam 0 rfl rfl rfl) rfl ?_ ?_ ?_); rfl; rfl) | (refine qak ?_; (refine qac (qae rfl) rfl ?_ ?_ ?_); rfl; rfl) | (refine qao ?_; (refine qac (qai rfl) rfl ?_ ?_ ?_); rfl; rfl) | (refine qal ?_; (refine qac (qag rfl) rfl ?_ ?_ ?_); rfl; rfl) | (refine l_add ?_; (refine qac (OpW.succ rfl rfl (by omega)) rfl ?_ ?_ ?_); rfl; rfl) | (refine l_eql ?_; (refine qac (qaP rfl rfl (by omega)) rfl ?_ ?_ ?_); rfl; rfl) | (refine qay ?_; first | ((first | refine qaa 0 ?_ rfl rfl rfl rfl rfl rfl rfl ?_ | refine qaa 1 ?_ rfl rfl rfl rfl rfl rfl rfl ?_ | refine qaa 2 ?_ rfl rfl rfl rfl rfl rfl rfl ?_); rfl; simp only [List.set_cons_zero, List.set_cons_succ]) | ((first | refine qab 0 ?_ rfl rfl rfl rfl rfl rfl rfl ?_ | refine qab 1 ?_ rfl rfl rfl rfl rfl rfl rfl ?_ | refine qab 2 ?_ rfl rfl rfl rfl rfl rfl rfl ?_); rfl; simp only [over, List.set_cons_zero, List.set_cons_succ])) | refine qar ?_)
    refine SQ.roundi (i + 1, { s with stop := ⟨3, 0⟩ }) ⟨by simp only; omega, { hs with stop := auto_ok }⟩ (by simp only; omega) ?_ (fun _ hl => hl.drop1)
    (repeat (first | exact subF_nil _ | (refine subF_cons rfl ?_) | (refine subF_consv rfl (by rfl) ?_)))

set_option maxRecDepth 100000 in
set_option maxHeartbeats 8000000 in
theorem l05Edges_r (B gc : Nat) (w : World) (hc : Cur B 141 w gc) : Calls Try.prog 114 #[.pointer (some ⟨gc, 0, none⟩)] w (DrewV 141 B gc w (fun v : Edges => .agg v.cells.toArray) (fun v => edgesOk v = true)) := by
  refine calls_draw (as_ := [.pointer (some ⟨gc, 0, none⟩)]) hc Try.func114 rfl rfl (fun a h1 h2 h3 => ((Fr.nil h1 h2).arg (h3 0 _ rfl))) ?_
  repeat (first | refine qan ?_ | refine qaj ?_ | refine qaf ?_ | refine qad ?_ | (refine l_build ?_; (refine qac ((OpW.build (vals := []) (cells := Edges.cells default) rfl (by kernel_rfl))) rfl ?_ ?_ ?_); rfl; rfl) | (refine qao ?_; (refine qac (qai rfl) rfl ?_ ?_ ?_); rfl; rfl) | (refine qaR ?_; refine SXl.alloc ?_ ?_ (fun g => ?_); rfl; rfl) | (refine qay ?_; first | ((first | refine qah 0 ?_ rfl rfl rfl rfl rfl rfl ?_ | refine qah 1 ?_ rfl rfl rfl rfl rfl rfl ?_ | refine qah 2 ?_ rfl rfl rfl rfl rfl rfl ?_); rfl; simp only [List.set_cons_zero, List.set_cons_succ]) | ((first | refine qaa 0 ?_ rfl rfl rfl rfl rfl rfl rfl ?_ | refine qaa 1 ?_ rfl rfl rfl rfl rfl rfl rfl ?_ | refine qaa 2 ?_ rfl rfl rfl rfl rfl rfl rfl ?_); rfl; simp only [List.set_cons_zero, List.set_cons_succ]) | ((first | refine qab 0 ?_ rfl rfl rfl rfl rfl rfl rfl ?_ | refine qab 1 ?_ rfl rfl rfl rfl rfl rfl rfl ?_ | refine qab 2 ?_ rfl rfl rfl rfl rfl rfl rfl ?_); rfl; simp only [over, List.set_cons_zero, List.set_cons_succ])))
  refine qat ?_
  refine qaB (ξ := Bool) (v := fun b => .bool b) rfl rfl rfl (fun _ => True) (fun w hl => once_d B gc w hl.inv 2 (by decide)) (fun b _ => ?_)
  cases b
  rotate_left
  · repeat (first | refine qan ?_ | refine qaj ?_ | refine qaf ?_ | refine qad ?_ | refine qaq rfl ?_ | (refine qau ?_; (refine qac (qam 0 rfl rfl rfl) rfl ?_ ?_ ?_); rfl; rfl) | (refine qay ?_; first | ((first | refine qah 0 ?_ rfl rfl rfl rfl rfl rfl ?_ | refine qah 1 ?_ rfl rfl rfl rfl rfl rfl ?_ | refine qah 2 ?_ rfl rfl rfl rfl rfl rfl ?_); rfl; simp only [List.set_cons_zero, List.set_cons_succ]) | ((first | refine qaa 0 ?_ rfl rfl rfl rfl rfl rfl rfl ?_ | refine qaa 1 ?_ rfl rfl rfl rfl rfl rfl rfl ?_ | refine qaa 2 ?_ rfl rfl rfl rfl rfl rfl rfl ?_); rfl; simp only [List.set_cons_zero, List.set_cons_succ]) | ((first | refine qab 0 ?_ rfl rfl rfl rfl rfl rfl rfl ?_ | refine qab 1 ?_ rfl rfl rfl rfl rfl rfl rfl ?_ | refine qab 2 ?_ rfl rfl rfl rfl rfl rfl rfl ?_); rfl; simp only [over, List.set_cons_zero, List.set_cons_succ])) | refine qaA ?_ | refine qax ?_)
    refine qaK 1 rfl rfl rfl rfl (fun w' hl => ⟨default, rfl, by decide, hl.mod, hl.inv⟩)
  repeat (first | refine qan ?_ | refine qaj ?_ | refine qaf ?_ | refine qad ?_ | refine qaC ?_ | refine qas rfl ?_ | (refine qao ?_; (refine qac (qai rfl) rfl ?_ ?_ ?_); rfl; rfl))
  refine qaN ?_
  refine SXl.lit (cells := [.int .i64 0, .int .i64 64, .int .i64 10, .int .i64 33]) (z := .int .i64 0) ?_ ?_ rfl (by decide) (by kernel_rfl) rfl (fun gl => ?_)
  rfl; rfl
  skip
  refine qat ?_
  refine qaB (ξ := Int) (v := fun x => .int .i64 x) rfl rfl rfl (fun x => x ∈ ([0, 64, 10, 33] : List Int)) (fun w hl => pick_d (l := [0, 64, 10, 33]) hl (by decide) (by decide)) (fun x0 hx0 => ?_)
  refine SXl.drop1 ?_
  have hy0 : 0 ≤ x0 ∧ x0 ≤ 64 := by simp at hx0; omega
  repeat (first | refine qan ?_ | refine qaj ?_ | refine qaf ?_ | refine qad ?_ | (refine qak ?_; (refine qac (qae rfl) rfl ?_ ?_ ?_); rfl; rfl) | (refine qao ?_; (refine qac (qai rfl) rfl ?_ ?_ ?_); rfl; rfl) | (refine qay ?_; first | ((first | refine qah 0 ?_ rfl rfl rfl rfl rfl rfl ?_ | refine qah 1 ?_ rfl rfl rfl rfl rfl rfl ?_ | refine qah 2 ?_ rfl rfl rfl rfl rfl rfl ?_); rfl; simp only [List.set_cons_zero, List.set_cons_succ]) | ((first | refine qaa 0 ?_ rfl rfl rfl rfl rfl rfl rfl ?_ | refine qaa 1 ?_ rfl rfl rfl rfl rfl rfl rfl ?_ | refine qaa 2 ?_ rfl rfl rfl rfl rfl rfl rfl ?_); rfl; simp only [List.set_cons_zero, List.set_cons_succ]) | ((first | refine qab 0 ?_ rfl rfl rfl rfl rfl rfl rfl ?_ | refine qab 1 ?_ rfl rfl rfl rfl rfl rfl rfl ?_ | refine qab 2 ?_ rfl rfl rfl rfl rfl rfl rfl ?_); rfl; simp only [over, List.set_cons_zero, List.set_cons_succ])))
  refine qaN ?_
  refine SXl.lit (cells := [.int .i64 0, .int .i64 64, .int .i64 10, .int .i64 33]) (z := .int .i64 0) ?_ ?_ rfl (by decide) (by kernel_rfl) rfl (fun gl => ?_)
  rfl; rfl
  skip
  refine qat ?_
  refine qaB (ξ := Int) (v := fun x => .int .i64 x) rfl rfl rfl (fun x => x ∈ ([0, 64, 10, 33] : List Int)) (fun w hl => pick_d (l := [0, 64, 10, 33]) hl (by decide) (by decide)) (fun x1 hx1 => ?_)
  refine SXl.drop1 ?_
  have hy1 : 0 ≤ x1 ∧ x1 ≤ 64 := by simp at hx1; omega
  repeat (first | refine qan ?_ | refine qaj ?_ | refine qaf ?_ | refine qad ?_ | (refine qak ?_; (refine qac (qae rfl) rfl ?_ ?_ ?_); rfl; rfl) | (refine qao ?_; (refine qac (qai rfl) rfl ?_ ?_ ?_); rfl; rfl) | (refine qay ?_; first | ((first | refine qah 0 ?_ rfl rfl rfl rfl rfl rfl ?_ | refine qah 1 ?_ rfl rfl rfl rfl rfl rfl ?_ | refine qah 2 ?_ rfl rfl rfl rfl rfl rfl ?_); rfl; simp only [List.set_cons_zero, List.set_cons_succ]) | ((first | refine qaa 0 ?_ rfl rfl rfl rfl rfl rfl rfl ?_ | refine qaa 1 ?_ rfl rfl rfl rfl rfl rfl rfl ?_ | refine qaa 2 ?_ rfl rfl rfl rfl rfl rfl rfl ?_); rfl; simp only [List.set_cons_zero, List.set_cons_succ]) | ((first | refine qab 0 ?_ rfl rfl rfl rfl rfl rfl rfl ?_ | refine qab 1 ?_ rfl rfl rfl rfl rfl rfl rfl ?_ | refine qab 2 ?_ rfl rfl rfl rfl rfl rfl rfl ?_); rfl; simp only [over, List.set_cons_zero, List.set_cons_succ])))
  refine qaN ?_
  refine SXl.lit (cells := [.int .i64 0, .int .i64 64, .int .i64 10]) (z := .int .i64 0) ?_ ?_ rfl (by decide) (by kernel_rfl) rfl (fun gl => ?_)
  rfl; rfl
  skip
  refine qat ?_
  refine qaB (ξ := Int) (v := fun x => .int .i64 x) rfl rfl rfl (fun x => x ∈ ([0, 64, 10] : List Int)) (fun w hl => pick_d (l := [0, 64, 10]) hl (by decide) (by decide)) (fun x2 hx2 => ?_)
  refine SXl.drop1 ?_
  have hy2 : 0 ≤ x2 ∧ x2 ≤ 64 := by simp at hx2; omega
  repeat (first | refine qan ?_ | refine qaj ?_ | refine qaf ?_ | refine qad ?_ | (refine qak ?_; (refine qac (qae rfl) rfl ?_ ?_ ?_); rfl; rfl) | (refine qao ?_; (refine qac (qai rfl) rfl ?_ ?_ ?_); rfl; rfl) | (refine qay ?_; first | ((first | refine qah 0 ?_ rfl rfl rfl rfl rfl rfl ?_ | refine qah 1 ?_ rfl rfl rfl rfl rfl rfl ?_ | refine qah 2 ?_ rfl rfl rfl rfl rfl rfl ?_); rfl; simp only [List.set_cons_zero, List.set_cons_succ]) | ((first | refine qaa 0 ?_ rfl rfl rfl rfl rfl rfl rfl ?_ | refine qaa 1 ?_ rfl rfl rfl rfl rfl rfl rfl ?_ | refine qaa 2 ?_ rfl rfl rfl rfl rfl rfl rfl ?_); rfl; simp only [List.set_cons_zero, List.set_cons_succ]) | ((first | refine qab 0 ?_ rfl rfl rfl rfl rfl rfl rfl ?_ | refine qab 1 ?_ rfl rfl rfl rfl rfl rfl rfl ?_ | refine qab 2 ?_ rfl rfl rfl rfl rfl rfl rfl ?_); rfl; simp only [over, List.set_cons_zero, List.set_cons_succ])))
  refine qaN ?_
  refine SXl.lit (cells := [.int .i64 0, .int .i64 64, .int .i64 10]) (z := .int .i64 0) ?_ ?_ rfl (by decide) (by kernel_rfl) rfl (fun gl => ?_)
  rfl; rfl
  skip
  refine qat ?_
  refine qaB (ξ := Int) (v := fun x => .int .i64 x) rfl rfl rfl (fun x => x ∈ ([0, 64, 10] : List Int)) (fun w hl => pick_d (l := [0, 64, 10]) hl (by decide) (by decide)) (fun x3 hx3 => ?_)
  refine SXl.drop1 ?_
  have hy3 : 0 ≤ x3 ∧ x3 ≤ 64 := by simp at hx3; omega
  repeat (first | refine qan ?_ | refine qaj ?_ | refine qaf ?_ | refine qad ?_ | (refine qau ?_; (refine qac (qam 0 rfl rfl rfl) rfl ?_ ?_ ?_); rfl; rfl) | (refine qak ?_; (refine qac (qae rfl) rfl ?_ ?_ ?_); rfl; rfl) | (refine qay ?_; first | ((first | refine qah 0 ?_ rfl rfl rfl rfl rfl rfl ?_ | refine qah 1 ?_ rfl rfl rfl rfl rfl rfl ?_ | refine qah 2 ?_ rfl rfl rfl rfl rfl rfl ?_); rfl; simp only [List.set_cons_zero, List.set_cons_succ]) | ((first | refine qaa 0 ?_ rfl rfl rfl rfl rfl rfl rfl ?_ | refine qaa 1 ?_ rfl rfl rfl rfl rfl rfl rfl ?_ | refine qaa 2 ?_ rfl rfl rfl rfl rfl rfl rfl ?_); rfl; simp only [List.set_cons_zero, List.set_cons_succ]) | ((first | refine qab 0 ?_ rfl rfl rfl rfl rfl rfl rfl ?_ | refine qab 1 ?_ rfl rfl rfl rfl rfl rfl rfl ?_ | refine qab 2 ?_ rfl rfl rfl rfl rfl rfl rfl ?_); rfl; simp only [over, List.set_cons_zero, List.set_cons_succ])) | refine qaA ?_)
  refine qaK 1 rfl rfl rfl rfl (fun w' hl => ⟨⟨x0, x1, x2, x3⟩, rfl, (by simp [edgesOk, inB]; omega), hl.mod, hl.inv⟩)

set_option maxRecDepth 100000 in
set_option maxHeartbeats 8000000 in
theorem l06Style_r (B gc : Nat) (w : World) (hc : Cur B 141 w gc) : Calls Try.prog 70 #[.pointer (some ⟨gc, 0, none⟩)] w (DrewV 141 B gc w (fun v : Style => .agg v.cells.toArray) (fun v => styleOk v = true)) := by
  refine calls_draw (as_ := [.pointer (some ⟨gc, 0, none⟩)]) hc Try.func70 rfl rfl (fun a h1 h2 h3 => ((Fr.nil h1 h2).arg (h3 0 _ rfl))) ?_
  repeat (first | refine qan ?_ | refine qaj ?_ | refine qaf ?_ | refine qad ?_ | (refine qat ?_; (refine qac (qap rfl (fun w hl => sstyleNew_any _)) rfl ?_ ?_ ?_); rfl; rfl) | (refine qao ?_; (refine qac (qai rfl) rfl ?_ ?_ ?_); rfl; rfl) | (refine qaR ?_; refine SXl.alloc ?_ ?_ (fun g => ?_); rfl; rfl) | (refine qay ?_; first | ((first | refine qah 0 ?_ rfl rfl rfl rfl rfl rfl ?_ | refine qah 1 ?_ rfl rfl rfl rfl rfl rfl ?_ | refine qah 2 ?_ rfl rfl rfl rfl rfl rfl ?_); rfl; simp only [List.set_cons_zero, List.set_cons_succ]) | ((first | refine qaa 0 ?_ rfl rfl rfl rfl rfl rfl rfl ?_ | refine qaa 1 ?_ rfl rfl rfl rfl rfl rfl rfl ?_ | refine qaa 2 ?_ rfl rfl rfl rfl rfl rfl rfl ?_); rfl; simp only [List.set_cons_zero, List.set_cons_succ]) | ((first | refine qab 0 ?_ rfl rfl rfl rfl rfl rfl rfl ?_ | refine qab 1 ?_ rfl rfl rfl rfl rfl rfl rfl ?_ | refine qab 2 ?_ rfl rfl rfl rfl rfl rfl rfl ?_); rfl; simp only [over, List.set_cons_zero, List.set_cons_succ])))
  rename_i g2
  revert g; intro g3
  skip
  refine qat ?_
  refine qaB (ξ := Int) (v := fun x : Int => .int .i64 x) rfl rfl rfl (fun x => 0 ≤ x ∧ x < 4) (fun w hl => below_d B gc w hl.inv 4 (by decide) (by decide)) (fun x1 h1 => ?_)
  repeat (first | refine qan ?_ | refine qaj ?_ | refine qaf ?_ | refine qad ?_ | (refine qak ?_; (refine qac (qae rfl) rfl ?_ ?_ ?_); rfl; rfl) | (refine qao ?_; (refine qac (qai rfl) rfl ?_ ?_ ?_); rfl; rfl) | (refine l_add ?_; (refine qac (OpW.addi rfl rfl (by omega) (by omega)) rfl ?_ ?_ ?_); rfl; rfl) | (refine qay ?_; first | ((first | refine qah 0 ?_ rfl rfl rfl rfl rfl rfl ?_ | refine qah 1 ?_ rfl rfl rfl rfl rfl rfl ?_ | refine qah 2 ?_ rfl rfl rfl rfl rfl rfl ?_); rfl; simp only [List.set_cons_zero, List.set_cons_succ]) | ((first | refine qaa 0 ?_ rfl rfl rfl rfl rfl rfl rfl ?_ | refine qaa 1 ?_ rfl rfl rfl rfl rfl rfl rfl ?_ | refine qaa 2 ?_ rfl rfl rfl rfl rfl rfl rfl ?_); rfl; simp only [List.set_cons_zero, List.set_cons_succ]) | ((first | refine qab 0 ?_ rfl rfl rfl rfl rfl rfl rfl ?_ | refine qab 1 ?_ rfl rfl rfl rfl rfl rfl rfl ?_ | refine qab 2 ?_ rfl rfl rfl rfl rfl rfl rfl ?_); rfl; simp only [over, List.set_cons_zero, List.set_cons_succ])))
  refine qat ?_
  refine qaB (ξ := Bool) (v := fun b => .bool b) rfl rfl rfl (fun _ => True) (fun w hl => once_d B gc w hl.inv 3 (by decide)) (fun b1 _ => ?_)
  repeat (first | refine qaj ?_ | refine qad ?_)
  refine SX.join (ι := Style) (fun s => StyleR s) (fun s => [⟨g3, s.cells, 66⟩, ⟨g2, (default : Style).cells, 66⟩]) (fun _ => []) (fun _ => []) (fun _ => [(0, .pointer (some ⟨gc, 0, none⟩)), (2, .pointer (some ⟨g2, 0, none⟩)), (3, .pointer (some ⟨g3, 0, none⟩))]) ?_ ?_
  · cases b1
    · repeat (first | refine qaC ?_ | refine qas rfl ?_)
      refine SQ.join ({ newStyle with dir := 1 + x1 }) ({ newStyle_r with dir := inB_true (n := 1 + x1) (by omega) (by omega) }) ?_ (fun _ hl => hl)
      (repeat (first | exact subF_nil _ | (refine subF_cons rfl ?_) | (refine subF_consv rfl (by rfl) ?_)))
    · repeat (first | refine qaf ?_ | refine qaq rfl ?_ | (refine qao ?_; (refine qac (qai rfl) rfl ?_ ?_ ?_); rfl; rfl))
      skip
      refine qat ?_
      refine qaB (ξ := Int) (v := fun x : Int => .int .i64 x) rfl rfl rfl (fun x => 0 ≤ x ∧ x < 3) (fun w hl => below_d B gc w hl.inv 3 (by decide) (by decide)) (fun x2 h2 => ?_)
      repeat (first | refine qaj ?_ | (refine qak ?_; (refine qac (qae rfl) rfl ?_ ?_ ?_); rfl; rfl) | (refine l_add ?_; (refine qac (OpW.addi rfl rfl (by omega) (by omega)) rfl ?_ ?_ ?_); rfl; rfl) | (refine qay ?_; first | ((first | refine qah 0 ?_ rfl rfl rfl rfl rfl rfl ?_ | refine qah 1 ?_ rfl rfl rfl rfl rfl rfl ?_ | refine qah 2 ?_ rfl rfl rfl rfl rfl rfl ?_); rfl; simp only [List.set_cons_zero, List.set_cons_succ]) | ((first | refine qaa 0 ?_ rfl rfl rfl rfl rfl rfl rfl ?_ | refine qaa 1 ?_ rfl rfl rfl rfl rfl rfl rfl ?_ | refine qaa 2 ?_ rfl rfl rfl rfl rfl rfl rfl ?_); rfl; simp only [List.set_cons_zero, List.set_cons_succ]) | ((first | refine qab 0 ?_ rfl rfl rfl rfl rfl rfl rfl ?_ | refine qab 1 ?_ rfl rfl rfl rfl rfl rfl rfl ?_ | refine qab 2 ?_ rfl rfl rfl rfl rfl rfl rfl ?_); rfl; simp only [over, List.set_cons_zero, List.set_cons_succ])))
      refine SQ.join ({ newStyle with dir := 1 + x1, wrap := 1 + x2 }) ({ newStyle_r with dir := inB_true (n := 1 + x1) (by omega) (by omega), wrap := inB_true (n := 1 + x2) (by omega) (by omega) }) ?_ (fun _ hl => hl)
      (repeat (first | exact subF_nil _ | (refine subF_cons rfl ?_) | (refine subF_consv rfl (by rfl) ?_)))
  intro s1 hs1
  repeat (first | refine qan ?_ | refine qaf ?_ | (refine qao ?_; (refine qac (qai rfl) rfl ?_ ?_ ?_); rfl; rfl))
  refine qat ?_
  refine qaB (ξ := Int) (v := fun x : Int => .int .i64 x) rfl rfl rfl (fun x => 0 ≤ x ∧ x < 6) (fun w hl => below_d B gc w hl.inv 6 (by decide) (by decide)) (fun x3 h3 => ?_)
  repeat (first | refine qan ?_ | refine qaj ?_ | refine qaf ?_ | refine qad ?_ | (refine qak ?_; (refine qac (qae rfl) rfl ?_ ?_ ?_); rfl; rfl) | (refine qao ?_; (refine qac (qai rfl) rfl ?_ ?_ ?_); rfl; rfl) | (refine l_add ?_; (refine qac (OpW.addi rfl rfl (by omega) (by omega)) rfl ?_ ?_ ?_); rfl; rfl) | (refine qay ?_; first | ((first | refine qah 0 ?_ rfl rfl rfl rfl rfl rfl ?_ | refine qah 1 ?_ rfl rfl rfl rfl rfl rfl ?_ | refine qah 2 ?_ rfl rfl rfl rfl rfl rfl ?_); rfl; simp only [List.set_cons_zero, List.set_cons_succ]) | ((first | refine qaa 0 ?_ rfl rfl rfl rfl rfl rfl rfl ?_ | refine qaa 1 ?_ rfl rfl rfl rfl rfl rfl rfl ?_ | refine qaa 2 ?_ rfl rfl rfl rfl rfl rfl rfl ?_); rfl; simp only [List.set_cons_zero, List.set_cons_succ]) | ((first | refine qab 0 ?_ rfl rfl rfl rfl rfl rfl rfl ?_ | refine qab 1 ?_ rfl rfl rfl rfl rfl rfl rfl ?_ | refine qab 2 ?_ rfl rfl rfl rfl rfl rfl rfl ?_); rfl; simp only [over, List.set_cons_zero, List.set_cons_succ])))
  refine qat ?_
  refine qaB (ξ := Int) (v := fun x : Int => .int .i64 x) rfl rfl rfl (fun x => 0 ≤ x ∧ x < 5) (fun w hl => below_d B gc w hl.inv 5 (by decide) (by decide)) (fun x4 h4 => ?_)
  repeat (first | refine qan ?_ | refine qaj ?_ | refine qaf ?_ | refine qad ?_ | (refine qak ?_; (refine qac (qae rfl) rfl ?_ ?_ ?_); rfl; rfl) | (refine qao ?_; (refine qac (qai rfl) rfl ?_ ?_ ?_); rfl; rfl) | (refine l_add ?_; (refine qac (OpW.addi rfl rfl (by omega) (by omega)) rfl ?_ ?_ ?_); rfl; rfl) | (refine qay ?_; first | ((first | refine qah 0 ?_ rfl rfl rfl rfl rfl rfl ?_ | refine qah 1 ?_ rfl rfl rfl rfl rfl rfl ?_ | refine qah 2 ?_ rfl rfl rfl rfl rfl rfl ?_); rfl; simp only [List.set_cons_zero, List.set_cons_succ]) | ((first | refine qaa 0 ?_ rfl rfl rfl rfl rfl rfl rfl ?_ | refine qaa 1 ?_ rfl rfl rfl rfl rfl rfl rfl ?_ | refine qaa 2 ?_ rfl rfl rfl rfl rfl rfl rfl ?_); rfl; simp only [List.set_cons_zero, List.set_cons_succ]) | ((first | refine qab 0 ?_ rfl rfl rfl rfl rfl rfl rfl ?_ | refine qab 1 ?_ rfl rfl rfl rfl rfl rfl rfl ?_ | refine qab 2 ?_ rfl rfl rfl rfl rfl rfl rfl ?_); rfl; simp only [over, List.set_cons_zero, List.set_cons_succ])))
  refine qat ?_
  refine qaB (ξ := Bool) (v := fun b => .bool b) rfl rfl rfl (fun _ => True) (fun w hl => once_d B gc w hl.inv 3 (by decide)) (fun b2 _ => ?_)
  repeat (first | refine qaj ?_ | refine qad ?_)
  refine SX.join (ι := Style) (fun s => StyleR s) (fun s => [⟨g3, s.cells, 66⟩, ⟨g2, (default : Style).cells, 66⟩]) (fun _ => []) (fun _ => []) (fun _ => [(0, .pointer (some ⟨gc, 0, none⟩)), (2, .pointer (some ⟨g2, 0, none⟩)), (3, .pointer (some ⟨g3, 0, none⟩))]) ?_ ?_
  · cases b2
    · repeat (first | refine qaC ?_ | refine qas rfl ?_)
      refine SQ.join ({ s1 with justify := 1 + x3, items := 1 + x4 }) ({ hs1 with justify := inB_true (n := 1 + x3) (by omega) (by omega), items := inB_true (n := 1 + x4) (by omega) (by omega) }) ?_ (fun _ hl => hl)
      (repeat (first | exact subF_nil _ | (refine subF_cons rfl ?_) | (refine subF_consv rfl (by rfl) ?_)))
    · repeat (first | refine qaf ?_ | refine qaq rfl ?_ | (refine qao ?_; (refine qac (qai rfl) rfl ?_ ?_ ?_); rfl; rfl))
      skip
      refine qat ?_
      refine qaB (ξ := Int) (v := fun x : Int => .int .i64 x) rfl rfl rfl (fun x => 0 ≤ x ∧ x < 6) (fun w hl => below_d B gc w hl.inv 6 (by decide) (by decide)) (fun x5 h5 => ?_)
      repeat (first | refine qaj ?_ | (refine qak ?_; (refine qac (qae rfl) rfl ?_ ?_ ?_); rfl; rfl) | (refine qay ?_; first | ((first | refine qah 0 ?_ rfl rfl rfl rfl rfl rfl ?_ | refine qah 1 ?_ rfl rfl rfl rfl rfl rfl ?_ | refine qah 2 ?_ rfl rfl rfl rfl rfl rfl ?_); rfl; simp only [List.set_cons_zero, List.set_cons_succ]) | ((first | refine qaa 0 ?_ rfl rfl rfl rfl rfl rfl rfl ?_ | refine qaa 1 ?_ rfl rfl rfl rfl rfl rfl rfl ?_ | refine qaa 2 ?_ rfl rfl rfl rfl rfl rfl rfl ?_); rfl; simp only [List.set_cons_zero, List.set_cons_succ]) | ((first | refine qab 0 ?_ rfl rfl rfl rfl rfl rfl rfl ?_ | refine qab 1 ?_ rfl rfl rfl rfl rfl rfl rfl ?_ | refine qab 2 ?_ rfl rfl rfl rfl rfl rfl rfl ?_); rfl; simp only [over, List.set_cons_zero, List.set_cons_succ])))
      refine SQ.join ({ s1 with justify := 1 + x3, items := 1 + x4, self := x5 }) ({ hs1 with justify := inB_true (n := 1 + x3) (by omega) (by omega), items := inB_true (n := 1 + x4) (by omega) (by omega), self := inB_true (n := x5) (by omega) (by omega) }) ?_ (fun _ hl => hl)
      (repeat (first | exact subF_nil _ | (refine subF_cons rfl ?_) | (refine subF_consv rfl (by rfl) ?_)))
  intro s2 hs2
  repeat (first | refine qan ?_ | refine qaf ?_ | (refine qao ?_; (refine qac (qai rfl) rfl ?_ ?_ ?_); rfl; rfl))
  refine qat ?_
  refine qaB (ξ := Int) (v := fun x : Int => .int .i64 x) rfl rfl rfl (fun x => 0 ≤ x ∧ x < 6) (fun w hl => below_d B gc w hl.inv 6 (by decide) (by decide)) (fun x6 h6 => ?_)
  repeat (first | refine qan ?_ | refine qaj ?_ | refine qaf ?_ | refine qad ?_ | (refine qak ?_; (refine qac (qae rfl) rfl ?_ ?_ ?_); rfl; rfl) | (refine qao ?_; (refine qac (qai rfl) rfl ?_ ?_ ?_); rfl; rfl) | (refine l_add ?_; (refine qac (OpW.addi rfl rfl (by omega) (by omega)) rfl ?_ ?_ ?_); rfl; rfl) | (refine qay ?_; first | ((first | refine qah 0 ?_ rfl rfl rfl rfl rfl rfl ?_ | refine qah 1 ?_ rfl rfl rfl rfl rfl rfl ?_ | refine qah 2 ?_ rfl rfl rfl rfl rfl rfl ?_); rfl; simp only [List.set_cons_zero, List.set_cons_succ]) | ((first | refine qaa 0 ?_ rfl rfl rfl rfl rfl rfl rfl ?_ | refine qaa 1 ?_ rfl rfl rfl rfl rfl rfl rfl ?_ | refine qaa 2 ?_ rfl rfl rfl rfl rfl rfl rfl ?_); rfl; simp only [List.set_cons_zero, List.set_cons_succ]) | ((first | refine qab 0 ?_ rfl rfl rfl rfl rfl rfl rfl ?_ | refine qab 1 ?_ rfl rfl rfl rfl rfl rfl rfl ?_ | refine qab 2 ?_ rfl rfl rfl rfl rfl rfl rfl ?_); rfl; simp only [over, List.set_cons_zero, List.set_cons_succ])))
  refine qat ?_
  refine qaB (ξ := Bool) (v := fun b => .bool b) rfl rfl rfl (fun _ => True) (fun w hl => once_d B gc w hl.inv 10 (by decide)) (fun x7 _ => ?_)
  repeat (first | refine qan ?_ | refine qaj ?_ | refine qaf ?_ | refine qad ?_ | (refine qak ?_; (refine qac (qae rfl) rfl ?_ ?_ ?_); rfl; rfl) | (refine qao ?_; (refine qac (qai rfl) rfl ?_ ?_ ?_); rfl; rfl) | (refine qay ?_; first | ((first | refine qah 0 ?_ rfl rfl rfl rfl rfl rfl ?_ | refine qah 1 ?_ rfl rfl rfl rfl rfl rfl ?_ | refine qah 2 ?_ rfl rfl rfl rfl rfl rfl ?_); rfl; simp only [List.set_cons_zero, List.set_cons_succ]) | ((first | refine qaa 0 ?_ rfl rfl rfl rfl rfl rfl rfl ?_ | refine qaa 1 ?_ rfl rfl rfl rfl rfl rfl rfl ?_ | refine qaa 2 ?_ rfl rfl rfl rfl rfl rfl rfl ?_); rfl; simp only [List.set_cons_zero, List.set_cons_succ]) | ((first | refine qab 0 ?_ rfl rfl rfl rfl rfl rfl rfl ?_ | refine qab 1 ?_ rfl rfl rfl rfl rfl rfl rfl ?_ | refine qab 2 ?_ rfl rfl rfl rfl rfl rfl rfl ?_); rfl; simp only [over, List.set_cons_zero, List.set_cons_succ])))
  refine qat ?_
  refine qaB (ξ := Bool) (v := fun b => .bool b) rfl rfl rfl (fun _ => True) (fun w hl => once_d B gc w hl.inv 12 (by decide)) (fun x8 _ => ?_)
  repeat (first | refine qan ?_ | refine qaj ?_ | refine qaf ?_ | refine qad ?_ | (refine qak ?_; (refine qac (qae rfl) rfl ?_ ?_ ?_); rfl; rfl) | (refine qao ?_; (refine qac (qai rfl) rfl ?_ ?_ ?_); rfl; rfl) | (refine qay ?_; first | ((first | refine qah 0 ?_ rfl rfl rfl rfl rfl rfl ?_ | refine qah 1 ?_ rfl rfl rfl rfl rfl rfl ?_ | refine qah 2 ?_ rfl rfl rfl rfl rfl rfl ?_); rfl; simp only [List.set_cons_zero, List.set_cons_succ]) | ((first | refine qaa 0 ?_ rfl rfl rfl rfl rfl rfl rfl ?_ | refine qaa 1 ?_ rfl rfl rfl rfl rfl rfl rfl ?_ | refine qaa 2 ?_ rfl rfl rfl rfl rfl rfl rfl ?_); rfl; simp only [List.set_cons_zero, List.set_cons_succ]) | ((first | refine qab 0 ?_ rfl rfl rfl rfl rfl rfl rfl ?_ | refine qab 1 ?_ rfl rfl rfl rfl rfl rfl rfl ?_ | refine qab 2 ?_ rfl rfl rfl rfl rfl rfl rfl ?_); rfl; simp only [over, List.set_cons_zero, List.set_cons_succ])))
  refine qat ?_
  refine qaB (ξ := Bool) (v := fun b => .bool b) rfl rfl rfl (fun _ => True) (fun w hl => once_d B gc w hl.inv 5 (by decide)) (fun b3 _ => ?_)
  repeat (first | refine qaj ?_ | refine qad ?_)
  refine SX.join (ι := Style) (fun s => StyleR s) (fun s => [⟨g3, s.cells, 66⟩, ⟨g2, (default : Style).cells, 66⟩]) (fun _ => []) (fun _ => []) (fun _ => [(0, .pointer (some ⟨gc, 0, none⟩)), (2, .pointer (some ⟨g2, 0, none⟩)), (3, .pointer (some ⟨g3, 0, none⟩))]) ?_ ?_
  · cases b3
    · repeat (first | refine qaC ?_ | refine qas rfl ?_)
      refine SQ.join ({ s2 with content := 1 + x6, apart := x7, hidden := x8 }) ({ hs2 with content := inB_true (n := 1 + x6) (by omega) (by omega) }) ?_ (fun _ hl => hl)
      (repeat (first | exact subF_nil _ | (refine subF_cons rfl ?_) | (refine subF_consv rfl (by rfl) ?_)))
    · repeat (first | refine qaf ?_ | refine qaq rfl ?_ | (refine qao ?_; (refine qac (qai rfl) rfl ?_ ?_ ?_); rfl; rfl))
      skip
      refine qat ?_
      refine qaB (ξ := Int) (v := fun x : Int => .int .i64 x) rfl rfl rfl (fun x => 0 ≤ x ∧ x < 5) (fun w hl => below_d B gc w hl.inv 5 (by decide) (by decide)) (fun x9 h9 => ?_)
      repeat (first | refine qaj ?_ | (refine qak ?_; (refine qac (qae rfl) rfl ?_ ?_ ?_); rfl; rfl) | (refine l_sub ?_; (refine qac (OpW.subi rfl rfl (by omega) (by omega)) rfl ?_ ?_ ?_); rfl; rfl) | (refine qay ?_; first | ((first | refine qah 0 ?_ rfl rfl rfl rfl rfl rfl ?_ | refine qah 1 ?_ rfl rfl rfl rfl rfl rfl ?_ | refine qah 2 ?_ rfl rfl rfl rfl rfl rfl ?_); rfl; simp only [List.set_cons_zero, List.set_cons_succ]) | ((first | refine qaa 0 ?_ rfl rfl rfl rfl rfl rfl rfl ?_ | refine qaa 1 ?_ rfl rfl rfl rfl rfl rfl rfl ?_ | refine qaa 2 ?_ rfl rfl rfl rfl rfl rfl rfl ?_); rfl; simp only [List.set_cons_zero, List.set_cons_succ]) | ((first | refine qab 0 ?_ rfl rfl rfl rfl rfl rfl rfl ?_ | refine qab 1 ?_ rfl rfl rfl rfl rfl rfl rfl ?_ | refine qab 2 ?_ rfl rfl rfl rfl rfl rfl rfl ?_); rfl; simp only [over, List.set_cons_zero, List.set_cons_succ])))
      refine SQ.join ({ s2 with content := 1 + x6, apart := x7, hidden := x8, order := x9 - 2 }) ({ hs2 with content := inB_true (n := 1 + x6) (by omega) (by omega), order := inB_true (n := x9 - 2) (by omega) (by omega) }) ?_ (fun _ hl => hl)
      (repeat (first | exact subF_nil _ | (refine subF_cons rfl ?_) | (refine subF_consv rfl (by rfl) ?_)))
  intro s3 hs3
  repeat (first | refine qan ?_ | refine qaf ?_ | (refine qao ?_; (refine qac (qai rfl) rfl ?_ ?_ ?_); rfl; rfl))
  refine qaN ?_
  refine SXl.lit (cells := [.int .i64 0, .int .i64 0, .int .i64 1, .int .i64 1, .int .i64 2, .int .i64 1000]) (z := .int .i64 0) ?_ ?_ rfl (by decide) (by kernel_rfl) rfl (fun gl => ?_)
  rfl; rfl
  skip
  refine qat ?_
  refine qaB (ξ := Int) (v := fun x => .int .i64 x) rfl rfl rfl (fun x => x ∈ ([0, 0, 1, 1, 2, 1000] : List Int)) (fun w hl => pick_d (l := [0, 0, 1, 1, 2, 1000]) hl (by decide) (by decide)) (fun x10 h10 => ?_)
  refine SXl.drop1 ?_
  have h10b : 0 ≤ x10 ∧ x10 ≤ 1000 := by simp at h10; omega
  repeat (first | refine qan ?_ | refine qaj ?_ | refine qaf ?_ | refine qad ?_ | (refine qak ?_; (refine qac (qae rfl) rfl ?_ ?_ ?_); rfl; rfl) | (refine qao ?_; (refine qac (qai rfl) rfl ?_ ?_ ?_); rfl; rfl) | (refine qay ?_; first | ((first | refine qah 0 ?_ rfl rfl rfl rfl rfl rfl ?_ | refine qah 1 ?_ rfl rfl rfl rfl rfl rfl ?_ | refine qah 2 ?_ rfl rfl rfl rfl rfl rfl ?_); rfl; simp only [List.set_cons_zero, List.set_cons_succ]) | ((first | refine qaa 0 ?_ rfl rfl rfl rfl rfl rfl rfl ?_ | refine qaa 1 ?_ rfl rfl rfl rfl rfl rfl rfl ?_ | refine qaa 2 ?_ rfl rfl rfl rfl rfl rfl rfl ?_); rfl; simp only [List.set_cons_zero, List.set_cons_succ]) | ((first | refine qab 0 ?_ rfl rfl rfl rfl rfl rfl rfl ?_ | refine qab 1 ?_ rfl rfl rfl rfl rfl rfl rfl ?_ | refine qab 2 ?_ rfl rfl rfl rfl rfl rfl rfl ?_); rfl; simp only [over, List.set_cons_zero, List.set_cons_succ])))
  refine qaN ?_
  refine SXl.lit (cells := [.int .i64 0, .int .i64 1, .int .i64 1, .int .i64 2, .int .i64 1000]) (z := .int .i64 0) ?_ ?_ rfl (by decide) (by kernel_rfl) rfl (fun gl => ?_)
  rfl; rfl
  skip
  refine qat ?_
  refine qaB (ξ := Int) (v := fun x => .int .i64 x) rfl rfl rfl (fun x => x ∈ ([0, 1, 1, 2, 1000] : List Int)) (fun w hl => pick_d (l := [0, 1, 1, 2, 1000]) hl (by decide) (by decide)) (fun x11 h11 => ?_)
  refine SXl.drop1 ?_
  have h11b : 0 ≤ x11 ∧ x11 ≤ 1000 := by simp at h11; omega
  repeat (first | refine qan ?_ | refine qaj ?_ | refine qaf ?_ | refine qad ?_ | (refine qak ?_; (refine qac (qae rfl) rfl ?_ ?_ ?_); rfl; rfl) | (refine qao ?_; (refine qac (qai rfl) rfl ?_ ?_ ?_); rfl; rfl) | (refine qay ?_; first | ((first | refine qah 0 ?_ rfl rfl rfl rfl rfl rfl ?_ | refine qah 1 ?_ rfl rfl rfl rfl rfl rfl ?_ | refine qah 2 ?_ rfl rfl rfl rfl rfl rfl ?_); rfl; simp only [List.set_cons_zero, List.set_cons_succ]) | ((first | refine qaa 0 ?_ rfl rfl rfl rfl rfl rfl rfl ?_ | refine qaa 1 ?_ rfl rfl rfl rfl rfl rfl rfl ?_ | refine qaa 2 ?_ rfl rfl rfl rfl rfl rfl rfl ?_); rfl; simp only [List.set_cons_zero, List.set_cons_succ]) | ((first | refine qab 0 ?_ rfl rfl rfl rfl rfl rfl rfl ?_ | refine qab 1 ?_ rfl rfl rfl rfl rfl rfl rfl ?_ | refine qab 2 ?_ rfl rfl rfl rfl rfl rfl rfl ?_); rfl; simp only [over, List.set_cons_zero, List.set_cons_succ])))
  refine qat ?_
  refine qaB (ξ := Val) (v := fun v => .agg v.cells.toArray) rfl rfl rfl (fun v => sizeOk v = true) (fun w hl => l04Value_r B gc w hl.inv) (fun x12 h12 => ?_)
  repeat (first | refine qan ?_ | refine qaj ?_ | refine qaf ?_ | refine qad ?_ | (refine qak ?_; (refine qac (qae rfl) rfl ?_ ?_ ?_); rfl; rfl) | (refine qao ?_; (refine qac (qai rfl) rfl ?_ ?_ ?_); rfl; rfl) | (refine qay ?_; first | ((first | refine qah 0 ?_ rfl rfl rfl rfl rfl rfl ?_ | refine qah 1 ?_ rfl rfl rfl rfl rfl rfl ?_ | refine qah 2 ?_ rfl rfl rfl rfl rfl rfl ?_); rfl; simp only [List.set_cons_zero, List.set_cons_succ]) | ((first | refine qaa 0 ?_ rfl rfl rfl rfl rfl rfl rfl ?_ | refine qaa 1 ?_ rfl rfl rfl rfl rfl rfl rfl ?_ | refine qaa 2 ?_ rfl rfl rfl rfl rfl rfl rfl ?_); rfl; simp only [List.set_cons_zero, List.set_cons_succ]) | ((first | refine qab 0 ?_ rfl rfl rfl rfl rfl rfl rfl ?_ | refine qab 1 ?_ rfl rfl rfl rfl rfl rfl rfl ?_ | refine qab 2 ?_ rfl rfl rfl rfl rfl rfl rfl ?_); rfl; simp only [over, List.set_cons_zero, List.set_cons_succ])))
  refine qat ?_
  refine qaB (ξ := Val) (v := fun v => .agg v.cells.toArray) rfl rfl rfl (fun v => sizeOk v = true) (fun w hl => l04Value_r B gc w hl.inv) (fun x13 h13 => ?_)
  repeat (first | refine qan ?_ | refine qaj ?_ | refine qaf ?_ | refine qad ?_ | (refine qak ?_; (refine qac (qae rfl) rfl ?_ ?_ ?_); rfl; rfl) | (refine qao ?_; (refine qac (qai rfl) rfl ?_ ?_ ?_); rfl; rfl) | (refine qay ?_; first | ((first | refine qah 0 ?_ rfl rfl rfl rfl rfl rfl ?_ | refine qah 1 ?_ rfl rfl rfl rfl rfl rfl ?_ | refine qah 2 ?_ rfl rfl rfl rfl rfl rfl ?_); rfl; simp only [List.set_cons_zero, List.set_cons_succ]) | ((first | refine qaa 0 ?_ rfl rfl rfl rfl rfl rfl rfl ?_ | refine qaa 1 ?_ rfl rfl rfl rfl rfl rfl rfl ?_ | refine qaa 2 ?_ rfl rfl rfl rfl rfl rfl rfl ?_); rfl; simp only [List.set_cons_zero, List.set_cons_succ]) | ((first | refine qab 0 ?_ rfl rfl rfl rfl rfl rfl rfl ?_ | refine qab 1 ?_ rfl rfl rfl rfl rfl rfl rfl ?_ | refine qab 2 ?_ rfl rfl rfl rfl rfl rfl rfl ?_); rfl; simp only [over, List.set_cons_zero, List.set_cons_succ])))
  refine qat ?_
  refine qaB (ξ := Val) (v := fun v => .agg v.cells.toArray) rfl rfl rfl (fun v => sizeOk v = true) (fun w hl => l04Value_r B gc w hl.inv) (fun x14 h14 => ?_)
  repeat (first | refine qan ?_ | refine qaj ?_ | refine qaf ?_ | refine qad ?_ | (refine qak ?_; (refine qac (qae rfl) rfl ?_ ?_ ?_); rfl; rfl) | (refine qao ?_; (refine qac (qai rfl) rfl ?_ ?_ ?_); rfl; rfl) | (refine qay ?_; first | ((first | refine qah 0 ?_ rfl rfl rfl rfl rfl rfl ?_ | refine qah 1 ?_ rfl rfl rfl rfl rfl rfl ?_ | refine qah 2 ?_ rfl rfl rfl rfl rfl rfl ?_); rfl; simp only [List.set_cons_zero, List.set_cons_succ]) | ((first | refine qaa 0 ?_ rfl rfl rfl rfl rfl rfl rfl ?_ | refine qaa 1 ?_ rfl rfl rfl rfl rfl rfl rfl ?_ | refine qaa 2 ?_ rfl rfl rfl rfl rfl rfl rfl ?_); rfl; simp only [List.set_cons_zero, List.set_cons_succ]) | ((first | refine qab 0 ?_ rfl rfl rfl rfl rfl rfl rfl ?_ | refine qab 1 ?_ rfl rfl rfl rfl rfl rfl rfl ?_ | refine qab 2 ?_ rfl rfl rfl rfl rfl rfl rfl ?_); rfl; simp only [over, List.set_cons_zero, List.set_cons_succ])))
  refine qat ?_
  refine qaB (ξ := Bool) (v := fun b => .bool b) rfl rfl rfl (fun _ => True) (fun w hl => once_d B gc w hl.inv 4 (by decide)) (fun b4 _ => ?_)
  repeat (first | refine qaj ?_ | refine qad ?_)
  refine SX.join (ι := Style) (fun s => StyleR s) (fun s => [⟨g3, s.cells, 66⟩, ⟨g2, (default : Style).cells, 66⟩]) (fun _ => []) (fun _ => []) (fun _ => [(0, .pointer (some ⟨gc, 0, none⟩)), (2, .pointer (some ⟨g2, 0, none⟩)), (3, .pointer (some ⟨g3, 0, none⟩))]) ?_ ?_
  · cases b4
    · repeat (first | refine qaC ?_ | refine qas rfl ?_)
      refine SQ.join ({ s3 with grow := x10, shrink := x11, basis := x12, width := x13, height := x14 }) ({ hs3 with grow := inB_true (n := x10) (by omega) (by omega), shrink := inB_true (n := x11) (by omega) (by omega), basis := h12, width := h13, height := h14 }) ?_ (fun _ hl => hl)
      (repeat (first | exact subF_nil _ | (refine subF_cons rfl ?_) | (refine subF_consv rfl (by rfl) ?_)))
    · repeat (first | refine qan ?_ | refine qaf ?_ | refine qaq rfl ?_ | (refine qao ?_; (refine qac (qai rfl) rfl ?_ ?_ ?_); rfl; rfl))
      skip
      refine qat ?_
      refine qaB (ξ := Val) (v := fun v => .agg v.cells.toArray) rfl rfl rfl (fun v => sizeOk v = true) (fun w hl => l04Value_r B gc w hl.inv) (fun x15 h15 => ?_)
      repeat (first | refine qaj ?_ | refine qaf ?_ | refine qad ?_ | (refine qak ?_; (refine qac (qae rfl) rfl ?_ ?_ ?_); rfl; rfl) | (refine qao ?_; (refine qac (qai rfl) rfl ?_ ?_ ?_); rfl; rfl) | (refine qay ?_; first | ((first | refine qah 0 ?_ rfl rfl rfl rfl rfl rfl ?_ | refine qah 1 ?_ rfl rfl rfl rfl rfl rfl ?_ | refine qah 2 ?_ rfl rfl rfl rfl rfl rfl ?_); rfl; simp only [List.set_cons_zero, List.set_cons_succ]) | ((first | refine qaa 0 ?_ rfl rfl rfl rfl rfl rfl rfl ?_ | refine qaa 1 ?_ rfl rfl rfl rfl rfl rfl rfl ?_ | refine qaa 2 ?_ rfl rfl rfl rfl rfl rfl rfl ?_); rfl; simp only [List.set_cons_zero, List.set_cons_succ]) | ((first | refine qab 0 ?_ rfl rfl rfl rfl rfl rfl rfl ?_ | refine qab 1 ?_ rfl rfl rfl rfl rfl rfl rfl ?_ | refine qab 2 ?_ rfl rfl rfl rfl rfl rfl rfl ?_); rfl; simp only [over, List.set_cons_zero, List.set_cons_succ])))
      refine qat ?_
      refine qaB (ξ := Val) (v := fun v => .agg v.cells.toArray) rfl rfl rfl (fun v => sizeOk v = true) (fun w hl => l04Value_r B gc w hl.inv) (fun x16 h16 => ?_)
      repeat (first | refine qaj ?_ | (refine qak ?_; (refine qac (qae rfl) rfl ?_ ?_ ?_); rfl; rfl) | (refine qay ?_; first | ((first | refine qah 0 ?_ rfl rfl rfl rfl rfl rfl ?_ | refine qah 1 ?_ rfl rfl rfl rfl rfl rfl ?_ | refine qah 2 ?_ rfl rfl rfl rfl rfl rfl ?_); rfl; simp only [List.set_cons_zero, List.set_cons_succ]) | ((first | refine qaa 0 ?_ rfl rfl rfl rfl rfl rfl rfl ?_ | refine qaa 1 ?_ rfl rfl rfl rfl rfl rfl rfl ?_ | refine qaa 2 ?_ rfl rfl rfl rfl rfl rfl rfl ?_); rfl; simp only [List.set_cons_zero, List.set_cons_succ]) | ((first | refine qab 0 ?_ rfl rfl rfl rfl rfl rfl rfl ?_ | refine qab 1 ?_ rfl rfl rfl rfl rfl rfl rfl ?_ | refine qab 2 ?_ rfl rfl rfl rfl rfl rfl rfl ?_); rfl; simp only [over, List.set_cons_zero, List.set_cons_succ])))
      refine SQ.join ({ s3 with grow := x10, shrink := x11, basis := x12, width := x13, height := x14, minWidth := x15, maxWidth := x16 }) ({ hs3 with grow := inB_true (n := x10) (by omega) (by omega), shrink := inB_true (n := x11) (by omega) (by omega), basis := h12, width := h13, height := h14, minWidth := h15, maxWidth := h16 }) ?_ (fun _ hl => hl)
      (repeat (first | exact subF_nil _ | (refine subF_cons rfl ?_) | (refine subF_consv rfl (by rfl) ?_)))
  intro s4 hs4
  repeat (first | refine qan ?_ | refine qaf ?_ | (refine qao ?_; (refine qac (qai rfl) rfl ?_ ?_ ?_); rfl; rfl))
  refine qat ?_
  refine qaB (ξ := Bool) (v := fun b => .bool b) rfl rfl rfl (fun _ => True) (fun w hl => once_d B gc w hl.inv 4 (by decide)) (fun b5 _ => ?_)
  repeat (first | refine qaj ?_ | refine qad ?_)
  refine SX.join (ι := Style) (fun s => StyleR s) (fun s => [⟨g3, s.cells, 66⟩, ⟨g2, (default : Style).cells, 66⟩]) (fun _ => []) (fun _ => []) (fun _ => [(0, .pointer (some ⟨gc, 0, none⟩)), (2, .pointer (some ⟨g2, 0, none⟩)), (3, .pointer (some ⟨g3, 0, none⟩))]) ?_ ?_
  · cases b5
    · repeat (first | refine qaC ?_ | refine qas rfl ?_)
      refine SQ.join (s4) (hs4) ?_ (fun _ hl => hl)
      (repeat (first | exact subF_nil _ | (refine subF_cons rfl ?_) | (refine subF_consv rfl (by rfl) ?_)))
    · repeat (first | refine qan ?_ | refine qaf ?_ | refine qaq rfl ?_ | (refine qao ?_; (refine qac (qai rfl) rfl ?_ ?_ ?_); rfl; rfl))
      skip
      refine qat ?_
      refine qaB (ξ := Val) (v := fun v => .agg v.cells.toArray) rfl rfl rfl (fun v => sizeOk v = true) (fun w hl => l04Value_r B gc w hl.inv) (fun x17 h17 => ?_)
      repeat (first | refine qaj ?_ | refine qaf ?_ | refine qad ?_ | (refine qak ?_; (refine qac (qae rfl) rfl ?_ ?_ ?_); rfl; rfl) | (refine qao ?_; (refine qac (qai rfl) rfl ?_ ?_ ?_); rfl; rfl) | (refine qay ?_; first | ((first | refine qah 0 ?_ rfl rfl rfl rfl rfl rfl ?_ | refine qah 1 ?_ rfl rfl rfl rfl rfl rfl ?_ | refine qah 2 ?_ rfl rfl rfl rfl rfl rfl ?_); rfl; simp only [List.set_cons_zero, List.set_cons_succ]) | ((first | refine qaa 0 ?_ rfl rfl rfl rfl rfl rfl rfl ?_ | refine qaa 1 ?_ rfl rfl rfl rfl rfl rfl rfl ?_ | refine qaa 2 ?_ rfl rfl rfl rfl rfl rfl rfl ?_); rfl; simp only [List.set_cons_zero, List.set_cons_succ]) | ((first | refine qab 0 ?_ rfl rfl rfl rfl rfl rfl rfl ?_ | refine qab 1 ?_ rfl rfl rfl rfl rfl rfl rfl ?_ | refine qab 2 ?_ rfl rfl rfl rfl rfl rfl rfl ?_); rfl; simp only [over, List.set_cons_zero, List.set_cons_succ])))
      refine qat ?_
      refine qaB (ξ := Val) (v := fun v => .agg v.cells.toArray) rfl rfl rfl (fun v => sizeOk v = true) (fun w hl => l04Value_r B gc w hl.inv) (fun x18 h18 => ?_)
      repeat (first | refine qaj ?_ | (refine qak ?_; (refine qac (qae rfl) rfl ?_ ?_ ?_); rfl; rfl) | (refine qay ?_; first | ((first | refine qah 0 ?_ rfl rfl rfl rfl rfl rfl ?_ | refine qah 1 ?_ rfl rfl rfl rfl rfl rfl ?_ | refine qah 2 ?_ rfl rfl rfl rfl rfl rfl ?_); rfl; simp only [List.set_cons_zero, List.set_cons_succ]) | ((first | refine qaa 0 ?_ rfl rfl rfl rfl rfl rfl rfl ?_ | refine qaa 1 ?_ rfl rfl rfl rfl rfl rfl rfl ?_ | refine qaa 2 ?_ rfl rfl rfl rfl rfl rfl rfl ?_); rfl; simp only [List.set_cons_zero, List.set_cons_succ]) | ((first | refine qab 0 ?_ rfl rfl rfl rfl rfl rfl rfl ?_ | refine qab 1 ?_ rfl rfl rfl rfl rfl rfl rfl ?_ | refine qab 2 ?_ rfl rfl rfl rfl rfl rfl rfl ?_); rfl; simp only [over, List.set_cons_zero, List.set_cons_succ])))
      refine SQ.join ({ s4 with minHeight := x17, maxHeight := x18 }) ({ hs4 with minHeight := h17, maxHeight := h18 }) ?_ (fun _ hl => hl)
      (repeat (first | exact subF_nil _ | (refine subF_cons rfl ?_) | (refine subF_consv rfl (by rfl) ?_)))
  intro s5 hs5
  repeat (first | refine qan ?_ | refine qaf ?_ | (refine qao ?_; (refine qac (qai rfl) rfl ?_ ?_ ?_); rfl; rfl))
  refine qat ?_
  refine qaB (ξ := Bool) (v := fun b => .bool b) rfl rfl rfl (fun _ => True) (fun w hl => once_d B gc w hl.inv 8 (by decide)) (fun b6 _ => ?_)
  repeat (first | refine qaj ?_ | refine qad ?_)
  refine SX.join (ι := Style) (fun s => StyleR s) (fun s => [⟨g3, s.cells, 66⟩, ⟨g2, (default : Style).cells, 66⟩]) (fun _ => []) (fun _ => []) (fun _ => [(0, .pointer (some ⟨gc, 0, none⟩)), (2, .pointer (some ⟨g2, 0, none⟩)), (3, .pointer (some ⟨g3, 0, none⟩))]) ?_ ?_
  · cases b6
    · repeat (first | refine qaC ?_ | refine qas rfl ?_)
      refine SQ.join (s5) (hs5) ?_ (fun _ hl => hl)
      (repeat (first | exact subF_nil _ | (refine subF_cons rfl ?_) | (refine subF_consv rfl (by rfl) ?_)))
    · repeat (first | refine qaf ?_ | refine qaq rfl ?_ | (refine qao ?_; (refine qac (qai rfl) rfl ?_ ?_ ?_); rfl; rfl))
      skip
      refine qaN ?_
      refine SXl.lit (cells := [.int .i64 64, .int .i64 32, .int .i64 128, .int .i64 100, .int .i64 1, .int .i64 6400]) (z := .int .i64 0) ?_ ?_ rfl (by decide) (by kernel_rfl) rfl (fun gl => ?_)
      rfl; rfl
      skip
      refine qat ?_
      refine qaB (ξ := Int) (v := fun x => .int .i64 x) rfl rfl rfl (fun x => x ∈ ([64, 32, 128, 100, 1, 6400] : List Int)) (fun w hl => pick_d (l := [64, 32, 128, 100, 1, 6400]) hl (by decide) (by decide)) (fun x19 h19 => ?_)
      refine SXl.drop1 ?_
      have h19b : 0 ≤ x19 ∧ x19 ≤ 6400 := by simp at h19; omega
      repeat (first | refine qaj ?_ | (refine qak ?_; (refine qac (qae rfl) rfl ?_ ?_ ?_); rfl; rfl) | (refine qay ?_; first | ((first | refine qah 0 ?_ rfl rfl rfl rfl rfl rfl ?_ | refine qah 1 ?_ rfl rfl rfl rfl rfl rfl ?_ | refine qah 2 ?_ rfl rfl rfl rfl rfl rfl ?_); rfl; simp only [List.set_cons_zero, List.set_cons_succ]) | ((first | refine qaa 0 ?_ rfl rfl rfl rfl rfl rfl rfl ?_ | refine qaa 1 ?_ rfl rfl rfl rfl rfl rfl rfl ?_ | refine qaa 2 ?_ rfl rfl rfl rfl rfl rfl rfl ?_); rfl; simp only [List.set_cons_zero, List.set_cons_succ]) | ((first | refine qab 0 ?_ rfl rfl rfl rfl rfl rfl rfl ?_ | refine qab 1 ?_ rfl rfl rfl rfl rfl rfl rfl ?_ | refine qab 2 ?_ rfl rfl rfl rfl rfl rfl rfl ?_); rfl; simp only [over, List.set_cons_zero, List.set_cons_succ])))
      refine SQ.join ({ s5 with ratio := x19 }) ({ hs5 with ratio := inB_true (n := x19) (by omega) (by omega) }) ?_ (fun _ hl => hl)
      (repeat (first | exact subF_nil _ | (refine subF_cons rfl ?_) | (refine subF_consv rfl (by rfl) ?_)))
  intro s6 hs6
  repeat (first | refine qan ?_ | refine qaf ?_ | (refine qao ?_; (refine qac (qai rfl) rfl ?_ ?_ ?_); rfl; rfl))
  refine qat ?_
  refine qaB (ξ := Bool) (v := fun b => .bool b) rfl rfl rfl (fun _ => True) (fun w hl => once_d B gc w hl.inv 3 (by decide)) (fun b7 _ => ?_)
  repeat (first | refine qaj ?_ | refine qad ?_)
  refine SX.join (ι := Style) (fun s => StyleR s) (fun s => [⟨g3, s.cells, 66⟩, ⟨g2, (default : Style).cells, 66⟩]) (fun _ => []) (fun _ => []) (fun _ => [(0, .pointer (some ⟨gc, 0, none⟩)), (2, .pointer (some ⟨g2, 0, none⟩)), (3, .pointer (some ⟨g3, 0, none⟩))]) ?_ ?_
  · cases b7
    · repeat (first | refine qaC ?_ | refine qas rfl ?_)
      refine SQ.join (s6) (hs6) ?_ (fun _ hl => hl)
      (repeat (first | exact subF_nil _ | (refine subF_cons rfl ?_) | (refine subF_consv rfl (by rfl) ?_)))
    · repeat (first | refine qaf ?_ | refine qaq rfl ?_ | (refine qao ?_; (refine qac (qai rfl) rfl ?_ ?_ ?_); rfl; rfl))
      skip
      refine qat ?_
      refine qaB (ξ := Sides) (v := fun v => .agg v.cells.toArray) rfl rfl rfl (fun v => sidesOk v = true) (fun w hl => l05Sides_r B gc w hl.inv) (fun x20 h20 => ?_)
      repeat (first | refine qaj ?_ | (refine qak ?_; (refine qac (qae rfl) rfl ?_ ?_ ?_); rfl; rfl) | (refine qay ?_; first | ((first | refine qah 0 ?_ rfl rfl rfl rfl rfl rfl ?_ | refine qah 1 ?_ rfl rfl rfl rfl rfl rfl ?_ | refine qah 2 ?_ rfl rfl rfl rfl rfl rfl ?_); rfl; simp only [List.set_cons_zero, List.set_cons_succ]) | ((first | refine qaa 0 ?_ rfl rfl rfl rfl rfl rfl rfl ?_ | refine qaa 1 ?_ rfl rfl rfl rfl rfl rfl rfl ?_ | refine qaa 2 ?_ rfl rfl rfl rfl rfl rfl rfl ?_); rfl; simp only [List.set_cons_zero, List.set_cons_succ]) | ((first | refine qab 0 ?_ rfl rfl rfl rfl rfl rfl rfl ?_ | refine qab 1 ?_ rfl rfl rfl rfl rfl rfl rfl ?_ | refine qab 2 ?_ rfl rfl rfl rfl rfl rfl rfl ?_); rfl; simp only [over, List.set_cons_zero, List.set_cons_succ])))
      refine SQ.join ({ s6 with margin := x20 }) ({ hs6 with margin := h20 }) ?_ (fun _ hl => hl)
      (repeat (first | exact subF_nil _ | (refine subF_cons rfl ?_) | (refine subF_consv rfl (by rfl) ?_)))
  intro s7 hs7
  repeat (first | refine qan ?_ | refine qaf ?_ | (refine qao ?_; (refine qac (qai rfl) rfl ?_ ?_ ?_); rfl; rfl))
  refine qat ?_
  refine qaB (ξ := Bool) (v := fun b => .bool b) rfl rfl rfl (fun _ => True) (fun w hl => once_d B gc w hl.inv 4 (by decide)) (fun b8 _ => ?_)
  repeat (first | refine qaj ?_ | refine qad ?_)
  refine SX.join (ι := Style) (fun s => StyleR s) (fun s => [⟨g3, s.cells, 66⟩, ⟨g2, (default : Style).cells, 66⟩]) (fun _ => []) (fun _ => []) (fun _ => [(0, .pointer (some ⟨gc, 0, none⟩)), (2, .pointer (some ⟨g2, 0, none⟩)), (3, .pointer (some ⟨g3, 0, none⟩))]) ?_ ?_
  · cases b8
    · repeat (first | refine qaC ?_ | refine qas rfl ?_)
      refine SQ.join (s7) (hs7) ?_ (fun _ hl => hl)
      (repeat (first | exact subF_nil _ | (refine subF_cons rfl ?_) | (refine subF_consv rfl (by rfl) ?_)))
    · repeat (first | refine qaf ?_ | refine qaq rfl ?_ | (refine qao ?_; (refine qac (qai rfl) rfl ?_ ?_ ?_); rfl; rfl))
      skip
      refine qat ?_
      refine qaB (ξ := Sides) (v := fun v => .agg v.cells.toArray) rfl rfl rfl (fun v => sidesOk v = true) (fun w hl => l05Sides_r B gc w hl.inv) (fun x21 h21 => ?_)
      repeat (first | refine qaj ?_ | (refine qak ?_; (refine qac (qae rfl) rfl ?_ ?_ ?_); rfl; rfl) | (refine qay ?_; first | ((first | refine qah 0 ?_ rfl rfl rfl rfl rfl rfl ?_ | refine qah 1 ?_ rfl rfl rfl rfl rfl rfl ?_ | refine qah 2 ?_ rfl rfl rfl rfl rfl rfl ?_); rfl; simp only [List.set_cons_zero, List.set_cons_succ]) | ((first | refine qaa 0 ?_ rfl rfl rfl rfl rfl rfl rfl ?_ | refine qaa 1 ?_ rfl rfl rfl rfl rfl rfl rfl ?_ | refine qaa 2 ?_ rfl rfl rfl rfl rfl rfl rfl ?_); rfl; simp only [List.set_cons_zero, List.set_cons_succ]) | ((first | refine qab 0 ?_ rfl rfl rfl rfl rfl rfl rfl ?_ | refine qab 1 ?_ rfl rfl rfl rfl rfl rfl rfl ?_ | refine qab 2 ?_ rfl rfl rfl rfl rfl rfl rfl ?_); rfl; simp only [over, List.set_cons_zero, List.set_cons_succ])))
      refine SQ.join ({ s7 with inset := x21 }) ({ hs7 with inset := h21 }) ?_ (fun _ hl => hl)
      (repeat (first | exact subF_nil _ | (refine subF_cons rfl ?_) | (refine subF_consv rfl (by rfl) ?_)))
  intro s8 hs8
  repeat (first | refine qan ?_ | refine qaf ?_ | (refine qao ?_; (refine qac (qai rfl) rfl ?_ ?_ ?_); rfl; rfl))
  refine qat ?_
  refine qaB (ξ := Bool) (v := fun b => .bool b) rfl rfl rfl (fun _ => True) (fun w hl => once_d B gc w hl.inv 4 (by decide)) (fun b9 _ => ?_)
  repeat (first | refine qaj ?_ | refine qad ?_)
  refine SX.join (ι := Style) (fun s => StyleR s) (fun s => [⟨g3, s.cells, 66⟩, ⟨g2, (default : Style).cells, 66⟩]) (fun _ => []) (fun _ => []) (fun _ => [(0, .pointer (some ⟨gc, 0, none⟩)), (2, .pointer (some ⟨g2, 0, none⟩)), (3, .pointer (some ⟨g3, 0, none⟩))]) ?_ ?_
  · cases b9
    · repeat (first | refine qaC ?_ | refine qas rfl ?_)
      refine SQ.join (s8) (hs8) ?_ (fun _ hl => hl)
      (repeat (first | exact subF_nil _ | (refine subF_cons rfl ?_) | (refine subF_consv rfl (by rfl) ?_)))
    · repeat (first | refine qan ?_ | refine qaf ?_ | refine qaq rfl ?_ | (refine qao ?_; (refine qac (qai rfl) rfl ?_ ?_ ?_); rfl; rfl))
      skip
      refine qat ?_
      refine qaB (ξ := Edges) (v := fun v => .agg v.cells.toArray) rfl rfl rfl (fun v => edgesOk v = true) (fun w hl => l05Edges_r B gc w hl.inv) (fun x22 h22 => ?_)
      repeat (first | refine qaj ?_ | refine qaf ?_ | refine qad ?_ | (refine qak ?_; (refine qac (qae rfl) rfl ?_ ?_ ?_); rfl; rfl) | (refine qao ?_; (refine qac (qai rfl) rfl ?_ ?_ ?_); rfl; rfl) | (refine qay ?_; first | ((first | refine qah 0 ?_ rfl rfl rfl rfl rfl rfl ?_ | refine qah 1 ?_ rfl rfl rfl rfl rfl rfl ?_ | refine qah 2 ?_ rfl rfl rfl rfl rfl rfl ?_); rfl; simp only [List.set_cons_zero, List.set_cons_succ]) | ((first | refine qaa 0 ?_ rfl rfl rfl rfl rfl rfl rfl ?_ | refine qaa 1 ?_ rfl rfl rfl rfl rfl rfl rfl ?_ | refine qaa 2 ?_ rfl rfl rfl rfl rfl rfl rfl ?_); rfl; simp only [List.set_cons_zero, List.set_cons_succ]) | ((first | refine qab 0 ?_ rfl rfl rfl rfl rfl rfl rfl ?_ | refine qab 1 ?_ rfl rfl rfl rfl rfl rfl rfl ?_ | refine qab 2 ?_ rfl rfl rfl rfl rfl rfl rfl ?_); rfl; simp only [over, List.set_cons_zero, List.set_cons_succ])))
      refine qat ?_
      refine qaB (ξ := Edges) (v := fun v => .agg v.cells.toArray) rfl rfl rfl (fun v => edgesOk v = true) (fun w hl => l05Edges_r B gc w hl.inv) (fun x23 h23 => ?_)
      repeat (first | refine qaj ?_ | (refine qak ?_; (refine qac (qae rfl) rfl ?_ ?_ ?_); rfl; rfl) | (refine qay ?_; first | ((first | refine qah 0 ?_ rfl rfl rfl rfl rfl rfl ?_ | refine qah 1 ?_ rfl rfl rfl rfl rfl rfl ?_ | refine qah 2 ?_ rfl rfl rfl rfl rfl rfl ?_); rfl; simp only [List.set_cons_zero, List.set_cons_succ]) | ((first | refine qaa 0 ?_ rfl rfl rfl rfl rfl rfl rfl ?_ | refine qaa 1 ?_ rfl rfl rfl rfl rfl rfl rfl ?_ | refine qaa 2 ?_ rfl rfl rfl rfl rfl rfl rfl ?_); rfl; simp only [List.set_cons_zero, List.set_cons_succ]) | ((first | refine qab 0 ?_ rfl rfl rfl rfl rfl rfl rfl ?_ | refine qab 1 ?_ rfl rfl rfl rfl rfl rfl rfl ?_ | refine qab 2 ?_ rfl rfl rfl rfl rfl rfl rfl ?_); rfl; simp only [over, List.set_cons_zero, List.set_cons_succ])))
      refine SQ.join ({ s8 with pad := x22, border := x23 }) ({ hs8 with pad := h22, border := h23 }) ?_ (fun _ hl => hl)
      (repeat (first | exact subF_nil _ | (refine subF_cons rfl ?_) | (refine subF_consv rfl (by rfl) ?_)))
  intro s9 hs9
  repeat (first | refine qan ?_ | refine qaf ?_ | (refine qao ?_; (refine qac (qai rfl) rfl ?_ ?_ ?_); rfl; rfl))
  refine qat ?_
  refine qaB (ξ := Bool) (v := fun b => .bool b) rfl rfl rfl (fun _ => True) (fun w hl => once_d B gc w hl.inv 4 (by decide)) (fun b10 _ => ?_)
  repeat (first | refine qaj ?_ | refine qad ?_)
  refine SX.join (ι := Style) (fun s => StyleR s) (fun s => [⟨g3, s.cells, 66⟩, ⟨g2, (default : Style).cells, 66⟩]) (fun _ => []) (fun _ => []) (fun _ => [(0, .pointer (some ⟨gc, 0, none⟩)), (2, .pointer (some ⟨g2, 0, none⟩)), (3, .pointer (some ⟨g3, 0, none⟩))]) ?_ ?_
  · cases b10
    · repeat (first | refine qaC ?_ | refine qas rfl ?_)
      refine SQ.join (s9) (hs9) ?_ (fun _ hl => hl)
      (repeat (first | exact subF_nil _ | (refine subF_cons rfl ?_) | (refine subF_consv rfl (by rfl) ?_)))
    · repeat (first | refine qan ?_ | refine qaf ?_ | refine qaq rfl ?_ | (refine qao ?_; (refine qac (qai rfl) rfl ?_ ?_ ?_); rfl; rfl))
      skip
      refine qat ?_
      refine qaB (ξ := Int) (v := fun x : Int => .int .i64 x) rfl rfl rfl (fun x => 0 ≤ x ∧ x < 100) (fun w hl => below_d B gc w hl.inv 100 (by decide) (by decide)) (fun x24 h24 => ?_)
      repeat (first | refine qaj ?_ | refine qaf ?_ | refine qad ?_ | (refine qak ?_; (refine qac (qae rfl) rfl ?_ ?_ ?_); rfl; rfl) | (refine qao ?_; (refine qac (qai rfl) rfl ?_ ?_ ?_); rfl; rfl) | (refine qay ?_; first | ((first | refine qah 0 ?_ rfl rfl rfl rfl rfl rfl ?_ | refine qah 1 ?_ rfl rfl rfl rfl rfl rfl ?_ | refine qah 2 ?_ rfl rfl rfl rfl rfl rfl ?_); rfl; simp only [List.set_cons_zero, List.set_cons_succ]) | ((first | refine qaa 0 ?_ rfl rfl rfl rfl rfl rfl rfl ?_ | refine qaa 1 ?_ rfl rfl rfl rfl rfl rfl rfl ?_ | refine qaa 2 ?_ rfl rfl rfl rfl rfl rfl rfl ?_); rfl; simp only [List.set_cons_zero, List.set_cons_succ]) | ((first | refine qab 0 ?_ rfl rfl rfl rfl rfl rfl rfl ?_ | refine qab 1 ?_ rfl rfl rfl rfl rfl rfl rfl ?_ | refine qab 2 ?_ rfl rfl rfl rfl rfl rfl rfl ?_); rfl; simp only [over, List.set_cons_zero, List.set_cons_succ])))
      refine qat ?_
      refine qaB (ξ := Int) (v := fun x : Int => .int .i64 x) rfl rfl rfl (fun x => 0 ≤ x ∧ x < 100) (fun w hl => below_d B gc w hl.inv 100 (by decide) (by decide)) (fun x25 h25 => ?_)
      repeat (first | refine qaj ?_ | (refine qak ?_; (refine qac (qae rfl) rfl ?_ ?_ ?_); rfl; rfl) | (refine qay ?_; first | ((first | refine qah 0 ?_ rfl rfl rfl rfl rfl rfl ?_ | refine qah 1 ?_ rfl rfl rfl rfl rfl rfl ?_ | refine qah 2 ?_ rfl rfl rfl rfl rfl rfl ?_); rfl; simp only [List.set_cons_zero, List.set_cons_succ]) | ((first | refine qaa 0 ?_ rfl rfl rfl rfl rfl rfl rfl ?_ | refine qaa 1 ?_ rfl rfl rfl rfl rfl rfl rfl ?_ | refine qaa 2 ?_ rfl rfl rfl rfl rfl rfl rfl ?_); rfl; simp only [List.set_cons_zero, List.set_cons_succ]) | ((first | refine qab 0 ?_ rfl rfl rfl rfl rfl rfl rfl ?_ | refine qab 1 ?_ rfl rfl rfl rfl rfl rfl rfl ?_ | refine qab 2 ?_ rfl rfl rfl rfl rfl rfl rfl ?_); rfl; simp only [over, List.set_cons_zero, List.set_cons_succ])))
      refine SQ.join ({ s9 with rowGap := x24, colGap := x25 }) ({ hs9 with rowGap := inB_true (n := x24) (by omega) (by omega), colGap := inB_true (n := x25) (by omega) (by omega) }) ?_ (fun _ hl => hl)
      (repeat (first | exact subF_nil _ | (refine subF_cons rfl ?_) | (refine subF_consv rfl (by rfl) ?_)))
  intro s10 hs10
  repeat (first | refine qan ?_ | refine qaj ?_ | refine qaf ?_ | refine qad ?_ | (refine qau ?_; (refine qac (qam 0 rfl rfl rfl) rfl ?_ ?_ ?_); rfl; rfl) | (refine qay ?_; first | ((first | refine qah 0 ?_ rfl rfl rfl rfl rfl rfl ?_ | refine qah 1 ?_ rfl rfl rfl rfl rfl rfl ?_ | refine qah 2 ?_ rfl rfl rfl rfl rfl rfl ?_); rfl; simp only [List.set_cons_zero, List.set_cons_succ]) | ((first | refine qaa 0 ?_ rfl rfl rfl rfl rfl rfl rfl ?_ | refine qaa 1 ?_ rfl rfl rfl rfl rfl rfl rfl ?_ | refine qaa 2 ?_ rfl rfl rfl rfl rfl rfl rfl ?_); rfl; simp only [List.set_cons_zero, List.set_cons_succ]) | ((first | refine qab 0 ?_ rfl rfl rfl rfl rfl rfl rfl ?_ | refine qab 1 ?_ rfl rfl rfl rfl rfl rfl rfl ?_ | refine qab 2 ?_ rfl rfl rfl rfl rfl rfl rfl ?_); rfl; simp only [over, List.set_cons_zero, List.set_cons_succ])) | refine qaA ?_)
  refine qaK 1 rfl rfl rfl rfl (fun w' hl => ⟨s10, rfl, hs10.ok, hl.mod, hl.inv⟩)
end Go.Proofs.Ythffgbhphjkdeaa
namespace Go.Proofs.Ythffgbhphjkdeaa
open Go.RowKit
set_option linter.unusedVariables false
set_option linter.unusedSimpArgs false

theorem pick_g {W : World} {B gc b : Nat} {hg : gc < W.heap.size} {hB : B ≤ gc} {L : List Blk} {O : List Own} {E : List Res} {w : World} {l : List Int} (hl : Loc W (curRg 141 B gc W hg hB) L O E w) (hm : (⟨b, l.map (.int .i64), 3⟩ : Blk) ∈ L) (h0 : 0 < l.length) (h1 : l.length ≤ 1000) :
    Calls Try.prog 71 #[.pointer (some ⟨gc, 0, none⟩), .slice (some ⟨b, 0, none⟩) l.length l.length] w (DrewV 141 B gc w (fun x : Int => .int .i64 x) (fun x => x ∈ l)) := by
  obtain ⟨hb, hcell⟩ := hl.blk _ hm
  have hne : b ≠ gc := by
    rcases hb with h | h
    · exact h.elim
    · simp only at h; omega
  refine (l01PickInt_any B gc w hl.inv b l.length l (fun i hi => ?_) h0 h1 hne).mono fun e w' h => Drew.v h
  have := blk_cell (j := i) (v := .int .i64 (l.getD i 0)) hcell (by simp [List.getElem?_eq_getElem hi, List.getD, hi])
  rw [Nat.zero_add]
  exact this
/-- Rules of the call's own. -/
structure RuleQ where
  l : List Rule
  a : Option Addr
  c : Nat
def RuleQ.v (q : RuleQ) : Value := .agg [.slice q.a q.l.length q.c].toArray
def RuleQ.o (q : RuleQ) : Own := ⟨.slice q.a q.l.length q.c, 152, 3, q.l.length, (q.l.map Rule.cells).flatten⟩
/-- What a round of the draw holds. -/
structure RuleG where
  g1 : Nat
  n0 : Int
  n1 : Int
  n2 : Int
  g2 : Nat
  a : Option Addr
  c : Nat
  deriving Inhabited
set_option maxRecDepth 100000 in
set_option maxHeartbeats 16000000 in
theorem l09Table_o (B gc : Nat) (w : World) (hc : Cur B 141 w gc) :
    Calls Try.prog 125 #[.pointer (some ⟨gc, 0, none⟩)] w (DrewO RuleQ 141 B gc RuleQ.v (fun q => [q.o]) (fun q => 1 ≤ q.l.length ∧ q.l.length ≤ 3) w) := by
  refine calls_draw (as_ := [.pointer (some ⟨gc, 0, none⟩)]) hc Try.func125 rfl rfl (fun a h1 h2 h3 => ((Fr.nil h1 h2).arg (h3 0 _ rfl))) ?_
  repeat (first | refine qan ?_ | refine qaj ?_ | refine qaf ?_ | refine qad ?_ | refine SX.block ?_ | (refine l_build ?_; (refine qac ((OpW.build (vals := []) (cells := [.slice none 0 0]) rfl (by kernel_rfl))) rfl ?_ ?_ ?_); rfl; rfl) | (refine qal ?_; (refine qac (qag rfl) rfl ?_ ?_ ?_); rfl; rfl) | (refine qaR ?_; refine SXl.alloc ?_ ?_ (fun g => ?_); rfl; rfl) | (refine qay ?_; first | ((first | refine qah 0 ?_ rfl rfl rfl rfl rfl rfl ?_ | refine qah 1 ?_ rfl rfl rfl rfl rfl rfl ?_ | refine qah 2 ?_ rfl rfl rfl rfl rfl rfl ?_); rfl; simp only [List.set_cons_zero, List.set_cons_succ]) | ((first | refine qaa 0 ?_ rfl rfl rfl rfl rfl rfl rfl ?_ | refine qaa 1 ?_ rfl rfl rfl rfl rfl rfl rfl ?_ | refine qaa 2 ?_ rfl rfl rfl rfl rfl rfl rfl ?_); rfl; simp only [List.set_cons_zero, List.set_cons_succ]) | ((first | refine qab 0 ?_ rfl rfl rfl rfl rfl rfl rfl ?_ | refine qab 1 ?_ rfl rfl rfl rfl rfl rfl rfl ?_ | refine qab 2 ?_ rfl rfl rfl rfl rfl rfl rfl ?_); rfl; simp only [over, List.set_cons_zero, List.set_cons_succ])))
  rename_i g2
  revert g; intro g3
  refine SX.ownNil 152 3 ?_
  refine SX.loop3 (fun (i : Nat) (q : RuleQ) (_ : Unit) => i ≤ 3 ∧ q.l.length = i) (fun i _ _ => 4 - i) (fun _ q _ => [⟨g3, [.slice q.a q.l.length q.c], 76⟩, ⟨g2, [.slice none 0 0], 76⟩]) (fun _ q _ => [q.o]) (fun _ _ _ => []) (fun i _ _ => [(0, .pointer (some ⟨gc, 0, none⟩)), (2, .pointer (some ⟨g2, 0, none⟩)), (3, .pointer (some ⟨g3, 0, none⟩)), (4, .int .i64 i)]) 0 ⟨[], none, 0⟩ () ⟨by omega, rfl⟩ ?_ (fun w hl => hl) ?_
  · (repeat (first | exact subF_nil _ | (refine subF_cons rfl ?_) | (refine subF_consv rfl (by rfl) ?_)))
  · rintro i q _ ⟨hi, hn⟩
    repeat (first | refine qan ?_ | refine qaf ?_ | (refine qao ?_; (refine qac (qai rfl) rfl ?_ ?_ ?_); rfl; rfl))
    refine qat ?_
    refine qaB (ξ := Int) (v := fun x : Int => .int .i64 x) rfl rfl rfl (fun x => 0 ≤ x ∧ x < 3) (fun w hl => below_d B gc w hl.inv 3 (by decide) (by decide)) (fun x hx => ?_)
    by_cases hlt : (i : Int) ≤ x
    rotate_left
    · repeat (first | refine qan ?_ | refine qaj ?_ | refine qaf ?_ | refine qad ?_ | refine qas rfl ?_ | (refine qau ?_; (refine qac (qam 0 rfl rfl rfl) rfl ?_ ?_ ?_); rfl; rfl) | (refine l_leq ?_; (refine qac (OpW.leqF rfl rfl (by omega)) rfl ?_ ?_ ?_); rfl; rfl) | (refine qay ?_; first | ((first | refine qah 0 ?_ rfl rfl rfl rfl rfl rfl ?_ | refine qah 1 ?_ rfl rfl rfl rfl rfl rfl ?_ | refine qah 2 ?_ rfl rfl rfl rfl rfl rfl ?_); rfl; simp only [List.set_cons_zero, List.set_cons_succ]) | ((first | refine qaa 0 ?_ rfl rfl rfl rfl rfl rfl rfl ?_ | refine qaa 1 ?_ rfl rfl rfl rfl rfl rfl rfl ?_ | refine qaa 2 ?_ rfl rfl rfl rfl rfl rfl rfl ?_); rfl; simp only [List.set_cons_zero, List.set_cons_succ]) | ((first | refine qab 0 ?_ rfl rfl rfl rfl rfl rfl rfl ?_ | refine qab 1 ?_ rfl rfl rfl rfl rfl rfl rfl ?_ | refine qab 2 ?_ rfl rfl rfl rfl rfl rfl rfl ?_); rfl; simp only [over, List.set_cons_zero, List.set_cons_succ])) | refine qaA ?_ | refine SX.exit ?_ | refine qaF ?_ | refine qaD ?_)
      refine qaK 1 rfl rfl rfl rfl (fun w' hl => ⟨q, rfl, ⟨by omega, by omega⟩, hl.owns, hl.mod, hl.inv⟩)
    repeat (first | refine qan ?_ | refine qaj ?_ | refine qad ?_ | refine SX.block ?_ | refine qaC ?_ | refine qaq rfl ?_ | (refine l_leq ?_; (refine qac (OpW.leqT rfl rfl (by omega)) rfl ?_ ?_ ?_); rfl; rfl))
    refine SX.drawnG (ζ := RuleG) 11 (fun d p => [⟨g3, [.slice q.a q.l.length q.c], 76⟩, ⟨g2, [.slice none 0 0], 76⟩] ++ (bif d 3 then [⟨p.g1, ([-1, 0, 100, 640, 1000] : List Int).map (.int .i64), 3⟩] else []) ++ (bif d 10 then [⟨p.g2, (Rule.mk p.n0 p.n1 p.n2).cells, 152⟩] else [])) (fun _ _ => [q.o]) (fun _ _ => [])
      [(3, fun p v => v = .slice (some ⟨p.g1, 0, none⟩) 5 5), (4, fun p v => v = .int .i64 p.n0), (6, fun p v => v = .int .i64 p.n1), (8, fun p v => v = .int .i64 p.n2), (10, fun p v => v = .slice (some ⟨p.g2, 0, none⟩) 1 1)] default (by kernel_rfl) (by kernel_rfl) (by kernel_rfl) ⟨rfl, rfl, rfl⟩ ?_
    repeat (first | (refine SXg.v0 (fun dn x p ha hK => (qaw 0 rfl rfl rfl)) rfl (fun _ => rfl) rfl (fun _ _ => ⟨rfl, rfl, rfl⟩) rfl ?_) | (refine SXg.v0 (fun dn x p ha hK => (qae rfl)) rfl (fun _ => rfl) rfl (fun _ _ => ⟨rfl, rfl, rfl⟩) rfl ?_) | (refine SXg.v0 (fun dn x p ha hK => (qai rfl)) rfl (fun _ => rfl) rfl (fun _ _ => ⟨rfl, rfl, rfl⟩) rfl ?_))
    refine SXg.l rfl (fun _ => rfl) rfl (fun dn x p ha hk => ?_) ?_
    · have d10 : dn 10 = false := ha.later 10 (by kernel_rfl)
      have u10 : upd dn 3 10 = false := d10
      have d3 : dn 3 = false := ha.not
      have u3 : upd dn 3 3 = true := rfl
      have u4 : upd dn 3 4 = dn 4 := rfl
      have u6 : upd dn 3 6 = dn 6 := rfl
      have u8 : upd dn 3 8 = dn 8 := rfl
      simp only [d10, d3, cond_true, cond_false, List.append_nil, List.nil_append]
      refine SXl.lit (cells := ([-1, 0, 100, 640, 1000] : List Int).map (.int .i64)) (z := .int .i64 0) rfl rfl rfl (by decide) (by kernel_rfl) rfl (fun g => ?_)
      refine qaj (SQ.g { p with g1 := g } _ rfl (fun w hl => ?_) ⟨fun _ => rfl, hk.2.1, hk.2.2.1, hk.2.2.2.1, hk.2.2.2.2.1, trivial⟩)
      simp only [u10, u3, u4, u6, u8, cond_true, cond_false, List.append_nil, List.nil_append]
      exact hl.blkLast
    skip
    refine SXg.l rfl (fun _ => rfl) rfl (fun dn x p ha hk => ?_) ?_
    · have d3 : dn 3 = true := ha.done 3 (by kernel_rfl)
      have u3 : upd dn 4 3 = true := d3
      have d10 : dn 10 = false := ha.later 10 (by kernel_rfl)
      have u10 : upd dn 4 10 = false := d10
      have d6 : dn 6 = false := ha.later 6 (by kernel_rfl)
      have u6 : upd dn 4 6 = false := d6
      have d8 : dn 8 = false := ha.later 8 (by kernel_rfl)
      have u8 : upd dn 4 8 = false := d8
      have d4 : dn 4 = false := ha.not
      have u4 : upd dn 4 4 = true := rfl
      simp only [d3, d10, d6, d8, d4, cond_true, cond_false, List.append_nil, List.nil_append]
      have x3 : x 3 = .slice (some ⟨p.g1, 0, none⟩) 5 5 := hk.1 d3
      simp only [x3]
      refine qaB (ξ := Int) (v := fun x => .int .i64 x) rfl rfl rfl (fun x => x ∈ ([-1, 0, 100, 640, 1000] : List Int)) (fun w hl => pick_g (l := [-1, 0, 100, 640, 1000]) hl (by simp) (by decide) (by decide)) (fun y hy => ?_)
      refine qaj (SQ.g { p with n0 := y } _ rfl (fun w hl => ?_) ⟨hk.1, fun _ => rfl, hk.2.2.1, hk.2.2.2.1, hk.2.2.2.2.1, trivial⟩)
      simp only [u3, u10, u6, u8, u4, cond_true, cond_false, List.append_nil, List.nil_append]
      exact hl
    repeat ((refine SXg.v0 (fun dn x p ha hK => (qai rfl)) rfl (fun _ => rfl) rfl (fun _ _ => ⟨rfl, rfl, rfl⟩) rfl ?_))
    refine SXg.l rfl (fun _ => rfl) rfl (fun dn x p ha hk => ?_) ?_
    · have d3 : dn 3 = true := ha.done 3 (by kernel_rfl)
      have u3 : upd dn 6 3 = true := d3
      have d4 : dn 4 = true := ha.done 4 (by kernel_rfl)
      have u4 : upd dn 6 4 = true := d4
      have d10 : dn 10 = false := ha.later 10 (by kernel_rfl)
      have u10 : upd dn 6 10 = false := d10
      have d8 : dn 8 = false := ha.later 8 (by kernel_rfl)
      have u8 : upd dn 6 8 = false := d8
      have d6 : dn 6 = false := ha.not
      have u6 : upd dn 6 6 = true := rfl
      simp only [d3, d4, d10, d8, d6, cond_true, cond_false, List.append_nil, List.nil_append]
      refine qaB (ξ := Int) (v := fun x => .int .i64 x) rfl rfl rfl (fun x => 0 ≤ x ∧ x < 1500) (fun w hl => below_d B gc w hl.inv 1500 (by decide) (by decide)) (fun y hy => ?_)
      refine qaj (SQ.g { p with n1 := y } _ rfl (fun w hl => ?_) ⟨hk.1, hk.2.1, fun _ => rfl, hk.2.2.2.1, hk.2.2.2.2.1, trivial⟩)
      simp only [u3, u4, u10, u8, u6, cond_true, cond_false, List.append_nil, List.nil_append]
      exact hl
    repeat ((refine SXg.v0 (fun dn x p ha hK => (qai rfl)) rfl (fun _ => rfl) rfl (fun _ _ => ⟨rfl, rfl, rfl⟩) rfl ?_))
    refine SXg.l rfl (fun _ => rfl) rfl (fun dn x p ha hk => ?_) ?_
    · have d3 : dn 3 = true := ha.done 3 (by kernel_rfl)
      have u3 : upd dn 8 3 = true := d3
      have d4 : dn 4 = true := ha.done 4 (by kernel_rfl)
      have u4 : upd dn 8 4 = true := d4
      have d6 : dn 6 = true := ha.done 6 (by kernel_rfl)
      have u6 : upd dn 8 6 = true := d6
      have d10 : dn 10 = false := ha.later 10 (by kernel_rfl)
      have u10 : upd dn 8 10 = false := d10
      have d8 : dn 8 = false := ha.not
      have u8 : upd dn 8 8 = true := rfl
      simp only [d3, d4, d6, d10, d8, cond_true, cond_false, List.append_nil, List.nil_append]
      refine qaB (ξ := Int) (v := fun x => .int .i64 x) rfl rfl rfl (fun x => 0 ≤ x ∧ x < 600) (fun w hl => below_d B gc w hl.inv 600 (by decide) (by decide)) (fun y hy => ?_)
      refine qaj (SQ.g { p with n2 := y } _ rfl (fun w hl => ?_) ⟨hk.1, hk.2.1, hk.2.2.1, fun _ => rfl, hk.2.2.2.2.1, trivial⟩)
      simp only [u3, u4, u6, u10, u8, cond_true, cond_false, List.append_nil, List.nil_append]
      exact hl
    skip
    refine SXg.v [4, 6, 8] (fun x => .agg [x 4, x 6, x 8].toArray) (by kernel_rfl) (fun x y h => by rw [h 4 (by simp), h 6 (by simp), h 8 (by simp)]) (fun dn x p ha hk => ?_) rfl (fun _ => rfl) rfl (fun _ _ => ⟨rfl, rfl, rfl⟩) rfl ?_
    · have x4 : x 4 = .int .i64 p.n0 := hk.2.1 (ha.done 4 (by kernel_rfl))
      have x6 : x 6 = .int .i64 p.n1 := hk.2.2.1 (ha.done 6 (by kernel_rfl))
      have x8 : x 8 = .int .i64 p.n2 := hk.2.2.2.1 (ha.done 8 (by kernel_rfl))
      simp only [x4, x6, x8]
      exact OpW.build (vals := [(0, .int .i64 p.n0), (1, .int .i64 p.n1), (2, .int .i64 p.n2)]) rfl (by kernel_rfl)
    refine SXg.l rfl (fun _ => rfl) rfl (fun dn x p ha hk => ?_) ?_
    · have d3 : dn 3 = true := ha.done 3 (by kernel_rfl)
      have u3 : upd dn 10 3 = true := d3
      have d4 : dn 4 = true := ha.done 4 (by kernel_rfl)
      have u4 : upd dn 10 4 = true := d4
      have d6 : dn 6 = true := ha.done 6 (by kernel_rfl)
      have u6 : upd dn 10 6 = true := d6
      have d8 : dn 8 = true := ha.done 8 (by kernel_rfl)
      have u8 : upd dn 10 8 = true := d8
      have d10 : dn 10 = false := ha.not
      have u10 : upd dn 10 10 = true := rfl
      simp only [d3, d4, d6, d8, d10, cond_true, cond_false, List.append_nil, List.nil_append]
      have x4 : x 4 = .int .i64 p.n0 := hk.2.1 d4
      have x6 : x 6 = .int .i64 p.n1 := hk.2.2.1 d6
      have x8 : x 8 = .int .i64 p.n2 := hk.2.2.2.1 d8
      simp only [x4, x6, x8]
      refine SXl.litRow1 (sz := 3) (r := (Rule.mk p.n0 p.n1 p.n2).cells) rfl rfl rfl rfl rfl (by decide) (by decide) (fun g => ?_)
      refine qaj (SQ.g { p with g2 := g } _ rfl (fun w hl => ?_) ⟨hk.1, hk.2.1, hk.2.2.1, hk.2.2.2.1, fun _ => rfl, trivial⟩)
      simp only [u3, u4, u6, u8, u10, cond_true, cond_false, List.append_nil, List.nil_append]
      exact hl.blkLast
    refine SXg.tail (fun xq pq hkq => ?_)
    have x10 : xq 10 = .slice (some ⟨pq.g2, 0, none⟩) 1 1 := hkq.2.2.2.2.1 rfl
    simp only [x10]
    refine l_append ?_
    refine SXl.append 0 3 rfl rfl rfl rfl rfl rfl rfl rfl (by omega) (by omega) (fun a' c' => ?_)
    repeat (first | refine qaj ?_ | refine qaf ?_ | refine qad ?_ | (refine qak ?_; (refine qac (qae rfl) rfl ?_ ?_ ?_); rfl; rfl) | (refine qao ?_; (refine qac (qai rfl) rfl ?_ ?_ ?_); rfl; rfl) | (refine qal ?_; (refine qac (qag rfl) rfl ?_ ?_ ?_); rfl; rfl) | (refine l_add ?_; (refine qac (OpW.succ rfl rfl (by omega)) rfl ?_ ?_ ?_); rfl; rfl) | (refine qay ?_; first | ((first | refine qah 0 ?_ rfl rfl rfl rfl rfl rfl ?_ | refine qah 1 ?_ rfl rfl rfl rfl rfl rfl ?_ | refine qah 2 ?_ rfl rfl rfl rfl rfl rfl ?_); rfl; simp only [List.set_cons_zero, List.set_cons_succ]) | ((first | refine qaa 0 ?_ rfl rfl rfl rfl rfl rfl rfl ?_ | refine qaa 1 ?_ rfl rfl rfl rfl rfl rfl rfl ?_ | refine qaa 2 ?_ rfl rfl rfl rfl rfl rfl rfl ?_); rfl; simp only [List.set_cons_zero, List.set_cons_succ]) | ((first | refine qab 0 ?_ rfl rfl rfl rfl rfl rfl rfl ?_ | refine qab 1 ?_ rfl rfl rfl rfl rfl rfl rfl ?_ | refine qab 2 ?_ rfl rfl rfl rfl rfl rfl rfl ?_); rfl; simp only [over, List.set_cons_zero, List.set_cons_succ])) | refine qar ?_)
    have hO : (⟨.slice a' (q.l.length + 1) c', 152, 3, q.l.length + 1, (q.l.map Rule.cells).flatten ++ (Rule.mk pq.n0 pq.n1 pq.n2).cells⟩ : Own) = RuleQ.o ⟨q.l ++ [⟨pq.n0, pq.n1, pq.n2⟩], a', c'⟩ := by
      unfold RuleQ.o
      rw [List.length_append, List.map_append, List.flatten_append]
      simp
    refine SQ.round3 (i + 1) ⟨q.l ++ [⟨pq.n0, pq.n1, pq.n2⟩], a', c'⟩ () ⟨by omega, by simp [hn]⟩ (by omega) ?_ (fun w hl => ?_)
    · (repeat (first | exact subF_nil _ | (refine subF_cons rfl ?_) | (refine subF_consv rfl (by rfl) ?_)))
    · have h2 := hl.blkTake 2
      rw [← hO, List.length_append]
      exact h2
theorem rules_addr {base : Nat} {w : World} {q : RuleQ} (h : Owns base w [q.o]) (h0 : 0 < q.l.length) : ∃ g, q.a = some ⟨g, 0, none⟩ := by
  have h1 := h.row _ (.head _)
  simp only [RuleQ.o] at h1
  rcases h1.2 with ⟨_, hn⟩ | ⟨g, cap, cur, hv, _⟩
  · omega
  · injection hv with ha _ _
    exact ⟨g, ha⟩
set_option maxRecDepth 100000 in
set_option maxHeartbeats 16000000 in
theorem l09Any_o (B gc : Nat) (w : World) (hc : Cur B 141 w gc) :
    Calls Try.prog 91 #[.pointer (some ⟨gc, 0, none⟩)] w (DrewO RuleQ 141 B gc RuleQ.v (fun q => [q.o]) (fun q => q.l.length ≤ 7) w) := by
  refine calls_draw (as_ := [.pointer (some ⟨gc, 0, none⟩)]) hc Try.func91 rfl rfl (fun a h1 h2 h3 => ((Fr.nil h1 h2).arg (h3 0 _ rfl))) ?_
  repeat (first | refine qan ?_ | refine qaj ?_ | refine qaf ?_ | refine qad ?_ | (refine qao ?_; (refine qac (qai rfl) rfl ?_ ?_ ?_); rfl; rfl) | (refine qaR ?_; refine SXl.alloc ?_ ?_ (fun g => ?_); rfl; rfl))
  revert g; intro g2
  refine qat ?_
  refine SXl.drawOJ rfl rfl rfl (fun w hl => l09Table_o B gc w hl.inv) (fun q hq => ?_)
  repeat (first | refine qan ?_ | refine qaj ?_ | refine qaf ?_ | refine qad ?_ | (refine qao ?_; (refine qac (qai rfl) rfl ?_ ?_ ?_); rfl; rfl) | (refine qaR ?_; refine SXl.alloc ?_ ?_ (fun g => ?_); rfl; rfl) | (refine qay ?_; first | ((first | refine qah 0 ?_ rfl rfl rfl rfl rfl rfl ?_ | refine qah 1 ?_ rfl rfl rfl rfl rfl rfl ?_ | refine qah 2 ?_ rfl rfl rfl rfl rfl rfl ?_); rfl; simp only [List.set_cons_zero, List.set_cons_succ]) | ((first | refine qaa 0 ?_ rfl rfl rfl rfl rfl rfl rfl ?_ | refine qaa 1 ?_ rfl rfl rfl rfl rfl rfl rfl ?_ | refine qaa 2 ?_ rfl rfl rfl rfl rfl rfl rfl ?_); rfl; simp only [List.set_cons_zero, List.set_cons_succ]) | ((first | refine qab 0 ?_ rfl rfl rfl rfl rfl rfl rfl ?_ | refine qab 1 ?_ rfl rfl rfl rfl rfl rfl rfl ?_ | refine qab 2 ?_ rfl rfl rfl rfl rfl rfl rfl ?_); rfl; simp only [over, List.set_cons_zero, List.set_cons_succ])))
  revert g; intro g3
  refine qat ?_
  refine qaB (ξ := Int) (v := fun x : Int => .int .i64 x) rfl rfl rfl (fun x => 0 ≤ x ∧ x < 10) (fun w hl => below_d B gc w hl.inv 10 (by decide) (by decide)) (fun y hy => ?_)
  refine SXl.know (fun w hl => rules_addr (q := q) hl.owns (by omega)) (fun ⟨gt, hgt⟩ => ?_)
  obtain ⟨ql, qa, qc⟩ := q
  simp only at hgt hq
  subst hgt
  change SXl _ _ _ _ _ [⟨g3, [.slice (some ⟨gt, 0, none⟩) ql.length qc], 76⟩, ⟨g2, [.slice none 0 0], 76⟩] [RuleQ.o ⟨ql, some ⟨gt, 0, none⟩, qc⟩] [] _ _ _
  obtain ⟨r0, rs, rfl⟩ : ∃ r0 rs, ql = r0 :: rs := by
    cases ql with
    | nil => simp at hq
    | cons r0 rs => exact ⟨r0, rs, rfl⟩
  by_cases y0 : y = 0
  · repeat (first | refine qan ?_ | refine qaj ?_ | refine qaf ?_ | refine qad ?_ | refine SX.block ?_ | refine qaq rfl ?_ | (refine qal ?_; (refine qac (qag rfl) rfl ?_ ?_ ?_); rfl; rfl) | (refine l_eql ?_; (refine qac (qaQ rfl rfl (by omega)) rfl ?_ ?_ ?_); rfl; rfl))
    refine SX.drawnG (ζ := Int) 4 (fun _ _ => [⟨g3, [.slice (some ⟨gt, 0, none⟩) (r0 :: rs).length qc], 76⟩, ⟨g2, [.slice none 0 0], 76⟩]) (fun _ _ => [RuleQ.o ⟨r0 :: rs, some ⟨gt, 0, none⟩, qc⟩]) (fun _ _ => []) [(3, fun n v => v = .int .i64 n)] 0 (by kernel_rfl) (by kernel_rfl) (by kernel_rfl) ⟨rfl, rfl, rfl⟩ ?_
    repeat (first | (refine SXg.v0 (fun dn x p ha hK => (qaw 0 rfl rfl rfl)) rfl (fun _ => rfl) rfl (fun _ _ => ⟨rfl, rfl, rfl⟩) rfl ?_) | (refine SXg.v0 (fun dn x p ha hK => (qae rfl)) rfl (fun _ => rfl) rfl (fun _ _ => ⟨rfl, rfl, rfl⟩) rfl ?_) | (refine SXg.v0 (fun dn x p ha hK => (qai rfl)) rfl (fun _ => rfl) rfl (fun _ _ => ⟨rfl, rfl, rfl⟩) rfl ?_))
    refine SXg.l rfl (fun _ => rfl) rfl (fun dn x p ha hk => ?_) ?_
    · refine qaB (ξ := Int) (v := fun x => .int .i64 x) rfl rfl rfl (fun x => I64 x) (fun w hl => l02Int_d B gc w hl.inv) (fun n hn => ?_)
      exact qaj (SQ.g n _ rfl (fun w hl => hl) ⟨fun _ => rfl, trivial⟩)
    refine SXg.tail (fun xq n hkq => ?_)
    have x3 : xq 3 = .int .i64 n := hkq.1 rfl
    simp only [x3]
    repeat (first | (refine qaM ?_; (refine qac ((qaJ (i := 0) (Nat.succ_pos _) rfl rfl)) rfl ?_ ?_ ?_); rfl; rfl) | (refine qak ?_; (refine qac (qae rfl) rfl ?_ ?_ ?_); rfl; rfl))
    refine qay ?_
    refine SXl.storeOwn (O' := [RuleQ.o ⟨{ r0 with room := n } :: rs, some ⟨gt, 0, none⟩, qc⟩]) 0 rfl rfl rfl rfl (by simp [Rule.cells]) rfl rfl ?_
    repeat (first | refine qan ?_ | refine qaj ?_ | refine qaf ?_ | refine qad ?_ | (refine qau ?_; (refine qac (qam 0 rfl rfl rfl) rfl ?_ ?_ ?_); rfl; rfl) | (refine qay ?_; first | ((first | refine qah 0 ?_ rfl rfl rfl rfl rfl rfl ?_ | refine qah 1 ?_ rfl rfl rfl rfl rfl rfl ?_ | refine qah 2 ?_ rfl rfl rfl rfl rfl rfl ?_); rfl; simp only [List.set_cons_zero, List.set_cons_succ]) | ((first | refine qaa 0 ?_ rfl rfl rfl rfl rfl rfl rfl ?_ | refine qaa 1 ?_ rfl rfl rfl rfl rfl rfl rfl ?_ | refine qaa 2 ?_ rfl rfl rfl rfl rfl rfl rfl ?_); rfl; simp only [List.set_cons_zero, List.set_cons_succ]) | ((first | refine qab 0 ?_ rfl rfl rfl rfl rfl rfl rfl ?_ | refine qab 1 ?_ rfl rfl rfl rfl rfl rfl rfl ?_ | refine qab 2 ?_ rfl rfl rfl rfl rfl rfl rfl ?_); rfl; simp only [over, List.set_cons_zero, List.set_cons_succ])) | refine qaA ?_ | refine qar ?_)
    refine qaK 1 rfl rfl rfl rfl (fun w' hl => ⟨⟨{ r0 with room := n } :: rs, some ⟨gt, 0, none⟩, qc⟩, rfl, by simp at hq ⊢; omega, hl.owns, hl.mod, hl.inv⟩)
  by_cases y1 : y = 1
  · repeat (first | refine qan ?_ | refine qaj ?_ | refine qaf ?_ | refine qad ?_ | refine SX.block ?_ | refine qaq rfl ?_ | refine qas rfl ?_ | (refine qal ?_; (refine qac (qag rfl) rfl ?_ ?_ ?_); rfl; rfl) | (refine l_eql ?_; (first | refine qac (qaQ rfl rfl (by omega)) rfl ?_ ?_ ?_ | refine qac (qaP rfl rfl (by omega)) rfl ?_ ?_ ?_); rfl; rfl))
    refine SX.drawnG (ζ := Int) 4 (fun _ _ => [⟨g3, [.slice (some ⟨gt, 0, none⟩) (r0 :: rs).length qc], 76⟩, ⟨g2, [.slice none 0 0], 76⟩]) (fun _ _ => [RuleQ.o ⟨r0 :: rs, some ⟨gt, 0, none⟩, qc⟩]) (fun _ _ => []) [(3, fun n v => v = .int .i64 n)] 0 (by kernel_rfl) (by kernel_rfl) (by kernel_rfl) ⟨rfl, rfl, rfl⟩ ?_
    repeat (first | (refine SXg.v0 (fun dn x p ha hK => (qaw 0 rfl rfl rfl)) rfl (fun _ => rfl) rfl (fun _ _ => ⟨rfl, rfl, rfl⟩) rfl ?_) | (refine SXg.v0 (fun dn x p ha hK => (qae rfl)) rfl (fun _ => rfl) rfl (fun _ _ => ⟨rfl, rfl, rfl⟩) rfl ?_) | (refine SXg.v0 (fun dn x p ha hK => (qai rfl)) rfl (fun _ => rfl) rfl (fun _ _ => ⟨rfl, rfl, rfl⟩) rfl ?_))
    refine SXg.l rfl (fun _ => rfl) rfl (fun dn x p ha hk => ?_) ?_
    · refine qaB (ξ := Int) (v := fun x => .int .i64 x) rfl rfl rfl (fun x => I64 x) (fun w hl => l02Int_d B gc w hl.inv) (fun n hn => ?_)
      exact qaj (SQ.g n _ rfl (fun w hl => hl) ⟨fun _ => rfl, trivial⟩)
    refine SXg.tail (fun xq n hkq => ?_)
    have x3 : xq 3 = .int .i64 n := hkq.1 rfl
    simp only [x3]
    repeat (first | (refine qaM ?_; (refine qac ((qaJ (i := 0) (Nat.succ_pos _) rfl rfl)) rfl ?_ ?_ ?_); rfl; rfl) | (refine qak ?_; (refine qac (qae rfl) rfl ?_ ?_ ?_); rfl; rfl))
    refine qay ?_
    refine SXl.storeOwn (O' := [RuleQ.o ⟨{ r0 with wide := n } :: rs, some ⟨gt, 0, none⟩, qc⟩]) 0 rfl rfl rfl rfl (by simp [Rule.cells]) rfl rfl ?_
    repeat (first | refine qan ?_ | refine qaj ?_ | refine qaf ?_ | refine qad ?_ | (refine qau ?_; (refine qac (qam 0 rfl rfl rfl) rfl ?_ ?_ ?_); rfl; rfl) | (refine qay ?_; first | ((first | refine qah 0 ?_ rfl rfl rfl rfl rfl rfl ?_ | refine qah 1 ?_ rfl rfl rfl rfl rfl rfl ?_ | refine qah 2 ?_ rfl rfl rfl rfl rfl rfl ?_); rfl; simp only [List.set_cons_zero, List.set_cons_succ]) | ((first | refine qaa 0 ?_ rfl rfl rfl rfl rfl rfl rfl ?_ | refine qaa 1 ?_ rfl rfl rfl rfl rfl rfl rfl ?_ | refine qaa 2 ?_ rfl rfl rfl rfl rfl rfl rfl ?_); rfl; simp only [List.set_cons_zero, List.set_cons_succ]) | ((first | refine qab 0 ?_ rfl rfl rfl rfl rfl rfl rfl ?_ | refine qab 1 ?_ rfl rfl rfl rfl rfl rfl rfl ?_ | refine qab 2 ?_ rfl rfl rfl rfl rfl rfl rfl ?_); rfl; simp only [over, List.set_cons_zero, List.set_cons_succ])) | refine qaA ?_ | refine qar ?_)
    refine qaK 1 rfl rfl rfl rfl (fun w' hl => ⟨⟨{ r0 with wide := n } :: rs, some ⟨gt, 0, none⟩, qc⟩, rfl, by simp at hq ⊢; omega, hl.owns, hl.mod, hl.inv⟩)
  by_cases y2 : y = 2
  · repeat (first | refine qan ?_ | refine qaj ?_ | refine qaf ?_ | refine qad ?_ | refine SX.block ?_ | refine qaq rfl ?_ | refine qas rfl ?_ | (refine qal ?_; (refine qac (qag rfl) rfl ?_ ?_ ?_); rfl; rfl) | (refine l_eql ?_; (first | refine qac (qaQ rfl rfl (by omega)) rfl ?_ ?_ ?_ | refine qac (qaP rfl rfl (by omega)) rfl ?_ ?_ ?_); rfl; rfl))
    refine qaN ?_
    refine SXl.lit0R rfl rfl (fun _ h => h) (fun g4 => ?_)
    repeat (first | refine qan ?_ | refine qaj ?_ | refine qaf ?_ | refine qad ?_ | (refine qau ?_; (refine qac (qam 0 rfl rfl rfl) rfl ?_ ?_ ?_); rfl; rfl) | (refine qak ?_; (refine qac (qae rfl) rfl ?_ ?_ ?_); rfl; rfl) | (refine qay ?_; first | ((first | refine qah 0 ?_ rfl rfl rfl rfl rfl rfl ?_ | refine qah 1 ?_ rfl rfl rfl rfl rfl rfl ?_ | refine qah 2 ?_ rfl rfl rfl rfl rfl rfl ?_); rfl; simp only [List.set_cons_zero, List.set_cons_succ]) | ((first | refine qaa 0 ?_ rfl rfl rfl rfl rfl rfl rfl ?_ | refine qaa 1 ?_ rfl rfl rfl rfl rfl rfl rfl ?_ | refine qaa 2 ?_ rfl rfl rfl rfl rfl rfl rfl ?_); rfl; simp only [List.set_cons_zero, List.set_cons_succ]) | ((first | refine qab 0 ?_ rfl rfl rfl rfl rfl rfl rfl ?_ | refine qab 1 ?_ rfl rfl rfl rfl rfl rfl rfl ?_ | refine qab 2 ?_ rfl rfl rfl rfl rfl rfl rfl ?_); rfl; simp only [over, List.set_cons_zero, List.set_cons_succ])) | refine qaA ?_ | refine qar ?_)
    refine qaK 1 rfl rfl rfl rfl (fun w' hl => ⟨⟨[], some ⟨g4, 0, none⟩, 0⟩, rfl, by simp, Owns.left (os := [_]) hl.owns, hl.mod, hl.inv⟩)
  by_cases y3 : y = 3
  rotate_left
  · repeat (first | refine qan ?_ | refine qaj ?_ | refine qaf ?_ | refine qad ?_ | refine SX.block ?_ | refine qaC ?_ | refine qas rfl ?_ | (refine qau ?_; (refine qac (qam 0 rfl rfl rfl) rfl ?_ ?_ ?_); rfl; rfl) | (refine qal ?_; (refine qac (qag rfl) rfl ?_ ?_ ?_); rfl; rfl) | (refine l_eql ?_; (refine qac (qaP rfl rfl (by omega)) rfl ?_ ?_ ?_); rfl; rfl) | (refine qay ?_; first | ((first | refine qah 0 ?_ rfl rfl rfl rfl rfl rfl ?_ | refine qah 1 ?_ rfl rfl rfl rfl rfl rfl ?_ | refine qah 2 ?_ rfl rfl rfl rfl rfl rfl ?_); rfl; simp only [List.set_cons_zero, List.set_cons_succ]) | ((first | refine qaa 0 ?_ rfl rfl rfl rfl rfl rfl rfl ?_ | refine qaa 1 ?_ rfl rfl rfl rfl rfl rfl rfl ?_ | refine qaa 2 ?_ rfl rfl rfl rfl rfl rfl rfl ?_); rfl; simp only [List.set_cons_zero, List.set_cons_succ]) | ((first | refine qab 0 ?_ rfl rfl rfl rfl rfl rfl rfl ?_ | refine qab 1 ?_ rfl rfl rfl rfl rfl rfl rfl ?_ | refine qab 2 ?_ rfl rfl rfl rfl rfl rfl rfl ?_); rfl; simp only [over, List.set_cons_zero, List.set_cons_succ])) | refine qaA ?_ | refine qar ?_)
    refine qaK 1 rfl rfl rfl rfl (fun w' hl => ⟨⟨r0 :: rs, some ⟨gt, 0, none⟩, qc⟩, rfl, (show (r0 :: rs).length ≤ 7 by omega), hl.owns, hl.mod, hl.inv⟩)
  repeat (first | refine qan ?_ | refine qaj ?_ | refine qaf ?_ | refine qad ?_ | refine SX.block ?_ | refine qaq rfl ?_ | refine qas rfl ?_ | (refine qal ?_; (refine qac (qag rfl) rfl ?_ ?_ ?_); rfl; rfl) | (refine l_eql ?_; (first | refine qac (qaQ rfl rfl (by omega)) rfl ?_ ?_ ?_ | refine qac (qaP rfl rfl (by omega)) rfl ?_ ?_ ?_); rfl; rfl))
  refine SX.loop3 (fun (q : RuleQ) (_ _ : Unit) => q.l.length ≤ 7) (fun q _ _ => 7 - q.l.length) (fun q _ _ => [⟨g3, [.slice q.a q.l.length q.c], 76⟩, ⟨g2, [.slice none 0 0], 76⟩]) (fun q _ _ => [q.o]) (fun _ _ _ => []) (fun _ _ _ => [(0, .pointer (some ⟨gc, 0, none⟩)), (2, .pointer (some ⟨g2, 0, none⟩)), (3, .pointer (some ⟨g3, 0, none⟩))]) ⟨r0 :: rs, some ⟨gt, 0, none⟩, qc⟩ () () (by simp only; omega) ?_ (fun w hl => hl) ?_
  · (repeat (first | exact subF_nil _ | (refine subF_cons rfl ?_) | (refine subF_consv rfl (by rfl) ?_)))
  rintro q _ _ hn
  repeat (refine qan ?_)
  refine SX.drawnG (ζ := Int) 7 (fun _ _ => [⟨g3, [.slice q.a q.l.length q.c], 76⟩, ⟨g2, [.slice none 0 0], 76⟩]) (fun _ _ => [q.o]) (fun _ _ => []) [(4, fun n v => v = .int .i64 n ∧ 0 ≤ n ∧ n < 2)] 0 (by kernel_rfl) (by kernel_rfl) (by kernel_rfl) ⟨rfl, rfl, rfl⟩ ?_
  repeat (first | (refine SXg.v0 (fun dn x p ha hK => (qaw 0 rfl rfl rfl)) rfl (fun _ => rfl) rfl (fun _ _ => ⟨rfl, rfl, rfl⟩) rfl ?_) | (refine SXg.v0 (fun dn x p ha hK => (qae rfl)) rfl (fun _ => rfl) rfl (fun _ _ => ⟨rfl, rfl, rfl⟩) rfl ?_) | (refine SXg.v0 (fun dn x p ha hK => (qai rfl)) rfl (fun _ => rfl) rfl (fun _ _ => ⟨rfl, rfl, rfl⟩) rfl ?_) | (refine SXg.v0 (fun dn x p ha hK => (OpW.len rfl)) rfl (fun _ => rfl) rfl (fun _ _ => ⟨rfl, rfl, rfl⟩) rfl ?_))
  refine SXg.l rfl (fun _ => rfl) rfl (fun dn x p ha hk => ?_) ?_
  · refine qaB (ξ := Int) (v := fun x => .int .i64 x) rfl rfl rfl (fun x => 0 ≤ x ∧ x < 2) (fun w hl => below_d B gc w hl.inv 2 (by decide) (by decide)) (fun n hn => ?_)
    exact qaj (SQ.g n _ rfl (fun w hl => hl) ⟨fun _ => ⟨rfl, hn⟩, trivial⟩)
  refine SXg.v [4] (fun x => .int .i64 (6 + intOf (x 4))) (by kernel_rfl) (fun x y h => by rw [h 4 (by simp)]) (fun dn x p ha hk => ?_) rfl (fun _ => rfl) rfl (fun _ _ => ⟨rfl, rfl, rfl⟩) rfl ?_
  · obtain ⟨x4, h4⟩ : x 4 = .int .i64 p ∧ 0 ≤ p ∧ p < 2 := hk.1 (ha.done 4 (by kernel_rfl))
    simp only [x4, intOf]
    exact OpW.addi rfl rfl (by omega) (by omega)
  refine SXg.v [4] (fun x => .bool (decide ((q.l.length : Int) < 6 + intOf (x 4)))) (by kernel_rfl) (fun x y h => by rw [h 4 (by simp)]) (fun dn x p ha hk => OpW.lss rfl rfl) rfl (fun _ => rfl) rfl (fun _ _ => ⟨rfl, rfl, rfl⟩) rfl ?_
  refine SXg.nilW (fun xq n hkq => ?_)
  obtain ⟨x4, h4⟩ : xq 4 = .int .i64 n ∧ 0 ≤ n ∧ n < 2 := hkq.1 rfl
  simp only [x4, intOf]
  by_cases hlt : (q.l.length : Int) < 6 + n
  · rw [decide_eq_true hlt]
    repeat (first | refine qaf ?_ | refine qad ?_ | refine SX.block ?_ | refine qaC ?_ | refine qaq rfl ?_ | (refine l_build ?_; (refine qac ((OpW.build (vals := []) (cells := (Rule.mk 0 0 0).cells) rfl (by kernel_rfl))) rfl ?_ ?_ ?_); rfl; rfl) | (refine qau ?_; (refine qac (qaw 0 rfl rfl rfl) rfl ?_ ?_ ?_); rfl; rfl) | (refine qak ?_; (refine qac (qae rfl) rfl ?_ ?_ ?_); rfl; rfl))
    refine qaN ?_
    refine SXl.litRow1 (sz := 3) (r := (Rule.mk 0 0 0).cells) rfl rfl rfl rfl rfl (by decide) (by decide) (fun g5 => ?_)
    repeat (first | refine qaj ?_ | (refine qak ?_; (refine qac (qae rfl) rfl ?_ ?_ ?_); rfl; rfl) | (refine qay ?_; first | ((first | refine qah 0 ?_ rfl rfl rfl rfl rfl rfl ?_ | refine qah 1 ?_ rfl rfl rfl rfl rfl rfl ?_ | refine qah 2 ?_ rfl rfl rfl rfl rfl rfl ?_); rfl; simp only [List.set_cons_zero, List.set_cons_succ]) | ((first | refine qaa 0 ?_ rfl rfl rfl rfl rfl rfl rfl ?_ | refine qaa 1 ?_ rfl rfl rfl rfl rfl rfl rfl ?_ | refine qaa 2 ?_ rfl rfl rfl rfl rfl rfl rfl ?_); rfl; simp only [List.set_cons_zero, List.set_cons_succ]) | ((first | refine qab 0 ?_ rfl rfl rfl rfl rfl rfl rfl ?_ | refine qab 1 ?_ rfl rfl rfl rfl rfl rfl rfl ?_ | refine qab 2 ?_ rfl rfl rfl rfl rfl rfl rfl ?_); rfl; simp only [over, List.set_cons_zero, List.set_cons_succ])) | (refine l_append ?_; first | (refine SXl.append 0 0 rfl rfl rfl rfl rfl rfl rfl rfl (by omega) (by omega) (fun a c => ?_); simp only [List.set_cons_zero, List.set_cons_succ]) | (refine SXl.append 1 0 rfl rfl rfl rfl rfl rfl rfl rfl (by omega) (by omega) (fun a c => ?_); simp only [List.set_cons_zero, List.set_cons_succ])) | refine qar ?_)
    have hO : (⟨.slice a (q.l.length + 1) c, 152, 3, q.l.length + 1, (q.l.map Rule.cells).flatten ++ (Rule.mk 0 0 0).cells⟩ : Own) = RuleQ.o ⟨q.l ++ [⟨0, 0, 0⟩], a, c⟩ := by
      unfold RuleQ.o
      rw [List.length_append, List.map_append, List.flatten_append]
      simp
    refine SQ.round3 ⟨q.l ++ [⟨0, 0, 0⟩], a, c⟩ () () (by simp; omega) (by simp; omega) ?_ (fun w hl => ?_)
    · (repeat (first | exact subF_nil _ | (refine subF_cons rfl ?_) | (refine subF_consv rfl (by rfl) ?_)))
    · have h2 := hl.drop1
      rw [← hO, List.length_append]
      exact h2
  · rw [decide_eq_false hlt]
    repeat (first | refine qan ?_ | refine qaj ?_ | refine qaf ?_ | refine qad ?_ | refine qas rfl ?_ | (refine qau ?_; (refine qac (qam 0 rfl rfl rfl) rfl ?_ ?_ ?_); rfl; rfl) | (refine qay ?_; first | ((first | refine qah 0 ?_ rfl rfl rfl rfl rfl rfl ?_ | refine qah 1 ?_ rfl rfl rfl rfl rfl rfl ?_ | refine qah 2 ?_ rfl rfl rfl rfl rfl rfl ?_); rfl; simp only [List.set_cons_zero, List.set_cons_succ]) | ((first | refine qaa 0 ?_ rfl rfl rfl rfl rfl rfl rfl ?_ | refine qaa 1 ?_ rfl rfl rfl rfl rfl rfl rfl ?_ | refine qaa 2 ?_ rfl rfl rfl rfl rfl rfl rfl ?_); rfl; simp only [List.set_cons_zero, List.set_cons_succ]) | ((first | refine qab 0 ?_ rfl rfl rfl rfl rfl rfl rfl ?_ | refine qab 1 ?_ rfl rfl rfl rfl rfl rfl rfl ?_ | refine qab 2 ?_ rfl rfl rfl rfl rfl rfl rfl ?_); rfl; simp only [over, List.set_cons_zero, List.set_cons_succ])) | refine qaA ?_ | refine SX.exit ?_ | refine qaF ?_ | refine qar ?_ | refine qaD ?_)
    refine qaK 1 rfl rfl rfl rfl (fun w' hl => ⟨q, rfl, by omega, hl.owns, hl.mod, hl.inv⟩)
end Go.Proofs.Ythffgbhphjkdeaa
namespace Go.Proofs.Ythffgbhphjkdeaa
open Go.RowKit
set_option linter.unusedVariables false
set_option linter.unusedSimpArgs false

/-- Two nodes changed. -/
def two (l : List Node) (n : Int) (x : Node) (kid : Int) (y : Node) : List Node := (l.set (n - 1).toNat x).set (kid - 1).toNat y
section
variable {l : List Node} {n kid : Int} {x y : Node}
theorem two_len : (two l n x kid y).length = l.length := by simp [two]
theorem two_n (hn : inB n 1 l.length = true) (hk : inB kid 1 l.length = true) (hne : kid ≠ n) : nodeAt (two l n x kid y) n = x := by
  unfold two
  rw [nodeAt_set_ne (by rw [List.length_set]; exact hk) (by rw [List.length_set]; exact hn) (fun e => hne e.symm), nodeAt_set_self hn]
theorem two_kid (hk : inB kid 1 l.length = true) : nodeAt (two l n x kid y) kid = y := by
  unfold two
  rw [nodeAt_set_self (by rw [List.length_set]; exact hk)]
theorem two_ne (hn : inB n 1 l.length = true) (hk : inB kid 1 l.length = true) {m : Int} (hm : inB m 1 l.length = true) (h1 : m ≠ n) (h2 : m ≠ kid) : nodeAt (two l n x kid y) m = nodeAt l m := by
  unfold two
  rw [nodeAt_set_ne (by rw [List.length_set]; exact hk) (by rw [List.length_set]; exact hm) h2, nodeAt_set_ne hn hm h1]
end
section
variable {l : List Node} {n kid : Int} {i : Nat} (hv : treeOk l = true) (hn : inB n 1 l.length = true) (hk : inB kid 1 l.length = true) (hne : kid ≠ n)
theorem putKid_two : putKid l n kid i = two l n { nodeAt l n with kids := (nodeAt l n).kids.take i ++ [kid] ++ (nodeAt l n).kids.drop i } kid { nodeAt l kid with up := n } := rfl
theorem putKid_len : (putKid l n kid i).length = l.length := two_len
include hn hk hne
theorem putKid_rest {m : Int} (hm : inB m 1 l.length = true) : (nodeAt (putKid l n kid i) m).style = (nodeAt l m).style ∧ (nodeAt (putKid l n kid i) m).measured = (nodeAt l m).measured ∧ (nodeAt (putKid l n kid i) m).rules = (nodeAt l m).rules := by
  rw [putKid_two]
  by_cases h2 : m = kid
  · subst h2; rw [two_kid hk]; exact ⟨rfl, rfl, rfl⟩
  · by_cases h1 : m = n
    · subst h1; rw [two_n hn hk hne]; exact ⟨rfl, rfl, rfl⟩
    · rw [two_ne hn hk hm h1 h2]; exact ⟨rfl, rfl, rfl⟩
variable (hu : isUnder l n kid = false) (h0 : (nodeAt l kid).up = 0)
include hv hu h0
variable (hm0 : (nodeAt l n).measured = false)
include hm0
end
/-- What InsertKid does where it does something. -/
theorem insertKid_done {l : List Node} {n kid i : Int} (h : (insertKid l n kid i).2 = 0) :
    treeOk l = true ∧ inB n 1 l.length = true ∧ inB kid 1 l.length = true ∧ kid ≠ n ∧ isUnder l n kid = false ∧ (nodeAt l kid).up = 0 ∧ (nodeAt l n).measured = false ∧ treeOk (putKid l n kid i.toNat) = true ∧ (insertKid l n kid i).1 = putKid l n kid i.toNat := by
  unfold insertKid at h ⊢
  split at h
  · exact absurd h (by simp)
  · rename_i h1
    rw [if_neg h1]
    split at h
    · exact absurd h (by simp)
    · rename_i h2
      rw [if_neg h2]
      split at h
      · exact absurd h (by simp)
      · rename_i h3
        rw [if_neg h3]
        split at h
        · exact absurd h (by simp)
        · rename_i h4
          rw [if_neg h4]
          split at h
          · rename_i h5
            rw [if_pos h5]
            simp only [Bool.or_eq_true, Bool.not_eq_true', not_or, Bool.not_eq_false, decide_eq_true_eq, Bool.not_eq_true, ne_eq, Classical.not_not] at h1 h2 h3 h4
            exact ⟨h1.1.1, h1.1.2, h1.2, h2.1, h2.2, h3.1, h4, h5, rfl⟩
          · exact absurd h (by simp)
theorem insertKid_same {l : List Node} {n kid i : Int} (h : (insertKid l n kid i).2 ≠ 0) : (insertKid l n kid i).1 = l := by
  unfold insertKid at h ⊢
  repeat' split
  all_goals first | rfl | skip
  all_goals simp_all
end Go.Proofs.Ythffgbhphjkdeaa
namespace Go.Proofs.Ythffgbhphjkdeaa
open Go.RowKit
set_option linter.unusedVariables false
set_option linter.unusedSimpArgs false

/-- A tree that is drawn: its lists are short. -/
structure Small (l : List Node) : Prop where
  len : l.length ≤ 14
  parts : ∀ x ∈ l, x.kids.length ≤ 14 ∧ x.rules.length ≤ 8
theorem Small.fit {l : List Node} (h : Small l) : ∀ x ∈ l, x.fits 1048576 := fun x hx => by
  have := h.parts x hx
  exact ⟨by omega, by omega⟩
theorem small_set {l : List Node} (h : Small l) (k : Nat) (x : Node) (hx : x.kids.length ≤ 14 ∧ x.rules.length ≤ 8) : Small (l.set k x) :=
  ⟨by rw [List.length_set]; exact h.len, fun y hy => by
    rcases List.mem_or_eq_of_mem_set hy with hy | rfl
    · exact h.parts y hy
    · exact hx⟩
theorem small_at {l : List Node} (h : Small l) (n : Int) : (nodeAt l n).kids.length ≤ 14 ∧ (nodeAt l n).rules.length ≤ 8 := by
  unfold nodeAt
  cases hq : l[(n - 1).toNat]? with
  | none => exact ⟨by decide, by decide⟩
  | some x => exact h.parts x (List.mem_of_getElem? hq)
theorem small_add {l : List Node} (h : Small l) (hl : l.length ≤ 13) (s : Style) : Small (addNode l s).1 ∧ l.length ≤ (addNode l s).1.length ∧ (addNode l s).1.length ≤ l.length + 1 := by
  unfold addNode
  split
  · refine ⟨⟨by simp; omega, fun x hx => ?_⟩, by simp, by simp⟩
    rcases List.mem_append.1 hx with hx | hx
    · exact h.parts x hx
    · obtain rfl := List.mem_singleton.1 hx
      exact ⟨Nat.zero_le _, Nat.zero_le _⟩
  · exact ⟨h, Nat.le_refl _, by simp⟩
theorem add_first {s : Style} (hs : styleOk s = true) : (addNode [] s).1.length = 1 := by
  have h0 : treeOk [] = true := by decide
  simp [addNode, h0, hs]
theorem small_kid {l : List Node} (h : Small l) (n kid i : Int) : Small (insertKid l n kid i).1 ∧ (insertKid l n kid i).1.length = l.length := by
  by_cases h0 : (insertKid l n kid i).2 = 0
  · obtain ⟨hv, hn, hk, hne, hu, h1, hm, hp, e⟩ := insertKid_done h0
    rw [e]
    have hlen : (putKid l n kid i.toNat).length = l.length := putKid_len
    refine ⟨⟨by rw [hlen]; exact h.len, fun x hx => ?_⟩, hlen⟩
    obtain ⟨k, hk2⟩ := List.mem_iff_getElem?.1 hx
    have hlt := (List.getElem?_eq_some_iff.1 hk2).1
    have h2 := ok_kids_len hp hk2
    have h3 := (putKid_rest (i := i.toNat) hn hk hne (m := ((k + 1 : Nat) : Int)) (inB_true (by omega) (by rw [hlen] at hlt; omega))).2.2
    rw [nodeAt_of hk2] at h3
    rw [h3]
    exact ⟨by omega, (small_at h _).2⟩
  · rw [insertKid_same h0]
    exact ⟨h, rfl⟩
theorem small_table {l : List Node} (h : Small l) (n : Int) {r : List Rule} (hr : r.length ≤ 8) : Small (setTable l n r).1 ∧ (setTable l n r).1.length = l.length := by
  unfold setTable
  split
  · exact ⟨h, rfl⟩
  · split
    · exact ⟨h, rfl⟩
    · exact ⟨small_set h _ _ ⟨(small_at h n).1, hr⟩, by simp [putTable]⟩
/-! ### The operations at a tree of the call's own -/
theorem TreeQ.v_eq (q : TreeQ) : q.v = .agg #[.slice q.a (bare q.ps).length q.c] := by rw [bare_len]; rfl
theorem saddNode_o {base : Nat} (q : TreeQ) (s : Style) (w : World) (h : Owns base w q.os) (hs : Small (bare q.ps)) : Calls Try.prog 38 #[q.v, .agg s.cells.toArray] w (NewTreeC (addNode (bare q.ps) s) w) := by
  rw [q.v_eq]
  exact saddNode_any _ s false q.a q.c _ w (by have := hs.len; omega) hs.fit (tree_in h)
theorem ssetTable_o {base : Nat} (q : TreeQ) (n : Int) (r : RuleQ) (w : World) (h : Owns base w q.os) (hs : Small (bare q.ps)) {base2 : Nat} (h2 : Owns base2 w [r.o]) (hr : r.l.length ≤ 8) : Calls Try.prog 34 #[q.v, .int .i64 n, r.v] w (NewTreeC (setTable (bare q.ps) n r.l) w) := by
  rw [q.v_eq]
  have h3 := h2.row _ (.head _)
  exact ssetTable_any _ n r.l false q.a r.a q.c r.c _ _ w (by have := hs.len; omega) hs.fit (tree_in h) (by omega) (own_slice h3 (fun _ => rfl) (by decide))
theorem sinsertKid_o {base : Nat} (q : TreeQ) (n kid i : Int) (w : World) (h : Owns base w q.os) (hs : Small (bare q.ps)) : Calls Try.prog 20 #[q.v, .int .i64 n, .int .i64 kid, .int .i64 i] w (NewTreeC (insertKid (bare q.ps) n kid i) w) := by
  rw [q.v_eq]
  exact sinsertKid_any _ n kid i false q.a q.c _ w (by have := hs.len; omega) hs.fit (tree_in h) (by rw [bare_len]; exact tree_cap h)
set_option maxRecDepth 100000 in
set_option maxHeartbeats 16000000 in
theorem l10Tree_d (B gc : Nat) (w : World) (hc : Cur B 141 w gc) :
    Calls Try.prog 110 #[.pointer (some ⟨gc, 0, none⟩)] w (DrewO TreeQ 141 B gc TreeQ.v TreeQ.os (fun q => 1 ≤ q.ps.length ∧ Small (bare q.ps)) w) := by
  refine calls_draw (as_ := [.pointer (some ⟨gc, 0, none⟩)]) hc Try.func110 rfl rfl (fun a h1 h2 h3 => ((Fr.nil h1 h2).arg (h3 0 _ rfl))) ?_
  repeat (first | refine qan ?_ | refine qaj ?_ | refine qaf ?_ | refine qad ?_ | refine SX.block ?_ | (refine l_build ?_; (refine qac ((OpW.build (vals := []) (cells := [.slice none 0 0]) rfl (by kernel_rfl))) rfl ?_ ?_ ?_); rfl; rfl) | (refine qal ?_; (refine qac (qag rfl) rfl ?_ ?_ ?_); rfl; rfl) | (refine qaR ?_; refine SXl.alloc ?_ ?_ (fun g => ?_); rfl; rfl) | (refine qay ?_; first | ((first | refine qaa 0 ?_ rfl rfl rfl rfl rfl rfl rfl ?_ | refine qaa 1 ?_ rfl rfl rfl rfl rfl rfl rfl ?_ | refine qaa 2 ?_ rfl rfl rfl rfl rfl rfl rfl ?_); rfl; simp only [List.set_cons_zero, List.set_cons_succ]) | ((first | refine qab 0 ?_ rfl rfl rfl rfl rfl rfl rfl ?_ | refine qab 1 ?_ rfl rfl rfl rfl rfl rfl rfl ?_ | refine qab 2 ?_ rfl rfl rfl rfl rfl rfl rfl ?_); rfl; simp only [over, List.set_cons_zero, List.set_cons_succ])))
  rename_i g2
  revert g; intro g3
  refine SX.ownNil 86 64 ?_
  refine SX.loop3 (fun (i : Nat) (q : TreeQ) (_ : Unit) => i ≤ 8 ∧ (i = 0 ∧ q.ps = [] ∨ 1 ≤ q.ps.length) ∧ Small (bare q.ps) ∧ q.ps.length ≤ i) (fun i _ _ => 9 - i) (fun _ q _ => [⟨g3, [.slice q.a q.ps.length q.c], 37⟩, ⟨g2, [.slice none 0 0], 37⟩]) (fun _ q _ => q.os) (fun _ _ _ => []) (fun i _ _ => [(0, .pointer (some ⟨gc, 0, none⟩)), (2, .pointer (some ⟨g2, 0, none⟩)), (3, .pointer (some ⟨g3, 0, none⟩)), (4, .int .i64 i)]) 0 ⟨[], none, 0⟩ () ⟨by omega, .inl ⟨rfl, rfl⟩, ⟨by decide, fun x h => (List.not_mem_nil h).elim⟩, Nat.le_refl _⟩ ?_ (fun w hl => hl) ?_
  · (repeat (first | exact subF_nil _ | (refine subF_cons rfl ?_) | (refine subF_consv rfl (by rfl) ?_)))
  · rintro i q _ ⟨hi, h0, hs, hn⟩
    repeat (first | refine qan ?_ | refine qaf ?_ | (refine qao ?_; (refine qac (qai rfl) rfl ?_ ?_ ?_); rfl; rfl))
    refine qat ?_
    refine qaB (ξ := Int) (v := fun x : Int => .int .i64 x) rfl rfl rfl (fun x => 0 ≤ x ∧ x < 8) (fun w hl => below_d B gc w hl.inv 8 (by decide) (by decide)) (fun x hx => ?_)
    by_cases hlt : (i : Int) ≤ x
    rotate_left
    · have h1 : 1 ≤ q.ps.length := by
        rcases h0 with ⟨h0, _⟩ | h0
        · omega
        · exact h0
      repeat (first | refine qan ?_ | refine qaj ?_ | refine qaf ?_ | refine qad ?_ | refine SX.block ?_ | refine qas rfl ?_ | (refine qal ?_; (refine qac (qag rfl) rfl ?_ ?_ ?_); rfl; rfl) | (refine l_leq ?_; (refine qac (OpW.leqF rfl rfl (by omega)) rfl ?_ ?_ ?_); rfl; rfl) | refine SX.exit ?_ | refine qaF ?_ | refine qaD ?_)
      refine SX.loop3 (fun (j : Nat) (q : TreeQ) (_ : Unit) => j ≤ q.ps.length ∧ 1 ≤ q.ps.length ∧ q.ps.length ≤ 14 ∧ Small (bare q.ps)) (fun j q _ => 14 - j) (fun _ q _ => [⟨g3, [.slice q.a q.ps.length q.c], 37⟩, ⟨g2, [.slice none 0 0], 37⟩]) (fun _ q _ => q.os) (fun _ _ _ => []) (fun j _ _ => [(0, .pointer (some ⟨gc, 0, none⟩)), (2, .pointer (some ⟨g2, 0, none⟩)), (3, .pointer (some ⟨g3, 0, none⟩)), (7, .int .i64 ((j + 1 : Nat) : Int))]) 0 q () ⟨by omega, h1, by omega, hs⟩ ?_ (fun w hl => hl) ?_
      · (repeat (first | exact subF_nil _ | (refine subF_cons rfl ?_) | (refine subF_consv rfl (by rfl) ?_)))
      clear h0 hn h1 hs
      rintro j q ⟨⟩ ⟨hj, h1, h14, hs⟩
      by_cases hjl : j < q.ps.length
      rotate_left
      · repeat (first | refine qan ?_ | refine qaj ?_ | refine qaf ?_ | refine qad ?_ | refine qas rfl ?_ | (refine qau ?_; (first | refine qac (qaw 0 rfl rfl rfl) rfl ?_ ?_ ?_ | refine qac (qam 0 rfl rfl rfl) rfl ?_ ?_ ?_); rfl; rfl) | (refine qak ?_; (refine qac (qae rfl) rfl ?_ ?_ ?_); rfl; rfl) | (refine qao ?_; (refine qac (qai rfl) rfl ?_ ?_ ?_); rfl; rfl) | (refine l_len ?_; (refine qac (OpW.len rfl) rfl ?_ ?_ ?_); rfl; rfl) | (refine l_leq ?_; (refine qac (OpW.leqF rfl rfl (by omega)) rfl ?_ ?_ ?_); rfl; rfl) | (refine qay ?_; first | ((first | refine qaa 0 ?_ rfl rfl rfl rfl rfl rfl rfl ?_ | refine qaa 1 ?_ rfl rfl rfl rfl rfl rfl rfl ?_ | refine qaa 2 ?_ rfl rfl rfl rfl rfl rfl rfl ?_); rfl; simp only [List.set_cons_zero, List.set_cons_succ]) | ((first | refine qab 0 ?_ rfl rfl rfl rfl rfl rfl rfl ?_ | refine qab 1 ?_ rfl rfl rfl rfl rfl rfl rfl ?_ | refine qab 2 ?_ rfl rfl rfl rfl rfl rfl rfl ?_); rfl; simp only [over, List.set_cons_zero, List.set_cons_succ])) | refine qaA ?_ | refine SX.exit ?_ | refine qaF ?_ | refine qaD ?_)
        refine qaK 1 rfl rfl rfl rfl (fun w' hl => ⟨q, rfl, ⟨h1, hs⟩, hl.owns, hl.mod, hl.inv⟩)
      repeat (first | refine qan ?_ | refine qaj ?_ | refine qaf ?_ | refine qad ?_ | refine SX.block ?_ | refine qaC ?_ | refine qaq rfl ?_ | (refine qau ?_; (refine qac (qaw 0 rfl rfl rfl) rfl ?_ ?_ ?_); rfl; rfl) | (refine qak ?_; (refine qac (qae rfl) rfl ?_ ?_ ?_); rfl; rfl) | (refine qao ?_; (refine qac (qai rfl) rfl ?_ ?_ ?_); rfl; rfl) | (refine l_len ?_; (refine qac (OpW.len rfl) rfl ?_ ?_ ?_); rfl; rfl) | (refine l_leq ?_; (refine qac (OpW.leqT rfl rfl (by omega)) rfl ?_ ?_ ?_); rfl; rfl))
      refine qat ?_
      refine qaB (ξ := Bool) (v := fun b => .bool b) rfl rfl rfl (fun _ => True) (fun w hl => once_d B gc w hl.inv 2 (by decide)) (fun b1 _ => ?_)
      cases b1
      · repeat (first | refine qaj ?_ | refine qaf ?_ | refine qad ?_ | refine qaC ?_ | refine qas rfl ?_ | (refine qao ?_; (refine qac (qai rfl) rfl ?_ ?_ ?_); rfl; rfl) | (refine qal ?_; (refine qac (qag rfl) rfl ?_ ?_ ?_); rfl; rfl) | (refine l_add ?_; (refine qac (OpW.succ rfl rfl (by omega)) rfl ?_ ?_ ?_); rfl; rfl) | refine qar ?_)
        refine SQ.round3 (j + 1) q () ⟨by omega, h1, h14, hs⟩ (by omega) ?_ (fun w hl => hl)
        (repeat (first | exact subF_nil _ | (refine subF_cons rfl ?_) | (refine subF_consv rfl (by rfl) ?_)))
      repeat (first | refine qaj ?_ | refine qad ?_ | refine qaq rfl ?_)
      refine SX.drawnG (ζ := RuleQ × TreeQ) 9 (fun d p => [⟨g3, [bif d 8 then .slice p.2.a p.2.ps.length p.2.c else .slice q.a q.ps.length q.c], 37⟩, ⟨g2, [.slice none 0 0], 37⟩]) (fun d p => (bif d 4 then p.2.os else []) ++ ((bif d 3 then [p.1.o] else []) ++ q.os)) (fun _ _ => [])
        [(3, fun p v => v = p.1.v ∧ p.1.l.length ≤ 3), (4, fun p v => v = .tuple #[p.2.v, .int .i64 (setTable (bare q.ps) ((j + 1 : Nat) : Int) p.1.l).2] ∧ bare p.2.ps = (setTable (bare q.ps) ((j + 1 : Nat) : Int) p.1.l).1)] (⟨[], none, 0⟩, ⟨[], none, 0⟩) (by kernel_rfl) (by kernel_rfl) (by kernel_rfl) ⟨rfl, rfl, rfl⟩ ?_
      refine SXg.v0 (v := q.v) (fun dn x p ha hk => ?_) rfl (fun _ => rfl) rfl (fun _ _ => ⟨rfl, rfl, rfl⟩) rfl ?_
      · have d8 : dn 8 = false := ha.later 8 (by kernel_rfl)
        simp only [d8, cond_false]
        exact qam 0 rfl rfl rfl
      repeat ((refine SXg.v0 (fun dn x p ha hK => (qai rfl)) rfl (fun _ => rfl) rfl (fun _ _ => ⟨rfl, rfl, rfl⟩) rfl ?_))
      refine SXg.l rfl (fun _ => rfl) rfl (fun dn x p ha hk => ?_) ?_
      · have d4 : dn 4 = false := ha.later 4 (by kernel_rfl)
        have u4 : upd dn 3 4 = false := d4
        have d8 : dn 8 = false := ha.later 8 (by kernel_rfl)
        have u8 : upd dn 3 8 = false := d8
        have d3 : dn 3 = false := ha.not
        have u3 : upd dn 3 3 = true := rfl
        simp only [d4, d8, d3, cond_true, cond_false, List.append_nil, List.nil_append]
        refine SXl.drawOJ rfl rfl rfl (fun w hl => l09Table_o B gc w hl.inv) (fun r hr => ?_)
        refine qaj (SQ.g (r, p.2) _ rfl (fun w hl => ?_) ⟨fun _ => ⟨rfl, hr.2⟩, fun h => (Bool.false_ne_true (u4.symm.trans h)).elim, trivial⟩)
        simp only [u4, u8, u3, cond_true, cond_false, List.append_nil, List.nil_append]
        exact hl
      refine SXg.l rfl (fun _ => rfl) rfl (fun dn x p ha hk => ?_) ?_
      · have d3 : dn 3 = true := ha.done 3 (by kernel_rfl)
        have u3 : upd dn 4 3 = true := d3
        have d8 : dn 8 = false := ha.later 8 (by kernel_rfl)
        have u8 : upd dn 4 8 = false := d8
        have d4 : dn 4 = false := ha.not
        have u4 : upd dn 4 4 = true := rfl
        simp only [d3, d8, d4, cond_true, cond_false, List.append_nil, List.nil_append]
        obtain ⟨x3, hr3⟩ : x 3 = p.1.v ∧ p.1.l.length ≤ 3 := hk.1 d3
        simp only [x3]
        refine SXl.callO rfl rfl rfl (fun w' hl => ssetTable_o q ((j + 1 : Nat) : Int) p.1 w' (hl.owns.sub (List.sublist_cons_self _ _)) hs (Owns.left (os := [p.1.o]) hl.owns) (by omega)) (fun q2 hq2 => ?_)
        refine qaj (SQ.g (p.1, q2) _ rfl (fun w hl => ?_) ⟨fun _ => ⟨x3, hr3⟩, fun _ => ⟨rfl, hq2⟩, trivial⟩)
        simp only [u3, u8, u4, cond_true, cond_false, List.append_nil, List.nil_append]
        exact hl
      refine SXg.v [4] (fun x => x 4) (by kernel_rfl) (fun x y h => h 4 (by simp)) (fun dn x p ha hk => qai rfl) rfl (fun _ => rfl) rfl (fun _ _ => ⟨rfl, rfl, rfl⟩) rfl ?_
      refine SXg.v [4] (fun x => tupAt (x 4) 0) (by kernel_rfl) (fun x y h => by rw [h 4 (by simp)]) (fun dn x p ha hk => ?_) rfl (fun _ => rfl) rfl (fun _ _ => ⟨rfl, rfl, rfl⟩) rfl ?_
      · obtain ⟨x4, _⟩ : x 4 = .tuple #[p.2.v, .int .i64 (setTable (bare q.ps) ((j + 1 : Nat) : Int) p.1.l).2] ∧ bare p.2.ps = (setTable (bare q.ps) ((j + 1 : Nat) : Int) p.1.l).1 := hk.2.1 (ha.done 4 (by kernel_rfl))
        simp only [x4]
        exact OpW.extract rfl rfl
      refine SXg.v [4] (fun x => tupAt (x 4) 1) (by kernel_rfl) (fun x y h => by rw [h 4 (by simp)]) (fun dn x p ha hk => ?_) rfl (fun _ => rfl) rfl (fun _ _ => ⟨rfl, rfl, rfl⟩) rfl ?_
      · obtain ⟨x4, _⟩ : x 4 = .tuple #[p.2.v, .int .i64 (setTable (bare q.ps) ((j + 1 : Nat) : Int) p.1.l).2] ∧ bare p.2.ps = (setTable (bare q.ps) ((j + 1 : Nat) : Int) p.1.l).1 := hk.2.1 (ha.done 4 (by kernel_rfl))
        simp only [x4]
        exact OpW.extract rfl rfl
      refine SXg.s rfl (fun _ => rfl) (fun dn x p ha hk => ?_) rfl ?_
      · have d3 : dn 3 = true := ha.done 3 (by kernel_rfl)
        have u3 : upd dn 8 3 = true := d3
        have d4 : dn 4 = true := ha.done 4 (by kernel_rfl)
        have u4 : upd dn 8 4 = true := d4
        have d8 : dn 8 = false := ha.not
        have u8 : upd dn 8 8 = true := rfl
        simp only [d3, d4, d8, cond_true, cond_false, List.append_nil, List.nil_append]
        obtain ⟨x4, _⟩ : x 4 = .tuple #[p.2.v, .int .i64 (setTable (bare q.ps) ((j + 1 : Nat) : Int) p.1.l).2] ∧ bare p.2.ps = (setTable (bare q.ps) ((j + 1 : Nat) : Int) p.1.l).1 := hk.2.1 d4
        simp only [x4]
        refine qaa (r := [.slice p.2.a p.2.ps.length p.2.c]) 0 rfl rfl rfl rfl rfl rfl rfl rfl ?_
        refine qaj (SQ.gs p (fun w hl => ?_) ⟨fun h => hk.1 h, fun h => hk.2.1 h, trivial⟩)
        simp only [u3, u4, u8, cond_true, cond_false, List.append_nil, List.nil_append]
        exact hl
      refine SXg.nilW (fun yq p hkp => ?_)
      obtain ⟨_, hr3⟩ : yq 3 = p.1.v ∧ p.1.l.length ≤ 3 := hkp.1 rfl
      obtain ⟨_, hq2⟩ : yq 4 = .tuple #[p.2.v, .int .i64 (setTable (bare q.ps) ((j + 1 : Nat) : Int) p.1.l).2] ∧ bare p.2.ps = (setTable (bare q.ps) ((j + 1 : Nat) : Int) p.1.l).1 := hkp.2.1 rfl
      change SQ _ _ _ [⟨g3, [.slice p.2.a p.2.ps.length p.2.c], 37⟩, ⟨g2, [.slice none 0 0], 37⟩] (p.2.os ++ ([p.1.o] ++ q.os)) [] _ _ _
      obtain ⟨b1, b2⟩ := small_table hs ((j + 1 : Nat) : Int) (r := p.1.l) (by omega)
      rw [← hq2] at b1 b2
      rw [bare_len, bare_len] at b2
      repeat (first | refine qaj ?_ | refine qaf ?_ | refine qad ?_ | (refine qao ?_; (refine qac (qai rfl) rfl ?_ ?_ ?_); rfl; rfl) | (refine qal ?_; (refine qac (qag rfl) rfl ?_ ?_ ?_); rfl; rfl) | (refine l_add ?_; (refine qac (OpW.succ rfl rfl (by omega)) rfl ?_ ?_ ?_); rfl; rfl) | refine qar ?_)
      refine SQ.round3 (j + 1) p.2 () ⟨by omega, by omega, by omega, b1⟩ (by omega) ?_ (fun w hl => hl.ownSub (List.sublist_append_left _ _))
      (repeat (first | exact subF_nil _ | (refine subF_cons rfl ?_) | (refine subF_consv rfl (by rfl) ?_)))
    repeat (first | refine qan ?_ | refine qaj ?_ | refine qad ?_ | refine SX.block ?_ | refine qaC ?_ | refine qaq rfl ?_ | (refine l_leq ?_; (refine qac (OpW.leqT rfl rfl (by omega)) rfl ?_ ?_ ?_); rfl; rfl))
    refine SX.drawnG (ζ := Style × TreeQ) 8 (fun d p => [⟨g3, [bif d 7 then .slice p.2.a p.2.ps.length p.2.c else .slice q.a q.ps.length q.c], 37⟩, ⟨g2, [.slice none 0 0], 37⟩]) (fun d p => (bif d 3 then p.2.os else []) ++ q.os) (fun _ _ => [])
      [(2, fun p v => v = .agg p.1.cells.toArray ∧ styleOk p.1 = true), (3, fun p v => v = .tuple #[p.2.v, .int .i64 (addNode (bare q.ps) p.1).2] ∧ bare p.2.ps = (addNode (bare q.ps) p.1).1)] (default, ⟨[], none, 0⟩) (by kernel_rfl) (by kernel_rfl) (by kernel_rfl) ⟨rfl, rfl, rfl⟩ ?_
    refine SXg.v0 (v := q.v) (fun dn x p ha hk => ?_) rfl (fun _ => rfl) rfl (fun _ _ => ⟨rfl, rfl, rfl⟩) rfl ?_
    · have d7 : dn 7 = false := ha.later 7 (by kernel_rfl)
      simp only [d7, cond_false]
      exact qam 0 rfl rfl rfl
    repeat ((refine SXg.v0 (fun dn x p ha hK => (qai rfl)) rfl (fun _ => rfl) rfl (fun _ _ => ⟨rfl, rfl, rfl⟩) rfl ?_))
    refine SXg.l rfl (fun _ => rfl) rfl (fun dn x p ha hk => ?_) ?_
    · have d3 : dn 3 = false := ha.later 3 (by kernel_rfl)
      have u3 : upd dn 2 3 = false := d3
      have d7 : dn 7 = false := ha.later 7 (by kernel_rfl)
      have u7 : upd dn 2 7 = false := d7
      have d2 : dn 2 = false := ha.not
      have u2 : upd dn 2 2 = true := rfl
      simp only [d3, d7, d2, cond_true, cond_false, List.append_nil, List.nil_append]
      refine qaB (ξ := Style) (v := fun s => .agg s.cells.toArray) rfl rfl rfl (fun s => styleOk s = true) (fun w hl => l06Style_r B gc w hl.inv) (fun s hs => ?_)
      refine qaj (SQ.g (s, p.2) _ rfl (fun w hl => ?_) ⟨fun _ => ⟨rfl, hs⟩, fun h => (Bool.false_ne_true (u3.symm.trans h)).elim, trivial⟩)
      simp only [u3, u7, u2, cond_true, cond_false, List.append_nil, List.nil_append]
      exact hl
    refine SXg.l rfl (fun _ => rfl) rfl (fun dn x p ha hk => ?_) ?_
    · have d2 : dn 2 = true := ha.done 2 (by kernel_rfl)
      have u2 : upd dn 3 2 = true := d2
      have d7 : dn 7 = false := ha.later 7 (by kernel_rfl)
      have u7 : upd dn 3 7 = false := d7
      have d3 : dn 3 = false := ha.not
      have u3 : upd dn 3 3 = true := rfl
      simp only [d2, d7, d3, cond_true, cond_false, List.append_nil, List.nil_append]
      obtain ⟨x2, hs2⟩ : x 2 = .agg p.1.cells.toArray ∧ styleOk p.1 = true := hk.1 d2
      simp only [x2]
      refine SXl.callO rfl rfl rfl (fun w' hl => saddNode_o q p.1 w' hl.owns hs) (fun q1 hq1 => ?_)
      refine qaj (SQ.g (p.1, q1) _ rfl (fun w hl => ?_) ⟨fun _ => ⟨x2, hs2⟩, fun _ => ⟨rfl, hq1⟩, trivial⟩)
      simp only [u2, u7, u3, cond_true, cond_false, List.append_nil, List.nil_append]
      exact hl
    refine SXg.v [3] (fun x => x 3) (by kernel_rfl) (fun x y h => h 3 (by simp)) (fun dn x p ha hk => qai rfl) rfl (fun _ => rfl) rfl (fun _ _ => ⟨rfl, rfl, rfl⟩) rfl ?_
    refine SXg.v [3] (fun x => tupAt (x 3) 0) (by kernel_rfl) (fun x y h => by rw [h 3 (by simp)]) (fun dn x p ha hk => ?_) rfl (fun _ => rfl) rfl (fun _ _ => ⟨rfl, rfl, rfl⟩) rfl ?_
    · obtain ⟨x3, _⟩ : x 3 = .tuple #[p.2.v, .int .i64 (addNode (bare q.ps) p.1).2] ∧ bare p.2.ps = (addNode (bare q.ps) p.1).1 := hk.2.1 (ha.done 3 (by kernel_rfl))
      simp only [x3]
      exact OpW.extract rfl rfl
    refine SXg.v [3] (fun x => tupAt (x 3) 1) (by kernel_rfl) (fun x y h => by rw [h 3 (by simp)]) (fun dn x p ha hk => ?_) rfl (fun _ => rfl) rfl (fun _ _ => ⟨rfl, rfl, rfl⟩) rfl ?_
    · obtain ⟨x3, _⟩ : x 3 = .tuple #[p.2.v, .int .i64 (addNode (bare q.ps) p.1).2] ∧ bare p.2.ps = (addNode (bare q.ps) p.1).1 := hk.2.1 (ha.done 3 (by kernel_rfl))
      simp only [x3]
      exact OpW.extract rfl rfl
    refine SXg.s rfl (fun _ => rfl) (fun dn x p ha hk => ?_) rfl ?_
    · have d2 : dn 2 = true := ha.done 2 (by kernel_rfl)
      have u2 : upd dn 7 2 = true := d2
      have d3 : dn 3 = true := ha.done 3 (by kernel_rfl)
      have u3 : upd dn 7 3 = true := d3
      have d7 : dn 7 = false := ha.not
      have u7 : upd dn 7 7 = true := rfl
      simp only [d2, d3, d7, cond_true, cond_false, List.append_nil, List.nil_append]
      obtain ⟨x3, _⟩ : x 3 = .tuple #[p.2.v, .int .i64 (addNode (bare q.ps) p.1).2] ∧ bare p.2.ps = (addNode (bare q.ps) p.1).1 := hk.2.1 d3
      simp only [x3]
      refine qaa (r := [.slice p.2.a p.2.ps.length p.2.c]) 0 rfl rfl rfl rfl rfl rfl rfl rfl ?_
      refine qaj (SQ.gs p (fun w hl => ?_) ⟨fun h => hk.1 h, fun h => hk.2.1 h, trivial⟩)
      simp only [u2, u3, u7, cond_true, cond_false, List.append_nil, List.nil_append]
      exact hl
    refine SXg.nilW (fun xq p hkq => ?_)
    obtain ⟨x2, hsok⟩ : xq 2 = .agg p.1.cells.toArray ∧ styleOk p.1 = true := hkq.1 rfl
    obtain ⟨x3, hq1⟩ : xq 3 = .tuple #[p.2.v, .int .i64 (addNode (bare q.ps) p.1).2] ∧ bare p.2.ps = (addNode (bare q.ps) p.1).1 := hkq.2.1 rfl
    change SQ _ _ _ [⟨g3, [.slice p.2.a p.2.ps.length p.2.c], 37⟩, ⟨g2, [.slice none 0 0], 37⟩] (p.2.os ++ q.os) [] _ _ _
    generalize p.1 = s at *
    generalize p.2 = q1 at *
    obtain ⟨a1, a2, a3⟩ := small_add hs (by rw [bare_len]; omega) s
    have a4 : 1 ≤ q1.ps.length := by
      rcases h0 with ⟨_, h0⟩ | h0
      · have := add_first hsok
        rw [h0] at hq1
        rw [← bare_len, hq1]
        exact Nat.le_of_eq this.symm
      · rw [← hq1, bare_len, bare_len] at a2
        omega
    rw [← hq1, bare_len, bare_len] at a2 a3
    rw [← hq1] at a1
    by_cases h1 : 1 < q1.ps.length
    rotate_left
    · repeat (first | refine qan ?_ | refine qaj ?_ | refine qaf ?_ | refine qad ?_ | refine qaC ?_ | refine qas rfl ?_ | (refine qaS rfl rfl rfl ?_) | (refine qau ?_; (refine qac (qaw 0 rfl rfl rfl) rfl ?_ ?_ ?_); rfl; rfl) | (refine qak ?_; (refine qac (qae rfl) rfl ?_ ?_ ?_); rfl; rfl) | (refine qao ?_; (refine qac (qai rfl) rfl ?_ ?_ ?_); rfl; rfl) | (refine qal ?_; (refine qac (qag rfl) rfl ?_ ?_ ?_); rfl; rfl) | (refine l_len ?_; (refine qac (OpW.len rfl) rfl ?_ ?_ ?_); rfl; rfl) | (refine l_add ?_; (refine qac (OpW.succ rfl rfl (by omega)) rfl ?_ ?_ ?_); rfl; rfl) | (refine l_gtr ?_; (refine qac (OpW.gtrF rfl rfl (by omega)) rfl ?_ ?_ ?_); rfl; rfl) | (refine qaE ?_; (refine qac (qav rfl rfl rfl) rfl ?_ ?_ ?_); rfl; rfl) | refine qar ?_)
      refine SQ.round3 (i + 1) q1 () ⟨by omega, .inr a4, a1, by omega⟩ (by omega) ?_ (fun w hl => hl.ownSub (List.sublist_append_left _ _))
      (repeat (first | exact subF_nil _ | (refine subF_cons rfl ?_) | (refine subF_consv rfl (by rfl) ?_)))
    repeat (first | refine qan ?_ | refine qaj ?_ | refine qaf ?_ | refine qad ?_ | (refine qau ?_; (refine qac (qaw 0 rfl rfl rfl) rfl ?_ ?_ ?_); rfl; rfl) | (refine qak ?_; (refine qac (qae rfl) rfl ?_ ?_ ?_); rfl; rfl) | (refine qao ?_; (refine qac (qai rfl) rfl ?_ ?_ ?_); rfl; rfl) | (refine qal ?_; (refine qac (qag rfl) rfl ?_ ?_ ?_); rfl; rfl) | (refine l_len ?_; (refine qac (OpW.len rfl) rfl ?_ ?_ ?_); rfl; rfl) | (refine l_gtr ?_; (refine qac (OpW.gtrT rfl rfl (by omega)) rfl ?_ ?_ ?_); rfl; rfl))
    refine qat ?_
    refine qaB (ξ := Bool) (v := fun b => .bool b) rfl rfl rfl (fun _ => True) (fun w hl => once_d B gc w hl.inv 12 (by decide)) (fun b1 _ => ?_)
    cases b1
    rotate_left
    · repeat (first | refine qaj ?_ | refine qaf ?_ | refine qad ?_ | refine qaC ?_ | refine qas rfl ?_ | (refine qao ?_; (refine qac (qai rfl) rfl ?_ ?_ ?_); rfl; rfl) | (refine qal ?_; (refine qac (qag rfl) rfl ?_ ?_ ?_); rfl; rfl) | (refine l_add ?_; (refine qac (OpW.succ rfl rfl (by omega)) rfl ?_ ?_ ?_); rfl; rfl) | (refine qaT ?_; (refine qac (OpW.not rfl) rfl ?_ ?_ ?_); rfl; rfl) | (refine qaE ?_; (refine qac (qav rfl rfl rfl) rfl ?_ ?_ ?_); rfl; rfl) | refine qar ?_)
      refine SQ.round3 (i + 1) q1 () ⟨by omega, .inr a4, a1, by omega⟩ (by omega) ?_ (fun w hl => hl.ownSub (List.sublist_append_left _ _))
      (repeat (first | exact subF_nil _ | (refine subF_cons rfl ?_) | (refine subF_consv rfl (by rfl) ?_)))
    repeat (first | refine qan ?_ | refine qaj ?_ | refine qaf ?_ | refine qad ?_ | refine qaq rfl ?_ | (refine qao ?_; (refine qac (qai rfl) rfl ?_ ?_ ?_); rfl; rfl) | (refine qaT ?_; (refine qac (OpW.not rfl) rfl ?_ ?_ ?_); rfl; rfl) | (refine l_sub ?_; (refine qac (OpW.subi rfl rfl (by omega) (by omega)) rfl ?_ ?_ ?_); rfl; rfl) | (refine qaE ?_; (refine qac (qav rfl rfl rfl) rfl ?_ ?_ ?_); rfl; rfl))
    refine qat ?_
    refine qaB (ξ := Int) (v := fun x : Int => .int .i64 x) rfl rfl rfl (fun x => 0 ≤ x ∧ x < (q1.ps.length : Int) - 1) (fun w hl => below_d B gc w hl.inv ((q1.ps.length : Int) - 1) (by omega) (by omega)) (fun y hy => ?_)
    repeat (first | refine qan ?_ | refine qaj ?_ | refine qaf ?_ | refine qad ?_ | (refine qao ?_; (refine qac (qai rfl) rfl ?_ ?_ ?_); rfl; rfl) | (refine qal ?_; (refine qac (qag rfl) rfl ?_ ?_ ?_); rfl; rfl) | (refine l_add ?_; (refine qac (OpW.addi rfl rfl (by omega) (by omega)) rfl ?_ ?_ ?_); rfl; rfl))
    refine qat ?_
    refine qaB (ξ := Bool) (v := fun b => .bool b) rfl rfl rfl (fun _ => True) (fun w hl => once_d B gc w hl.inv 2 (by decide)) (fun b2 _ => ?_)
    repeat (first | refine qaj ?_ | refine qad ?_)
    refine SX.join (ι := Nat) (fun u => u + 1 < q1.ps.length) (fun _ => [⟨g3, [.slice q1.a q1.ps.length q1.c], 37⟩, ⟨g2, [.slice none 0 0], 37⟩]) (fun _ => q1.os) (fun _ => []) (fun u => [(0, .pointer (some ⟨gc, 0, none⟩)), (2, .pointer (some ⟨g2, 0, none⟩)), (3, .pointer (some ⟨g3, 0, none⟩)), (4, .int .i64 i), (5, .int .i64 q1.ps.length), (6, .int .i64 ((u + 1 : Nat) : Int))]) ?_ ?_
    · cases b2
      · repeat (first | refine qaC ?_ | refine qas rfl ?_)
        refine SQ.join y.toNat (by omega) ?_ (fun _ hl => hl.ownSub (List.sublist_append_left _ _))
        (repeat (first | exact subF_nil _ | (refine subF_cons rfl ?_) | (refine subF_consv rfl (by exact congrArg (fun z : Int => Value.int .i64 z) (by omega)) ?_)))
      · repeat (first | refine qaj ?_ | refine qaf ?_ | refine qaq rfl ?_ | (refine qal ?_; (refine qac (qag rfl) rfl ?_ ?_ ?_); rfl; rfl))
        refine SQ.join 0 (by omega) ?_ (fun _ hl => hl.ownSub (List.sublist_append_left _ _))
        (repeat (first | exact subF_nil _ | (refine subF_cons rfl ?_) | (refine subF_consv rfl (by rfl) ?_)))
    intro u hu
    obtain ⟨nx, hnx⟩ : ∃ nx, q1.ps[u]? = some nx := ⟨_, List.getElem?_eq_getElem (by omega)⟩
    have hnl := (a1.parts nx.1 (List.mem_of_getElem? (bare_get hnx))).1
    refine SX.know (fun w hl => tree_addr (l := q1.ps) (a := q1.a) (c := q1.c) hl.owns (by omega)) (fun ⟨gt, hgt⟩ => ?_)
    skip
    refine SX.drawnG (ζ := Int × TreeQ) 19 (fun d p => [⟨g3, [bif d 18 then .slice p.2.a p.2.ps.length p.2.c else .slice q1.a q1.ps.length q1.c], 37⟩, ⟨g2, [.slice none 0 0], 37⟩]) (fun d p => (bif d 14 then p.2.os else []) ++ q1.os) (fun _ _ => [])
      [(13, fun p v => v = .int .i64 p.1), (14, fun p v => v = .tuple #[p.2.v, .int .i64 (insertKid (bare q1.ps) ((u + 1 : Nat) : Int) q1.ps.length p.1).2] ∧ bare p.2.ps = (insertKid (bare q1.ps) ((u + 1 : Nat) : Int) q1.ps.length p.1).1)] (0, ⟨[], none, 0⟩) (by kernel_rfl) (by kernel_rfl) (by kernel_rfl) ⟨rfl, rfl, rfl⟩ ?_
    refine SXg.v0 (v := q1.v) (fun dn x p ha hk => ?_) rfl (fun _ => rfl) rfl (fun _ _ => ⟨rfl, rfl, rfl⟩) rfl ?_
    · have d18 : dn 18 = false := ha.later 18 (by kernel_rfl)
      simp only [d18, cond_false]
      exact qam 0 rfl rfl rfl
    repeat (first | (refine SXg.v0 (fun dn x p ha hK => (qae rfl)) rfl (fun _ => rfl) rfl (fun _ _ => ⟨rfl, rfl, rfl⟩) rfl ?_) | (refine SXg.v0 (fun dn x p ha hK => (qai rfl)) rfl (fun _ => rfl) rfl (fun _ _ => ⟨rfl, rfl, rfl⟩) rfl ?_))
    refine SXg.v0 (v := .slice (some ⟨gt, 0, none⟩) q1.ps.length q1.c) (fun dn x p ha hk => ?_) rfl (fun _ => rfl) rfl (fun _ _ => ⟨rfl, rfl, rfl⟩) rfl ?_
    · have d18 : dn 18 = false := ha.later 18 (by kernel_rfl)
      simp only [d18, cond_false, hgt]
      exact qaw 0 rfl rfl rfl
    repeat (first | (refine SXg.v0 (fun dn x p ha hK => ((qaJ (i := u) (by omega) rfl (congrArg (fun i : Int => some (Value.int .i64 i)) (by omega : ((u + 1 : Nat) : Int) - 1 = (u : Int)))))) rfl (fun _ => rfl) rfl (fun _ _ => ⟨rfl, rfl, rfl⟩) rfl ?_) | (refine SXg.v0 (fun dn x p ha hK => (qae rfl)) rfl (fun _ => rfl) rfl (fun _ _ => ⟨rfl, rfl, rfl⟩) rfl ?_) | (refine SXg.v0 (fun dn x p ha hK => (qai rfl)) rfl (fun _ => rfl) rfl (fun _ _ => ⟨rfl, rfl, rfl⟩) rfl ?_) | (refine SXg.v0 (fun dn x p ha hK => (OpW.subi rfl rfl (by omega) (by omega))) rfl (fun _ => rfl) rfl (fun _ _ => ⟨rfl, rfl, rfl⟩) rfl ?_))
    refine SXg.v0 (v := .slice nx.2.ka nx.1.kids.length nx.2.kc) (fun dn x p ha hk => ?_) rfl (fun _ => rfl) rfl (fun _ _ => ⟨rfl, rfl, rfl⟩) rfl ?_
    · have d14 : dn 14 = false := ha.later 14 (by kernel_rfl)
      simp only [d14, cond_false, List.nil_append]
      refine OpW.loadLoc rfl (fun w hl => ?_)
      have ho : Owns _ w (treeO q1.ps q1.a q1.c) := hl.owns
      rw [hgt] at ho
      exact nodes_cell ho hnx (nodeRow_1 _ _ _ _ _ _ _ _ _)
    repeat (first | (refine SXg.v0 (fun dn x p ha hK => (OpW.len rfl)) rfl (fun _ => rfl) rfl (fun _ _ => ⟨rfl, rfl, rfl⟩) rfl ?_) | (refine SXg.v0 (fun dn x p ha hK => (OpW.succ rfl rfl (by omega))) rfl (fun _ => rfl) rfl (fun _ _ => ⟨rfl, rfl, rfl⟩) rfl ?_))
    refine SXg.l rfl (fun _ => rfl) rfl (fun dn x p ha hk => ?_) ?_
    · have d14 : dn 14 = false := ha.later 14 (by kernel_rfl)
      have u14 : upd dn 13 14 = false := d14
      have d18 : dn 18 = false := ha.later 18 (by kernel_rfl)
      have u18 : upd dn 13 18 = false := d18
      have d13 : dn 13 = false := ha.not
      have u13 : upd dn 13 13 = true := rfl
      simp only [d14, d18, d13, cond_true, cond_false, List.append_nil, List.nil_append]
      refine qaB (ξ := Int) (v := fun x : Int => .int .i64 x) rfl rfl rfl (fun x => 0 ≤ x ∧ x < (nx.1.kids.length : Int) + 1) (fun w hl => below_d B gc w hl.inv ((nx.1.kids.length : Int) + 1) (by omega) (by omega)) (fun z hz => ?_)
      refine qaj (SQ.g (z, p.2) _ rfl (fun w hl => ?_) ⟨fun _ => rfl, fun h => (Bool.false_ne_true (u14.symm.trans h)).elim, trivial⟩)
      simp only [u14, u18, u13, cond_true, cond_false, List.append_nil, List.nil_append]
      exact hl
    refine SXg.l rfl (fun _ => rfl) rfl (fun dn x p ha hk => ?_) ?_
    · have d13 : dn 13 = true := ha.done 13 (by kernel_rfl)
      have u13 : upd dn 14 13 = true := d13
      have d18 : dn 18 = false := ha.later 18 (by kernel_rfl)
      have u18 : upd dn 14 18 = false := d18
      have d14 : dn 14 = false := ha.not
      have u14 : upd dn 14 14 = true := rfl
      simp only [d13, d18, d14, cond_true, cond_false, List.append_nil, List.nil_append]
      have x13 : x 13 = .int .i64 p.1 := hk.1 d13
      simp only [x13]
      refine SXl.callO rfl rfl rfl (fun w' hl => sinsertKid_o q1 ((u + 1 : Nat) : Int) q1.ps.length p.1 w' hl.owns a1) (fun q2 hq2 => ?_)
      refine qaj (SQ.g (p.1, q2) _ rfl (fun w hl => ?_) ⟨fun _ => x13, fun _ => ⟨rfl, hq2⟩, trivial⟩)
      simp only [u13, u18, u14, cond_true, cond_false, List.append_nil, List.nil_append]
      exact hl
    refine SXg.v [14] (fun x => x 14) (by kernel_rfl) (fun x y h => h 14 (by simp)) (fun dn x p ha hk => qai rfl) rfl (fun _ => rfl) rfl (fun _ _ => ⟨rfl, rfl, rfl⟩) rfl ?_
    refine SXg.v [14] (fun x => tupAt (x 14) 0) (by kernel_rfl) (fun x y h => by rw [h 14 (by simp)]) (fun dn x p ha hk => ?_) rfl (fun _ => rfl) rfl (fun _ _ => ⟨rfl, rfl, rfl⟩) rfl ?_
    · obtain ⟨x14, _⟩ : x 14 = .tuple #[p.2.v, .int .i64 (insertKid (bare q1.ps) ((u + 1 : Nat) : Int) q1.ps.length p.1).2] ∧ bare p.2.ps = (insertKid (bare q1.ps) ((u + 1 : Nat) : Int) q1.ps.length p.1).1 := hk.2.1 (ha.done 14 (by kernel_rfl))
      simp only [x14]
      exact OpW.extract rfl rfl
    refine SXg.v [14] (fun x => tupAt (x 14) 1) (by kernel_rfl) (fun x y h => by rw [h 14 (by simp)]) (fun dn x p ha hk => ?_) rfl (fun _ => rfl) rfl (fun _ _ => ⟨rfl, rfl, rfl⟩) rfl ?_
    · obtain ⟨x14, _⟩ : x 14 = .tuple #[p.2.v, .int .i64 (insertKid (bare q1.ps) ((u + 1 : Nat) : Int) q1.ps.length p.1).2] ∧ bare p.2.ps = (insertKid (bare q1.ps) ((u + 1 : Nat) : Int) q1.ps.length p.1).1 := hk.2.1 (ha.done 14 (by kernel_rfl))
      simp only [x14]
      exact OpW.extract rfl rfl
    refine SXg.s rfl (fun _ => rfl) (fun dn x p ha hk => ?_) rfl ?_
    · have d13 : dn 13 = true := ha.done 13 (by kernel_rfl)
      have u13 : upd dn 18 13 = true := d13
      have d14 : dn 14 = true := ha.done 14 (by kernel_rfl)
      have u14 : upd dn 18 14 = true := d14
      have d18 : dn 18 = false := ha.not
      have u18 : upd dn 18 18 = true := rfl
      simp only [d13, d14, d18, cond_true, cond_false, List.append_nil, List.nil_append]
      obtain ⟨x14, _⟩ : x 14 = .tuple #[p.2.v, .int .i64 (insertKid (bare q1.ps) ((u + 1 : Nat) : Int) q1.ps.length p.1).2] ∧ bare p.2.ps = (insertKid (bare q1.ps) ((u + 1 : Nat) : Int) q1.ps.length p.1).1 := hk.2.1 d14
      simp only [x14]
      refine qaa (r := [.slice p.2.a p.2.ps.length p.2.c]) 0 rfl rfl rfl rfl rfl rfl rfl rfl ?_
      refine qaj (SQ.gs p (fun w hl => ?_) ⟨fun h => hk.1 h, fun h => hk.2.1 h, trivial⟩)
      simp only [u13, u14, u18, cond_true, cond_false, List.append_nil, List.nil_append]
      exact hl
    refine SXg.nilW (fun yq p hkp => ?_)
    obtain ⟨y14, hq2⟩ : yq 14 = .tuple #[p.2.v, .int .i64 (insertKid (bare q1.ps) ((u + 1 : Nat) : Int) q1.ps.length p.1).2] ∧ bare p.2.ps = (insertKid (bare q1.ps) ((u + 1 : Nat) : Int) q1.ps.length p.1).1 := hkp.2.1 rfl
    change SQ _ _ _ [⟨g3, [.slice p.2.a p.2.ps.length p.2.c], 37⟩, ⟨g2, [.slice none 0 0], 37⟩] (p.2.os ++ q1.os) [] _ _ _
    obtain ⟨b1, b2⟩ := small_kid a1 ((u + 1 : Nat) : Int) q1.ps.length p.1
    rw [← hq2] at b1 b2
    rw [bare_len, bare_len] at b2
    repeat (first | refine qaj ?_ | refine qaf ?_ | refine qad ?_ | (refine qao ?_; (refine qac (qai rfl) rfl ?_ ?_ ?_); rfl; rfl) | (refine qal ?_; (refine qac (qag rfl) rfl ?_ ?_ ?_); rfl; rfl) | (refine l_add ?_; (refine qac (OpW.succ rfl rfl (by omega)) rfl ?_ ?_ ?_); rfl; rfl) | refine qar ?_)
    refine SQ.round3 (i + 1) p.2 () ⟨by omega, .inr (by omega), b1, by omega⟩ (by omega) ?_ (fun w hl => hl.ownSub (List.sublist_append_left _ _))
    (repeat (first | exact subF_nil _ | (refine subF_cons rfl ?_) | (refine subF_consv rfl (by rfl) ?_)))
end Go.Proofs.Ythffgbhphjkdeaa
namespace Go.Proofs.Ythffgbhphjkdeaa
open Go.RowKit
set_option linter.unusedVariables false
set_option linter.unusedSimpArgs false

set_option maxRecDepth 100000 in
set_option maxHeartbeats 8000000 in
theorem l06Style_d (B gc : Nat) (w : World) (hc : Cur B 141 w gc) : Calls Try.prog 70 #[.pointer (some ⟨gc, 0, none⟩)] w (DrewV 141 B gc w (fun v : Style => .agg v.cells.toArray) (fun v => AllOk v.cells)) := by
  refine calls_draw (as_ := [.pointer (some ⟨gc, 0, none⟩)]) hc Try.func70 rfl rfl (fun a h1 h2 h3 => ((Fr.nil h1 h2).arg (h3 0 _ rfl))) ?_
  repeat (first | refine qan ?_ | refine qaj ?_ | refine qaf ?_ | refine qad ?_ | (refine qat ?_; (refine qac (qap rfl (fun w hl => sstyleNew_any _)) rfl ?_ ?_ ?_); rfl; rfl) | (refine qao ?_; (refine qac (qai rfl) rfl ?_ ?_ ?_); rfl; rfl) | (refine qaR ?_; refine SXl.alloc ?_ ?_ (fun g => ?_); rfl; rfl) | (refine qay ?_; first | ((first | refine qah 0 ?_ rfl rfl rfl rfl rfl rfl ?_ | refine qah 1 ?_ rfl rfl rfl rfl rfl rfl ?_ | refine qah 2 ?_ rfl rfl rfl rfl rfl rfl ?_); rfl; simp only [List.set_cons_zero, List.set_cons_succ]) | ((first | refine qaa 0 ?_ rfl rfl rfl rfl rfl rfl rfl ?_ | refine qaa 1 ?_ rfl rfl rfl rfl rfl rfl rfl ?_ | refine qaa 2 ?_ rfl rfl rfl rfl rfl rfl rfl ?_); rfl; simp only [List.set_cons_zero, List.set_cons_succ]) | ((first | refine qab 0 ?_ rfl rfl rfl rfl rfl rfl rfl ?_ | refine qab 1 ?_ rfl rfl rfl rfl rfl rfl rfl ?_ | refine qab 2 ?_ rfl rfl rfl rfl rfl rfl rfl ?_); rfl; simp only [over, List.set_cons_zero, List.set_cons_succ])))
  rename_i g2
  revert g; intro g3
  skip
  refine qat ?_
  refine qaB (ξ := Int) (v := fun x : Int => .int .i64 x) rfl rfl rfl (fun x => 0 ≤ x ∧ x < 4) (fun w hl => below_d B gc w hl.inv 4 (by decide) (by decide)) (fun x1 h1 => ?_)
  repeat (first | refine qan ?_ | refine qaj ?_ | refine qaf ?_ | refine qad ?_ | (refine qak ?_; (refine qac (qae rfl) rfl ?_ ?_ ?_); rfl; rfl) | (refine qao ?_; (refine qac (qai rfl) rfl ?_ ?_ ?_); rfl; rfl) | (refine l_add ?_; (refine qac (OpW.addi rfl rfl (by omega) (by omega)) rfl ?_ ?_ ?_); rfl; rfl) | (refine qay ?_; first | ((first | refine qah 0 ?_ rfl rfl rfl rfl rfl rfl ?_ | refine qah 1 ?_ rfl rfl rfl rfl rfl rfl ?_ | refine qah 2 ?_ rfl rfl rfl rfl rfl rfl ?_); rfl; simp only [List.set_cons_zero, List.set_cons_succ]) | ((first | refine qaa 0 ?_ rfl rfl rfl rfl rfl rfl rfl ?_ | refine qaa 1 ?_ rfl rfl rfl rfl rfl rfl rfl ?_ | refine qaa 2 ?_ rfl rfl rfl rfl rfl rfl rfl ?_); rfl; simp only [List.set_cons_zero, List.set_cons_succ]) | ((first | refine qab 0 ?_ rfl rfl rfl rfl rfl rfl rfl ?_ | refine qab 1 ?_ rfl rfl rfl rfl rfl rfl rfl ?_ | refine qab 2 ?_ rfl rfl rfl rfl rfl rfl rfl ?_); rfl; simp only [over, List.set_cons_zero, List.set_cons_succ])))
  refine qat ?_
  refine qaB (ξ := Bool) (v := fun b => .bool b) rfl rfl rfl (fun _ => True) (fun w hl => once_d B gc w hl.inv 3 (by decide)) (fun b1 _ => ?_)
  repeat (first | refine qaj ?_ | refine qad ?_)
  refine SX.join (ι := Style) (fun s => AllOk s.cells) (fun s => [⟨g3, s.cells, 66⟩, ⟨g2, (default : Style).cells, 66⟩]) (fun _ => []) (fun _ => []) (fun _ => [(0, .pointer (some ⟨gc, 0, none⟩)), (2, .pointer (some ⟨g2, 0, none⟩)), (3, .pointer (some ⟨g3, 0, none⟩))]) ?_ ?_
  · cases b1
    · repeat (first | refine qaC ?_ | refine qas rfl ?_)
      refine SQ.join ({ newStyle with dir := 1 + x1 }) (((allOk_of (c := newStyle.cells) (by decide)).set (cellOk_int (n := 1 + x1) ⟨by omega, by omega⟩) 0)) ?_ (fun _ hl => hl)
      (repeat (first | exact subF_nil _ | (refine subF_cons rfl ?_) | (refine subF_consv rfl (by rfl) ?_)))
    · repeat (first | refine qaf ?_ | refine qaq rfl ?_ | (refine qao ?_; (refine qac (qai rfl) rfl ?_ ?_ ?_); rfl; rfl))
      skip
      refine qat ?_
      refine qaB (ξ := Int) (v := fun x : Int => .int .i64 x) rfl rfl rfl (fun x => 0 ≤ x ∧ x < 3) (fun w hl => below_d B gc w hl.inv 3 (by decide) (by decide)) (fun x2 h2 => ?_)
      repeat (first | refine qaj ?_ | (refine qak ?_; (refine qac (qae rfl) rfl ?_ ?_ ?_); rfl; rfl) | (refine l_add ?_; (refine qac (OpW.addi rfl rfl (by omega) (by omega)) rfl ?_ ?_ ?_); rfl; rfl) | (refine qay ?_; first | ((first | refine qah 0 ?_ rfl rfl rfl rfl rfl rfl ?_ | refine qah 1 ?_ rfl rfl rfl rfl rfl rfl ?_ | refine qah 2 ?_ rfl rfl rfl rfl rfl rfl ?_); rfl; simp only [List.set_cons_zero, List.set_cons_succ]) | ((first | refine qaa 0 ?_ rfl rfl rfl rfl rfl rfl rfl ?_ | refine qaa 1 ?_ rfl rfl rfl rfl rfl rfl rfl ?_ | refine qaa 2 ?_ rfl rfl rfl rfl rfl rfl rfl ?_); rfl; simp only [List.set_cons_zero, List.set_cons_succ]) | ((first | refine qab 0 ?_ rfl rfl rfl rfl rfl rfl rfl ?_ | refine qab 1 ?_ rfl rfl rfl rfl rfl rfl rfl ?_ | refine qab 2 ?_ rfl rfl rfl rfl rfl rfl rfl ?_); rfl; simp only [over, List.set_cons_zero, List.set_cons_succ])))
      refine SQ.join ({ newStyle with dir := 1 + x1, wrap := 1 + x2 }) ((((allOk_of (c := newStyle.cells) (by decide)).set (cellOk_int (n := 1 + x1) ⟨by omega, by omega⟩) 0).set (cellOk_int (n := 1 + x2) ⟨by omega, by omega⟩) 1)) ?_ (fun _ hl => hl)
      (repeat (first | exact subF_nil _ | (refine subF_cons rfl ?_) | (refine subF_consv rfl (by rfl) ?_)))
  intro s1 hs1
  repeat (first | refine qan ?_ | refine qaf ?_ | (refine qao ?_; (refine qac (qai rfl) rfl ?_ ?_ ?_); rfl; rfl))
  refine qat ?_
  refine qaB (ξ := Int) (v := fun x : Int => .int .i64 x) rfl rfl rfl (fun x => 0 ≤ x ∧ x < 6) (fun w hl => below_d B gc w hl.inv 6 (by decide) (by decide)) (fun x3 h3 => ?_)
  repeat (first | refine qan ?_ | refine qaj ?_ | refine qaf ?_ | refine qad ?_ | (refine qak ?_; (refine qac (qae rfl) rfl ?_ ?_ ?_); rfl; rfl) | (refine qao ?_; (refine qac (qai rfl) rfl ?_ ?_ ?_); rfl; rfl) | (refine l_add ?_; (refine qac (OpW.addi rfl rfl (by omega) (by omega)) rfl ?_ ?_ ?_); rfl; rfl) | (refine qay ?_; first | ((first | refine qah 0 ?_ rfl rfl rfl rfl rfl rfl ?_ | refine qah 1 ?_ rfl rfl rfl rfl rfl rfl ?_ | refine qah 2 ?_ rfl rfl rfl rfl rfl rfl ?_); rfl; simp only [List.set_cons_zero, List.set_cons_succ]) | ((first | refine qaa 0 ?_ rfl rfl rfl rfl rfl rfl rfl ?_ | refine qaa 1 ?_ rfl rfl rfl rfl rfl rfl rfl ?_ | refine qaa 2 ?_ rfl rfl rfl rfl rfl rfl rfl ?_); rfl; simp only [List.set_cons_zero, List.set_cons_succ]) | ((first | refine qab 0 ?_ rfl rfl rfl rfl rfl rfl rfl ?_ | refine qab 1 ?_ rfl rfl rfl rfl rfl rfl rfl ?_ | refine qab 2 ?_ rfl rfl rfl rfl rfl rfl rfl ?_); rfl; simp only [over, List.set_cons_zero, List.set_cons_succ])))
  refine qat ?_
  refine qaB (ξ := Int) (v := fun x : Int => .int .i64 x) rfl rfl rfl (fun x => 0 ≤ x ∧ x < 5) (fun w hl => below_d B gc w hl.inv 5 (by decide) (by decide)) (fun x4 h4 => ?_)
  repeat (first | refine qan ?_ | refine qaj ?_ | refine qaf ?_ | refine qad ?_ | (refine qak ?_; (refine qac (qae rfl) rfl ?_ ?_ ?_); rfl; rfl) | (refine qao ?_; (refine qac (qai rfl) rfl ?_ ?_ ?_); rfl; rfl) | (refine l_add ?_; (refine qac (OpW.addi rfl rfl (by omega) (by omega)) rfl ?_ ?_ ?_); rfl; rfl) | (refine qay ?_; first | ((first | refine qah 0 ?_ rfl rfl rfl rfl rfl rfl ?_ | refine qah 1 ?_ rfl rfl rfl rfl rfl rfl ?_ | refine qah 2 ?_ rfl rfl rfl rfl rfl rfl ?_); rfl; simp only [List.set_cons_zero, List.set_cons_succ]) | ((first | refine qaa 0 ?_ rfl rfl rfl rfl rfl rfl rfl ?_ | refine qaa 1 ?_ rfl rfl rfl rfl rfl rfl rfl ?_ | refine qaa 2 ?_ rfl rfl rfl rfl rfl rfl rfl ?_); rfl; simp only [List.set_cons_zero, List.set_cons_succ]) | ((first | refine qab 0 ?_ rfl rfl rfl rfl rfl rfl rfl ?_ | refine qab 1 ?_ rfl rfl rfl rfl rfl rfl rfl ?_ | refine qab 2 ?_ rfl rfl rfl rfl rfl rfl rfl ?_); rfl; simp only [over, List.set_cons_zero, List.set_cons_succ])))
  refine qat ?_
  refine qaB (ξ := Bool) (v := fun b => .bool b) rfl rfl rfl (fun _ => True) (fun w hl => once_d B gc w hl.inv 3 (by decide)) (fun b2 _ => ?_)
  repeat (first | refine qaj ?_ | refine qad ?_)
  refine SX.join (ι := Style) (fun s => AllOk s.cells) (fun s => [⟨g3, s.cells, 66⟩, ⟨g2, (default : Style).cells, 66⟩]) (fun _ => []) (fun _ => []) (fun _ => [(0, .pointer (some ⟨gc, 0, none⟩)), (2, .pointer (some ⟨g2, 0, none⟩)), (3, .pointer (some ⟨g3, 0, none⟩))]) ?_ ?_
  · cases b2
    · repeat (first | refine qaC ?_ | refine qas rfl ?_)
      refine SQ.join ({ s1 with justify := 1 + x3, items := 1 + x4 }) (((hs1.set (cellOk_int (n := 1 + x3) ⟨by omega, by omega⟩) 2).set (cellOk_int (n := 1 + x4) ⟨by omega, by omega⟩) 3)) ?_ (fun _ hl => hl)
      (repeat (first | exact subF_nil _ | (refine subF_cons rfl ?_) | (refine subF_consv rfl (by rfl) ?_)))
    · repeat (first | refine qaf ?_ | refine qaq rfl ?_ | (refine qao ?_; (refine qac (qai rfl) rfl ?_ ?_ ?_); rfl; rfl))
      skip
      refine qat ?_
      refine qaB (ξ := Int) (v := fun x : Int => .int .i64 x) rfl rfl rfl (fun x => 0 ≤ x ∧ x < 6) (fun w hl => below_d B gc w hl.inv 6 (by decide) (by decide)) (fun x5 h5 => ?_)
      repeat (first | refine qaj ?_ | (refine qak ?_; (refine qac (qae rfl) rfl ?_ ?_ ?_); rfl; rfl) | (refine qay ?_; first | ((first | refine qah 0 ?_ rfl rfl rfl rfl rfl rfl ?_ | refine qah 1 ?_ rfl rfl rfl rfl rfl rfl ?_ | refine qah 2 ?_ rfl rfl rfl rfl rfl rfl ?_); rfl; simp only [List.set_cons_zero, List.set_cons_succ]) | ((first | refine qaa 0 ?_ rfl rfl rfl rfl rfl rfl rfl ?_ | refine qaa 1 ?_ rfl rfl rfl rfl rfl rfl rfl ?_ | refine qaa 2 ?_ rfl rfl rfl rfl rfl rfl rfl ?_); rfl; simp only [List.set_cons_zero, List.set_cons_succ]) | ((first | refine qab 0 ?_ rfl rfl rfl rfl rfl rfl rfl ?_ | refine qab 1 ?_ rfl rfl rfl rfl rfl rfl rfl ?_ | refine qab 2 ?_ rfl rfl rfl rfl rfl rfl rfl ?_); rfl; simp only [over, List.set_cons_zero, List.set_cons_succ])))
      refine SQ.join ({ s1 with justify := 1 + x3, items := 1 + x4, self := x5 }) ((((hs1.set (cellOk_int (n := 1 + x3) ⟨by omega, by omega⟩) 2).set (cellOk_int (n := 1 + x4) ⟨by omega, by omega⟩) 3).set (cellOk_int (n := x5) ⟨by omega, by omega⟩) 4)) ?_ (fun _ hl => hl)
      (repeat (first | exact subF_nil _ | (refine subF_cons rfl ?_) | (refine subF_consv rfl (by rfl) ?_)))
  intro s2 hs2
  repeat (first | refine qan ?_ | refine qaf ?_ | (refine qao ?_; (refine qac (qai rfl) rfl ?_ ?_ ?_); rfl; rfl))
  refine qat ?_
  refine qaB (ξ := Int) (v := fun x : Int => .int .i64 x) rfl rfl rfl (fun x => 0 ≤ x ∧ x < 6) (fun w hl => below_d B gc w hl.inv 6 (by decide) (by decide)) (fun x6 h6 => ?_)
  repeat (first | refine qan ?_ | refine qaj ?_ | refine qaf ?_ | refine qad ?_ | (refine qak ?_; (refine qac (qae rfl) rfl ?_ ?_ ?_); rfl; rfl) | (refine qao ?_; (refine qac (qai rfl) rfl ?_ ?_ ?_); rfl; rfl) | (refine l_add ?_; (refine qac (OpW.addi rfl rfl (by omega) (by omega)) rfl ?_ ?_ ?_); rfl; rfl) | (refine qay ?_; first | ((first | refine qah 0 ?_ rfl rfl rfl rfl rfl rfl ?_ | refine qah 1 ?_ rfl rfl rfl rfl rfl rfl ?_ | refine qah 2 ?_ rfl rfl rfl rfl rfl rfl ?_); rfl; simp only [List.set_cons_zero, List.set_cons_succ]) | ((first | refine qaa 0 ?_ rfl rfl rfl rfl rfl rfl rfl ?_ | refine qaa 1 ?_ rfl rfl rfl rfl rfl rfl rfl ?_ | refine qaa 2 ?_ rfl rfl rfl rfl rfl rfl rfl ?_); rfl; simp only [List.set_cons_zero, List.set_cons_succ]) | ((first | refine qab 0 ?_ rfl rfl rfl rfl rfl rfl rfl ?_ | refine qab 1 ?_ rfl rfl rfl rfl rfl rfl rfl ?_ | refine qab 2 ?_ rfl rfl rfl rfl rfl rfl rfl ?_); rfl; simp only [over, List.set_cons_zero, List.set_cons_succ])))
  refine qat ?_
  refine qaB (ξ := Bool) (v := fun b => .bool b) rfl rfl rfl (fun _ => True) (fun w hl => once_d B gc w hl.inv 10 (by decide)) (fun x7 _ => ?_)
  repeat (first | refine qan ?_ | refine qaj ?_ | refine qaf ?_ | refine qad ?_ | (refine qak ?_; (refine qac (qae rfl) rfl ?_ ?_ ?_); rfl; rfl) | (refine qao ?_; (refine qac (qai rfl) rfl ?_ ?_ ?_); rfl; rfl) | (refine qay ?_; first | ((first | refine qah 0 ?_ rfl rfl rfl rfl rfl rfl ?_ | refine qah 1 ?_ rfl rfl rfl rfl rfl rfl ?_ | refine qah 2 ?_ rfl rfl rfl rfl rfl rfl ?_); rfl; simp only [List.set_cons_zero, List.set_cons_succ]) | ((first | refine qaa 0 ?_ rfl rfl rfl rfl rfl rfl rfl ?_ | refine qaa 1 ?_ rfl rfl rfl rfl rfl rfl rfl ?_ | refine qaa 2 ?_ rfl rfl rfl rfl rfl rfl rfl ?_); rfl; simp only [List.set_cons_zero, List.set_cons_succ]) | ((first | refine qab 0 ?_ rfl rfl rfl rfl rfl rfl rfl ?_ | refine qab 1 ?_ rfl rfl rfl rfl rfl rfl rfl ?_ | refine qab 2 ?_ rfl rfl rfl rfl rfl rfl rfl ?_); rfl; simp only [over, List.set_cons_zero, List.set_cons_succ])))
  refine qat ?_
  refine qaB (ξ := Bool) (v := fun b => .bool b) rfl rfl rfl (fun _ => True) (fun w hl => once_d B gc w hl.inv 12 (by decide)) (fun x8 _ => ?_)
  repeat (first | refine qan ?_ | refine qaj ?_ | refine qaf ?_ | refine qad ?_ | (refine qak ?_; (refine qac (qae rfl) rfl ?_ ?_ ?_); rfl; rfl) | (refine qao ?_; (refine qac (qai rfl) rfl ?_ ?_ ?_); rfl; rfl) | (refine qay ?_; first | ((first | refine qah 0 ?_ rfl rfl rfl rfl rfl rfl ?_ | refine qah 1 ?_ rfl rfl rfl rfl rfl rfl ?_ | refine qah 2 ?_ rfl rfl rfl rfl rfl rfl ?_); rfl; simp only [List.set_cons_zero, List.set_cons_succ]) | ((first | refine qaa 0 ?_ rfl rfl rfl rfl rfl rfl rfl ?_ | refine qaa 1 ?_ rfl rfl rfl rfl rfl rfl rfl ?_ | refine qaa 2 ?_ rfl rfl rfl rfl rfl rfl rfl ?_); rfl; simp only [List.set_cons_zero, List.set_cons_succ]) | ((first | refine qab 0 ?_ rfl rfl rfl rfl rfl rfl rfl ?_ | refine qab 1 ?_ rfl rfl rfl rfl rfl rfl rfl ?_ | refine qab 2 ?_ rfl rfl rfl rfl rfl rfl rfl ?_); rfl; simp only [over, List.set_cons_zero, List.set_cons_succ])))
  refine qat ?_
  refine qaB (ξ := Bool) (v := fun b => .bool b) rfl rfl rfl (fun _ => True) (fun w hl => once_d B gc w hl.inv 5 (by decide)) (fun b3 _ => ?_)
  repeat (first | refine qaj ?_ | refine qad ?_)
  refine SX.join (ι := Style) (fun s => AllOk s.cells) (fun s => [⟨g3, s.cells, 66⟩, ⟨g2, (default : Style).cells, 66⟩]) (fun _ => []) (fun _ => []) (fun _ => [(0, .pointer (some ⟨gc, 0, none⟩)), (2, .pointer (some ⟨g2, 0, none⟩)), (3, .pointer (some ⟨g3, 0, none⟩))]) ?_ ?_
  · cases b3
    · repeat (first | refine qaC ?_ | refine qas rfl ?_)
      refine SQ.join ({ s2 with content := 1 + x6, apart := x7, hidden := x8 }) ((((hs2.set (cellOk_int (n := 1 + x6) ⟨by omega, by omega⟩) 5).set (cellOk_bool x7) 6).set (cellOk_bool x8) 7)) ?_ (fun _ hl => hl)
      (repeat (first | exact subF_nil _ | (refine subF_cons rfl ?_) | (refine subF_consv rfl (by rfl) ?_)))
    · repeat (first | refine qaf ?_ | refine qaq rfl ?_ | (refine qao ?_; (refine qac (qai rfl) rfl ?_ ?_ ?_); rfl; rfl))
      skip
      refine qat ?_
      refine qaB (ξ := Int) (v := fun x : Int => .int .i64 x) rfl rfl rfl (fun x => 0 ≤ x ∧ x < 5) (fun w hl => below_d B gc w hl.inv 5 (by decide) (by decide)) (fun x9 h9 => ?_)
      repeat (first | refine qaj ?_ | (refine qak ?_; (refine qac (qae rfl) rfl ?_ ?_ ?_); rfl; rfl) | (refine l_sub ?_; (refine qac (OpW.subi rfl rfl (by omega) (by omega)) rfl ?_ ?_ ?_); rfl; rfl) | (refine qay ?_; first | ((first | refine qah 0 ?_ rfl rfl rfl rfl rfl rfl ?_ | refine qah 1 ?_ rfl rfl rfl rfl rfl rfl ?_ | refine qah 2 ?_ rfl rfl rfl rfl rfl rfl ?_); rfl; simp only [List.set_cons_zero, List.set_cons_succ]) | ((first | refine qaa 0 ?_ rfl rfl rfl rfl rfl rfl rfl ?_ | refine qaa 1 ?_ rfl rfl rfl rfl rfl rfl rfl ?_ | refine qaa 2 ?_ rfl rfl rfl rfl rfl rfl rfl ?_); rfl; simp only [List.set_cons_zero, List.set_cons_succ]) | ((first | refine qab 0 ?_ rfl rfl rfl rfl rfl rfl rfl ?_ | refine qab 1 ?_ rfl rfl rfl rfl rfl rfl rfl ?_ | refine qab 2 ?_ rfl rfl rfl rfl rfl rfl rfl ?_); rfl; simp only [over, List.set_cons_zero, List.set_cons_succ])))
      refine SQ.join ({ s2 with content := 1 + x6, apart := x7, hidden := x8, order := x9 - 2 }) (((((hs2.set (cellOk_int (n := 1 + x6) ⟨by omega, by omega⟩) 5).set (cellOk_bool x7) 6).set (cellOk_bool x8) 7).set (cellOk_int (n := x9 - 2) ⟨by omega, by omega⟩) 8)) ?_ (fun _ hl => hl)
      (repeat (first | exact subF_nil _ | (refine subF_cons rfl ?_) | (refine subF_consv rfl (by rfl) ?_)))
  intro s3 hs3
  repeat (first | refine qan ?_ | refine qaf ?_ | (refine qao ?_; (refine qac (qai rfl) rfl ?_ ?_ ?_); rfl; rfl))
  refine qaN ?_
  refine SXl.lit (cells := [.int .i64 0, .int .i64 0, .int .i64 1, .int .i64 1, .int .i64 2, .int .i64 1000]) (z := .int .i64 0) ?_ ?_ rfl (by decide) (by kernel_rfl) rfl (fun gl => ?_)
  rfl; rfl
  skip
  refine qat ?_
  refine qaB (ξ := Int) (v := fun x => .int .i64 x) rfl rfl rfl (fun x => x ∈ ([0, 0, 1, 1, 2, 1000] : List Int)) (fun w hl => pick_d (l := [0, 0, 1, 1, 2, 1000]) hl (by decide) (by decide)) (fun x10 h10 => ?_)
  refine SXl.drop1 ?_
  have h10b : 0 ≤ x10 ∧ x10 ≤ 6400 := by simp at h10; omega
  repeat (first | refine qan ?_ | refine qaj ?_ | refine qaf ?_ | refine qad ?_ | (refine qak ?_; (refine qac (qae rfl) rfl ?_ ?_ ?_); rfl; rfl) | (refine qao ?_; (refine qac (qai rfl) rfl ?_ ?_ ?_); rfl; rfl) | (refine qay ?_; first | ((first | refine qah 0 ?_ rfl rfl rfl rfl rfl rfl ?_ | refine qah 1 ?_ rfl rfl rfl rfl rfl rfl ?_ | refine qah 2 ?_ rfl rfl rfl rfl rfl rfl ?_); rfl; simp only [List.set_cons_zero, List.set_cons_succ]) | ((first | refine qaa 0 ?_ rfl rfl rfl rfl rfl rfl rfl ?_ | refine qaa 1 ?_ rfl rfl rfl rfl rfl rfl rfl ?_ | refine qaa 2 ?_ rfl rfl rfl rfl rfl rfl rfl ?_); rfl; simp only [List.set_cons_zero, List.set_cons_succ]) | ((first | refine qab 0 ?_ rfl rfl rfl rfl rfl rfl rfl ?_ | refine qab 1 ?_ rfl rfl rfl rfl rfl rfl rfl ?_ | refine qab 2 ?_ rfl rfl rfl rfl rfl rfl rfl ?_); rfl; simp only [over, List.set_cons_zero, List.set_cons_succ])))
  refine qaN ?_
  refine SXl.lit (cells := [.int .i64 0, .int .i64 1, .int .i64 1, .int .i64 2, .int .i64 1000]) (z := .int .i64 0) ?_ ?_ rfl (by decide) (by kernel_rfl) rfl (fun gl => ?_)
  rfl; rfl
  skip
  refine qat ?_
  refine qaB (ξ := Int) (v := fun x => .int .i64 x) rfl rfl rfl (fun x => x ∈ ([0, 1, 1, 2, 1000] : List Int)) (fun w hl => pick_d (l := [0, 1, 1, 2, 1000]) hl (by decide) (by decide)) (fun x11 h11 => ?_)
  refine SXl.drop1 ?_
  have h11b : 0 ≤ x11 ∧ x11 ≤ 6400 := by simp at h11; omega
  repeat (first | refine qan ?_ | refine qaj ?_ | refine qaf ?_ | refine qad ?_ | (refine qak ?_; (refine qac (qae rfl) rfl ?_ ?_ ?_); rfl; rfl) | (refine qao ?_; (refine qac (qai rfl) rfl ?_ ?_ ?_); rfl; rfl) | (refine qay ?_; first | ((first | refine qah 0 ?_ rfl rfl rfl rfl rfl rfl ?_ | refine qah 1 ?_ rfl rfl rfl rfl rfl rfl ?_ | refine qah 2 ?_ rfl rfl rfl rfl rfl rfl ?_); rfl; simp only [List.set_cons_zero, List.set_cons_succ]) | ((first | refine qaa 0 ?_ rfl rfl rfl rfl rfl rfl rfl ?_ | refine qaa 1 ?_ rfl rfl rfl rfl rfl rfl rfl ?_ | refine qaa 2 ?_ rfl rfl rfl rfl rfl rfl rfl ?_); rfl; simp only [List.set_cons_zero, List.set_cons_succ]) | ((first | refine qab 0 ?_ rfl rfl rfl rfl rfl rfl rfl ?_ | refine qab 1 ?_ rfl rfl rfl rfl rfl rfl rfl ?_ | refine qab 2 ?_ rfl rfl rfl rfl rfl rfl rfl ?_); rfl; simp only [over, List.set_cons_zero, List.set_cons_succ])))
  refine qat ?_
  refine qaB (ξ := Val) (v := fun v => .agg v.cells.toArray) rfl rfl rfl (fun v => AllOk v.cells) (fun w hl => l04Value_d B gc w hl.inv) (fun x12 h12 => ?_)
  repeat (first | refine qan ?_ | refine qaj ?_ | refine qaf ?_ | refine qad ?_ | (refine qak ?_; (refine qac (qae rfl) rfl ?_ ?_ ?_); rfl; rfl) | (refine qao ?_; (refine qac (qai rfl) rfl ?_ ?_ ?_); rfl; rfl) | (refine qay ?_; first | ((first | refine qah 0 ?_ rfl rfl rfl rfl rfl rfl ?_ | refine qah 1 ?_ rfl rfl rfl rfl rfl rfl ?_ | refine qah 2 ?_ rfl rfl rfl rfl rfl rfl ?_); rfl; simp only [List.set_cons_zero, List.set_cons_succ]) | ((first | refine qaa 0 ?_ rfl rfl rfl rfl rfl rfl rfl ?_ | refine qaa 1 ?_ rfl rfl rfl rfl rfl rfl rfl ?_ | refine qaa 2 ?_ rfl rfl rfl rfl rfl rfl rfl ?_); rfl; simp only [List.set_cons_zero, List.set_cons_succ]) | ((first | refine qab 0 ?_ rfl rfl rfl rfl rfl rfl rfl ?_ | refine qab 1 ?_ rfl rfl rfl rfl rfl rfl rfl ?_ | refine qab 2 ?_ rfl rfl rfl rfl rfl rfl rfl ?_); rfl; simp only [over, List.set_cons_zero, List.set_cons_succ])))
  refine qat ?_
  refine qaB (ξ := Val) (v := fun v => .agg v.cells.toArray) rfl rfl rfl (fun v => AllOk v.cells) (fun w hl => l04Value_d B gc w hl.inv) (fun x13 h13 => ?_)
  repeat (first | refine qan ?_ | refine qaj ?_ | refine qaf ?_ | refine qad ?_ | (refine qak ?_; (refine qac (qae rfl) rfl ?_ ?_ ?_); rfl; rfl) | (refine qao ?_; (refine qac (qai rfl) rfl ?_ ?_ ?_); rfl; rfl) | (refine qay ?_; first | ((first | refine qah 0 ?_ rfl rfl rfl rfl rfl rfl ?_ | refine qah 1 ?_ rfl rfl rfl rfl rfl rfl ?_ | refine qah 2 ?_ rfl rfl rfl rfl rfl rfl ?_); rfl; simp only [List.set_cons_zero, List.set_cons_succ]) | ((first | refine qaa 0 ?_ rfl rfl rfl rfl rfl rfl rfl ?_ | refine qaa 1 ?_ rfl rfl rfl rfl rfl rfl rfl ?_ | refine qaa 2 ?_ rfl rfl rfl rfl rfl rfl rfl ?_); rfl; simp only [List.set_cons_zero, List.set_cons_succ]) | ((first | refine qab 0 ?_ rfl rfl rfl rfl rfl rfl rfl ?_ | refine qab 1 ?_ rfl rfl rfl rfl rfl rfl rfl ?_ | refine qab 2 ?_ rfl rfl rfl rfl rfl rfl rfl ?_); rfl; simp only [over, List.set_cons_zero, List.set_cons_succ])))
  refine qat ?_
  refine qaB (ξ := Val) (v := fun v => .agg v.cells.toArray) rfl rfl rfl (fun v => AllOk v.cells) (fun w hl => l04Value_d B gc w hl.inv) (fun x14 h14 => ?_)
  repeat (first | refine qan ?_ | refine qaj ?_ | refine qaf ?_ | refine qad ?_ | (refine qak ?_; (refine qac (qae rfl) rfl ?_ ?_ ?_); rfl; rfl) | (refine qao ?_; (refine qac (qai rfl) rfl ?_ ?_ ?_); rfl; rfl) | (refine qay ?_; first | ((first | refine qah 0 ?_ rfl rfl rfl rfl rfl rfl ?_ | refine qah 1 ?_ rfl rfl rfl rfl rfl rfl ?_ | refine qah 2 ?_ rfl rfl rfl rfl rfl rfl ?_); rfl; simp only [List.set_cons_zero, List.set_cons_succ]) | ((first | refine qaa 0 ?_ rfl rfl rfl rfl rfl rfl rfl ?_ | refine qaa 1 ?_ rfl rfl rfl rfl rfl rfl rfl ?_ | refine qaa 2 ?_ rfl rfl rfl rfl rfl rfl rfl ?_); rfl; simp only [List.set_cons_zero, List.set_cons_succ]) | ((first | refine qab 0 ?_ rfl rfl rfl rfl rfl rfl rfl ?_ | refine qab 1 ?_ rfl rfl rfl rfl rfl rfl rfl ?_ | refine qab 2 ?_ rfl rfl rfl rfl rfl rfl rfl ?_); rfl; simp only [over, List.set_cons_zero, List.set_cons_succ])))
  refine qat ?_
  refine qaB (ξ := Bool) (v := fun b => .bool b) rfl rfl rfl (fun _ => True) (fun w hl => once_d B gc w hl.inv 4 (by decide)) (fun b4 _ => ?_)
  repeat (first | refine qaj ?_ | refine qad ?_)
  refine SX.join (ι := Style) (fun s => AllOk s.cells) (fun s => [⟨g3, s.cells, 66⟩, ⟨g2, (default : Style).cells, 66⟩]) (fun _ => []) (fun _ => []) (fun _ => [(0, .pointer (some ⟨gc, 0, none⟩)), (2, .pointer (some ⟨g2, 0, none⟩)), (3, .pointer (some ⟨g3, 0, none⟩))]) ?_ ?_
  · cases b4
    · repeat (first | refine qaC ?_ | refine qas rfl ?_)
      refine SQ.join ({ s3 with grow := x10, shrink := x11, basis := x12, width := x13, height := x14 }) ((AllOk.over (j := 15) (AllOk.over (j := 13) (AllOk.over (j := 11) ((hs3.set (cellOk_int (n := x10) ⟨by omega, by omega⟩) 9).set (cellOk_int (n := x11) ⟨by omega, by omega⟩) 10) h12) h13) h14)) ?_ (fun _ hl => hl)
      (repeat (first | exact subF_nil _ | (refine subF_cons rfl ?_) | (refine subF_consv rfl (by rfl) ?_)))
    · repeat (first | refine qan ?_ | refine qaf ?_ | refine qaq rfl ?_ | (refine qao ?_; (refine qac (qai rfl) rfl ?_ ?_ ?_); rfl; rfl))
      skip
      refine qat ?_
      refine qaB (ξ := Val) (v := fun v => .agg v.cells.toArray) rfl rfl rfl (fun v => AllOk v.cells) (fun w hl => l04Value_d B gc w hl.inv) (fun x15 h15 => ?_)
      repeat (first | refine qaj ?_ | refine qaf ?_ | refine qad ?_ | (refine qak ?_; (refine qac (qae rfl) rfl ?_ ?_ ?_); rfl; rfl) | (refine qao ?_; (refine qac (qai rfl) rfl ?_ ?_ ?_); rfl; rfl) | (refine qay ?_; first | ((first | refine qah 0 ?_ rfl rfl rfl rfl rfl rfl ?_ | refine qah 1 ?_ rfl rfl rfl rfl rfl rfl ?_ | refine qah 2 ?_ rfl rfl rfl rfl rfl rfl ?_); rfl; simp only [List.set_cons_zero, List.set_cons_succ]) | ((first | refine qaa 0 ?_ rfl rfl rfl rfl rfl rfl rfl ?_ | refine qaa 1 ?_ rfl rfl rfl rfl rfl rfl rfl ?_ | refine qaa 2 ?_ rfl rfl rfl rfl rfl rfl rfl ?_); rfl; simp only [List.set_cons_zero, List.set_cons_succ]) | ((first | refine qab 0 ?_ rfl rfl rfl rfl rfl rfl rfl ?_ | refine qab 1 ?_ rfl rfl rfl rfl rfl rfl rfl ?_ | refine qab 2 ?_ rfl rfl rfl rfl rfl rfl rfl ?_); rfl; simp only [over, List.set_cons_zero, List.set_cons_succ])))
      refine qat ?_
      refine qaB (ξ := Val) (v := fun v => .agg v.cells.toArray) rfl rfl rfl (fun v => AllOk v.cells) (fun w hl => l04Value_d B gc w hl.inv) (fun x16 h16 => ?_)
      repeat (first | refine qaj ?_ | (refine qak ?_; (refine qac (qae rfl) rfl ?_ ?_ ?_); rfl; rfl) | (refine qay ?_; first | ((first | refine qah 0 ?_ rfl rfl rfl rfl rfl rfl ?_ | refine qah 1 ?_ rfl rfl rfl rfl rfl rfl ?_ | refine qah 2 ?_ rfl rfl rfl rfl rfl rfl ?_); rfl; simp only [List.set_cons_zero, List.set_cons_succ]) | ((first | refine qaa 0 ?_ rfl rfl rfl rfl rfl rfl rfl ?_ | refine qaa 1 ?_ rfl rfl rfl rfl rfl rfl rfl ?_ | refine qaa 2 ?_ rfl rfl rfl rfl rfl rfl rfl ?_); rfl; simp only [List.set_cons_zero, List.set_cons_succ]) | ((first | refine qab 0 ?_ rfl rfl rfl rfl rfl rfl rfl ?_ | refine qab 1 ?_ rfl rfl rfl rfl rfl rfl rfl ?_ | refine qab 2 ?_ rfl rfl rfl rfl rfl rfl rfl ?_); rfl; simp only [over, List.set_cons_zero, List.set_cons_succ])))
      refine SQ.join ({ s3 with grow := x10, shrink := x11, basis := x12, width := x13, height := x14, minWidth := x15, maxWidth := x16 }) ((AllOk.over (j := 21) (AllOk.over (j := 17) (AllOk.over (j := 15) (AllOk.over (j := 13) (AllOk.over (j := 11) ((hs3.set (cellOk_int (n := x10) ⟨by omega, by omega⟩) 9).set (cellOk_int (n := x11) ⟨by omega, by omega⟩) 10) h12) h13) h14) h15) h16)) ?_ (fun _ hl => hl)
      (repeat (first | exact subF_nil _ | (refine subF_cons rfl ?_) | (refine subF_consv rfl (by rfl) ?_)))
  intro s4 hs4
  repeat (first | refine qan ?_ | refine qaf ?_ | (refine qao ?_; (refine qac (qai rfl) rfl ?_ ?_ ?_); rfl; rfl))
  refine qat ?_
  refine qaB (ξ := Bool) (v := fun b => .bool b) rfl rfl rfl (fun _ => True) (fun w hl => once_d B gc w hl.inv 4 (by decide)) (fun b5 _ => ?_)
  repeat (first | refine qaj ?_ | refine qad ?_)
  refine SX.join (ι := Style) (fun s => AllOk s.cells) (fun s => [⟨g3, s.cells, 66⟩, ⟨g2, (default : Style).cells, 66⟩]) (fun _ => []) (fun _ => []) (fun _ => [(0, .pointer (some ⟨gc, 0, none⟩)), (2, .pointer (some ⟨g2, 0, none⟩)), (3, .pointer (some ⟨g3, 0, none⟩))]) ?_ ?_
  · cases b5
    · repeat (first | refine qaC ?_ | refine qas rfl ?_)
      refine SQ.join (s4) (hs4) ?_ (fun _ hl => hl)
      (repeat (first | exact subF_nil _ | (refine subF_cons rfl ?_) | (refine subF_consv rfl (by rfl) ?_)))
    · repeat (first | refine qan ?_ | refine qaf ?_ | refine qaq rfl ?_ | (refine qao ?_; (refine qac (qai rfl) rfl ?_ ?_ ?_); rfl; rfl))
      skip
      refine qat ?_
      refine qaB (ξ := Val) (v := fun v => .agg v.cells.toArray) rfl rfl rfl (fun v => AllOk v.cells) (fun w hl => l04Value_d B gc w hl.inv) (fun x17 h17 => ?_)
      repeat (first | refine qaj ?_ | refine qaf ?_ | refine qad ?_ | (refine qak ?_; (refine qac (qae rfl) rfl ?_ ?_ ?_); rfl; rfl) | (refine qao ?_; (refine qac (qai rfl) rfl ?_ ?_ ?_); rfl; rfl) | (refine qay ?_; first | ((first | refine qah 0 ?_ rfl rfl rfl rfl rfl rfl ?_ | refine qah 1 ?_ rfl rfl rfl rfl rfl rfl ?_ | refine qah 2 ?_ rfl rfl rfl rfl rfl rfl ?_); rfl; simp only [List.set_cons_zero, List.set_cons_succ]) | ((first | refine qaa 0 ?_ rfl rfl rfl rfl rfl rfl rfl ?_ | refine qaa 1 ?_ rfl rfl rfl rfl rfl rfl rfl ?_ | refine qaa 2 ?_ rfl rfl rfl rfl rfl rfl rfl ?_); rfl; simp only [List.set_cons_zero, List.set_cons_succ]) | ((first | refine qab 0 ?_ rfl rfl rfl rfl rfl rfl rfl ?_ | refine qab 1 ?_ rfl rfl rfl rfl rfl rfl rfl ?_ | refine qab 2 ?_ rfl rfl rfl rfl rfl rfl rfl ?_); rfl; simp only [over, List.set_cons_zero, List.set_cons_succ])))
      refine qat ?_
      refine qaB (ξ := Val) (v := fun v => .agg v.cells.toArray) rfl rfl rfl (fun v => AllOk v.cells) (fun w hl => l04Value_d B gc w hl.inv) (fun x18 h18 => ?_)
      repeat (first | refine qaj ?_ | (refine qak ?_; (refine qac (qae rfl) rfl ?_ ?_ ?_); rfl; rfl) | (refine qay ?_; first | ((first | refine qah 0 ?_ rfl rfl rfl rfl rfl rfl ?_ | refine qah 1 ?_ rfl rfl rfl rfl rfl rfl ?_ | refine qah 2 ?_ rfl rfl rfl rfl rfl rfl ?_); rfl; simp only [List.set_cons_zero, List.set_cons_succ]) | ((first | refine qaa 0 ?_ rfl rfl rfl rfl rfl rfl rfl ?_ | refine qaa 1 ?_ rfl rfl rfl rfl rfl rfl rfl ?_ | refine qaa 2 ?_ rfl rfl rfl rfl rfl rfl rfl ?_); rfl; simp only [List.set_cons_zero, List.set_cons_succ]) | ((first | refine qab 0 ?_ rfl rfl rfl rfl rfl rfl rfl ?_ | refine qab 1 ?_ rfl rfl rfl rfl rfl rfl rfl ?_ | refine qab 2 ?_ rfl rfl rfl rfl rfl rfl rfl ?_); rfl; simp only [over, List.set_cons_zero, List.set_cons_succ])))
      refine SQ.join ({ s4 with minHeight := x17, maxHeight := x18 }) ((AllOk.over (j := 23) (AllOk.over (j := 19) hs4 h17) h18)) ?_ (fun _ hl => hl)
      (repeat (first | exact subF_nil _ | (refine subF_cons rfl ?_) | (refine subF_consv rfl (by rfl) ?_)))
  intro s5 hs5
  repeat (first | refine qan ?_ | refine qaf ?_ | (refine qao ?_; (refine qac (qai rfl) rfl ?_ ?_ ?_); rfl; rfl))
  refine qat ?_
  refine qaB (ξ := Bool) (v := fun b => .bool b) rfl rfl rfl (fun _ => True) (fun w hl => once_d B gc w hl.inv 8 (by decide)) (fun b6 _ => ?_)
  repeat (first | refine qaj ?_ | refine qad ?_)
  refine SX.join (ι := Style) (fun s => AllOk s.cells) (fun s => [⟨g3, s.cells, 66⟩, ⟨g2, (default : Style).cells, 66⟩]) (fun _ => []) (fun _ => []) (fun _ => [(0, .pointer (some ⟨gc, 0, none⟩)), (2, .pointer (some ⟨g2, 0, none⟩)), (3, .pointer (some ⟨g3, 0, none⟩))]) ?_ ?_
  · cases b6
    · repeat (first | refine qaC ?_ | refine qas rfl ?_)
      refine SQ.join (s5) (hs5) ?_ (fun _ hl => hl)
      (repeat (first | exact subF_nil _ | (refine subF_cons rfl ?_) | (refine subF_consv rfl (by rfl) ?_)))
    · repeat (first | refine qaf ?_ | refine qaq rfl ?_ | (refine qao ?_; (refine qac (qai rfl) rfl ?_ ?_ ?_); rfl; rfl))
      skip
      refine qaN ?_
      refine SXl.lit (cells := [.int .i64 64, .int .i64 32, .int .i64 128, .int .i64 100, .int .i64 1, .int .i64 6400]) (z := .int .i64 0) ?_ ?_ rfl (by decide) (by kernel_rfl) rfl (fun gl => ?_)
      rfl; rfl
      skip
      refine qat ?_
      refine qaB (ξ := Int) (v := fun x => .int .i64 x) rfl rfl rfl (fun x => x ∈ ([64, 32, 128, 100, 1, 6400] : List Int)) (fun w hl => pick_d (l := [64, 32, 128, 100, 1, 6400]) hl (by decide) (by decide)) (fun x19 h19 => ?_)
      refine SXl.drop1 ?_
      have h19b : 0 ≤ x19 ∧ x19 ≤ 6400 := by simp at h19; omega
      repeat (first | refine qaj ?_ | (refine qak ?_; (refine qac (qae rfl) rfl ?_ ?_ ?_); rfl; rfl) | (refine qay ?_; first | ((first | refine qah 0 ?_ rfl rfl rfl rfl rfl rfl ?_ | refine qah 1 ?_ rfl rfl rfl rfl rfl rfl ?_ | refine qah 2 ?_ rfl rfl rfl rfl rfl rfl ?_); rfl; simp only [List.set_cons_zero, List.set_cons_succ]) | ((first | refine qaa 0 ?_ rfl rfl rfl rfl rfl rfl rfl ?_ | refine qaa 1 ?_ rfl rfl rfl rfl rfl rfl rfl ?_ | refine qaa 2 ?_ rfl rfl rfl rfl rfl rfl rfl ?_); rfl; simp only [List.set_cons_zero, List.set_cons_succ]) | ((first | refine qab 0 ?_ rfl rfl rfl rfl rfl rfl rfl ?_ | refine qab 1 ?_ rfl rfl rfl rfl rfl rfl rfl ?_ | refine qab 2 ?_ rfl rfl rfl rfl rfl rfl rfl ?_); rfl; simp only [over, List.set_cons_zero, List.set_cons_succ])))
      refine SQ.join ({ s5 with ratio := x19 }) ((hs5.set (cellOk_int (n := x19) ⟨by omega, by omega⟩) 25)) ?_ (fun _ hl => hl)
      (repeat (first | exact subF_nil _ | (refine subF_cons rfl ?_) | (refine subF_consv rfl (by rfl) ?_)))
  intro s6 hs6
  repeat (first | refine qan ?_ | refine qaf ?_ | (refine qao ?_; (refine qac (qai rfl) rfl ?_ ?_ ?_); rfl; rfl))
  refine qat ?_
  refine qaB (ξ := Bool) (v := fun b => .bool b) rfl rfl rfl (fun _ => True) (fun w hl => once_d B gc w hl.inv 3 (by decide)) (fun b7 _ => ?_)
  repeat (first | refine qaj ?_ | refine qad ?_)
  refine SX.join (ι := Style) (fun s => AllOk s.cells) (fun s => [⟨g3, s.cells, 66⟩, ⟨g2, (default : Style).cells, 66⟩]) (fun _ => []) (fun _ => []) (fun _ => [(0, .pointer (some ⟨gc, 0, none⟩)), (2, .pointer (some ⟨g2, 0, none⟩)), (3, .pointer (some ⟨g3, 0, none⟩))]) ?_ ?_
  · cases b7
    · repeat (first | refine qaC ?_ | refine qas rfl ?_)
      refine SQ.join (s6) (hs6) ?_ (fun _ hl => hl)
      (repeat (first | exact subF_nil _ | (refine subF_cons rfl ?_) | (refine subF_consv rfl (by rfl) ?_)))
    · repeat (first | refine qaf ?_ | refine qaq rfl ?_ | (refine qao ?_; (refine qac (qai rfl) rfl ?_ ?_ ?_); rfl; rfl))
      skip
      refine qat ?_
      refine qaB (ξ := Sides) (v := fun v => .agg v.cells.toArray) rfl rfl rfl (fun v => AllOk v.cells) (fun w hl => l05Sides_d B gc w hl.inv) (fun x20 h20 => ?_)
      repeat (first | refine qaj ?_ | (refine qak ?_; (refine qac (qae rfl) rfl ?_ ?_ ?_); rfl; rfl) | (refine qay ?_; first | ((first | refine qah 0 ?_ rfl rfl rfl rfl rfl rfl ?_ | refine qah 1 ?_ rfl rfl rfl rfl rfl rfl ?_ | refine qah 2 ?_ rfl rfl rfl rfl rfl rfl ?_); rfl; simp only [List.set_cons_zero, List.set_cons_succ]) | ((first | refine qaa 0 ?_ rfl rfl rfl rfl rfl rfl rfl ?_ | refine qaa 1 ?_ rfl rfl rfl rfl rfl rfl rfl ?_ | refine qaa 2 ?_ rfl rfl rfl rfl rfl rfl rfl ?_); rfl; simp only [List.set_cons_zero, List.set_cons_succ]) | ((first | refine qab 0 ?_ rfl rfl rfl rfl rfl rfl rfl ?_ | refine qab 1 ?_ rfl rfl rfl rfl rfl rfl rfl ?_ | refine qab 2 ?_ rfl rfl rfl rfl rfl rfl rfl ?_); rfl; simp only [over, List.set_cons_zero, List.set_cons_succ])))
      refine SQ.join ({ s6 with margin := x20 }) ((AllOk.over (j := 26) hs6 h20)) ?_ (fun _ hl => hl)
      (repeat (first | exact subF_nil _ | (refine subF_cons rfl ?_) | (refine subF_consv rfl (by rfl) ?_)))
  intro s7 hs7
  repeat (first | refine qan ?_ | refine qaf ?_ | (refine qao ?_; (refine qac (qai rfl) rfl ?_ ?_ ?_); rfl; rfl))
  refine qat ?_
  refine qaB (ξ := Bool) (v := fun b => .bool b) rfl rfl rfl (fun _ => True) (fun w hl => once_d B gc w hl.inv 4 (by decide)) (fun b8 _ => ?_)
  repeat (first | refine qaj ?_ | refine qad ?_)
  refine SX.join (ι := Style) (fun s => AllOk s.cells) (fun s => [⟨g3, s.cells, 66⟩, ⟨g2, (default : Style).cells, 66⟩]) (fun _ => []) (fun _ => []) (fun _ => [(0, .pointer (some ⟨gc, 0, none⟩)), (2, .pointer (some ⟨g2, 0, none⟩)), (3, .pointer (some ⟨g3, 0, none⟩))]) ?_ ?_
  · cases b8
    · repeat (first | refine qaC ?_ | refine qas rfl ?_)
      refine SQ.join (s7) (hs7) ?_ (fun _ hl => hl)
      (repeat (first | exact subF_nil _ | (refine subF_cons rfl ?_) | (refine subF_consv rfl (by rfl) ?_)))
    · repeat (first | refine qaf ?_ | refine qaq rfl ?_ | (refine qao ?_; (refine qac (qai rfl) rfl ?_ ?_ ?_); rfl; rfl))
      skip
      refine qat ?_
      refine qaB (ξ := Sides) (v := fun v => .agg v.cells.toArray) rfl rfl rfl (fun v => AllOk v.cells) (fun w hl => l05Sides_d B gc w hl.inv) (fun x21 h21 => ?_)
      repeat (first | refine qaj ?_ | (refine qak ?_; (refine qac (qae rfl) rfl ?_ ?_ ?_); rfl; rfl) | (refine qay ?_; first | ((first | refine qah 0 ?_ rfl rfl rfl rfl rfl rfl ?_ | refine qah 1 ?_ rfl rfl rfl rfl rfl rfl ?_ | refine qah 2 ?_ rfl rfl rfl rfl rfl rfl ?_); rfl; simp only [List.set_cons_zero, List.set_cons_succ]) | ((first | refine qaa 0 ?_ rfl rfl rfl rfl rfl rfl rfl ?_ | refine qaa 1 ?_ rfl rfl rfl rfl rfl rfl rfl ?_ | refine qaa 2 ?_ rfl rfl rfl rfl rfl rfl rfl ?_); rfl; simp only [List.set_cons_zero, List.set_cons_succ]) | ((first | refine qab 0 ?_ rfl rfl rfl rfl rfl rfl rfl ?_ | refine qab 1 ?_ rfl rfl rfl rfl rfl rfl rfl ?_ | refine qab 2 ?_ rfl rfl rfl rfl rfl rfl rfl ?_); rfl; simp only [over, List.set_cons_zero, List.set_cons_succ])))
      refine SQ.join ({ s7 with inset := x21 }) ((AllOk.over (j := 38) hs7 h21)) ?_ (fun _ hl => hl)
      (repeat (first | exact subF_nil _ | (refine subF_cons rfl ?_) | (refine subF_consv rfl (by rfl) ?_)))
  intro s8 hs8
  repeat (first | refine qan ?_ | refine qaf ?_ | (refine qao ?_; (refine qac (qai rfl) rfl ?_ ?_ ?_); rfl; rfl))
  refine qat ?_
  refine qaB (ξ := Bool) (v := fun b => .bool b) rfl rfl rfl (fun _ => True) (fun w hl => once_d B gc w hl.inv 4 (by decide)) (fun b9 _ => ?_)
  repeat (first | refine qaj ?_ | refine qad ?_)
  refine SX.join (ι := Style) (fun s => AllOk s.cells) (fun s => [⟨g3, s.cells, 66⟩, ⟨g2, (default : Style).cells, 66⟩]) (fun _ => []) (fun _ => []) (fun _ => [(0, .pointer (some ⟨gc, 0, none⟩)), (2, .pointer (some ⟨g2, 0, none⟩)), (3, .pointer (some ⟨g3, 0, none⟩))]) ?_ ?_
  · cases b9
    · repeat (first | refine qaC ?_ | refine qas rfl ?_)
      refine SQ.join (s8) (hs8) ?_ (fun _ hl => hl)
      (repeat (first | exact subF_nil _ | (refine subF_cons rfl ?_) | (refine subF_consv rfl (by rfl) ?_)))
    · repeat (first | refine qan ?_ | refine qaf ?_ | refine qaq rfl ?_ | (refine qao ?_; (refine qac (qai rfl) rfl ?_ ?_ ?_); rfl; rfl))
      skip
      refine qat ?_
      refine qaB (ξ := Edges) (v := fun v => .agg v.cells.toArray) rfl rfl rfl (fun v => AllOk v.cells) (fun w hl => l05Edges_d B gc w hl.inv) (fun x22 h22 => ?_)
      repeat (first | refine qaj ?_ | refine qaf ?_ | refine qad ?_ | (refine qak ?_; (refine qac (qae rfl) rfl ?_ ?_ ?_); rfl; rfl) | (refine qao ?_; (refine qac (qai rfl) rfl ?_ ?_ ?_); rfl; rfl) | (refine qay ?_; first | ((first | refine qah 0 ?_ rfl rfl rfl rfl rfl rfl ?_ | refine qah 1 ?_ rfl rfl rfl rfl rfl rfl ?_ | refine qah 2 ?_ rfl rfl rfl rfl rfl rfl ?_); rfl; simp only [List.set_cons_zero, List.set_cons_succ]) | ((first | refine qaa 0 ?_ rfl rfl rfl rfl rfl rfl rfl ?_ | refine qaa 1 ?_ rfl rfl rfl rfl rfl rfl rfl ?_ | refine qaa 2 ?_ rfl rfl rfl rfl rfl rfl rfl ?_); rfl; simp only [List.set_cons_zero, List.set_cons_succ]) | ((first | refine qab 0 ?_ rfl rfl rfl rfl rfl rfl rfl ?_ | refine qab 1 ?_ rfl rfl rfl rfl rfl rfl rfl ?_ | refine qab 2 ?_ rfl rfl rfl rfl rfl rfl rfl ?_); rfl; simp only [over, List.set_cons_zero, List.set_cons_succ])))
      refine qat ?_
      refine qaB (ξ := Edges) (v := fun v => .agg v.cells.toArray) rfl rfl rfl (fun v => AllOk v.cells) (fun w hl => l05Edges_d B gc w hl.inv) (fun x23 h23 => ?_)
      repeat (first | refine qaj ?_ | (refine qak ?_; (refine qac (qae rfl) rfl ?_ ?_ ?_); rfl; rfl) | (refine qay ?_; first | ((first | refine qah 0 ?_ rfl rfl rfl rfl rfl rfl ?_ | refine qah 1 ?_ rfl rfl rfl rfl rfl rfl ?_ | refine qah 2 ?_ rfl rfl rfl rfl rfl rfl ?_); rfl; simp only [List.set_cons_zero, List.set_cons_succ]) | ((first | refine qaa 0 ?_ rfl rfl rfl rfl rfl rfl rfl ?_ | refine qaa 1 ?_ rfl rfl rfl rfl rfl rfl rfl ?_ | refine qaa 2 ?_ rfl rfl rfl rfl rfl rfl rfl ?_); rfl; simp only [List.set_cons_zero, List.set_cons_succ]) | ((first | refine qab 0 ?_ rfl rfl rfl rfl rfl rfl rfl ?_ | refine qab 1 ?_ rfl rfl rfl rfl rfl rfl rfl ?_ | refine qab 2 ?_ rfl rfl rfl rfl rfl rfl rfl ?_); rfl; simp only [over, List.set_cons_zero, List.set_cons_succ])))
      refine SQ.join ({ s8 with pad := x22, border := x23 }) ((AllOk.over (j := 54) (AllOk.over (j := 50) hs8 h22) h23)) ?_ (fun _ hl => hl)
      (repeat (first | exact subF_nil _ | (refine subF_cons rfl ?_) | (refine subF_consv rfl (by rfl) ?_)))
  intro s9 hs9
  repeat (first | refine qan ?_ | refine qaf ?_ | (refine qao ?_; (refine qac (qai rfl) rfl ?_ ?_ ?_); rfl; rfl))
  refine qat ?_
  refine qaB (ξ := Bool) (v := fun b => .bool b) rfl rfl rfl (fun _ => True) (fun w hl => once_d B gc w hl.inv 4 (by decide)) (fun b10 _ => ?_)
  repeat (first | refine qaj ?_ | refine qad ?_)
  refine SX.join (ι := Style) (fun s => AllOk s.cells) (fun s => [⟨g3, s.cells, 66⟩, ⟨g2, (default : Style).cells, 66⟩]) (fun _ => []) (fun _ => []) (fun _ => [(0, .pointer (some ⟨gc, 0, none⟩)), (2, .pointer (some ⟨g2, 0, none⟩)), (3, .pointer (some ⟨g3, 0, none⟩))]) ?_ ?_
  · cases b10
    · repeat (first | refine qaC ?_ | refine qas rfl ?_)
      refine SQ.join (s9) (hs9) ?_ (fun _ hl => hl)
      (repeat (first | exact subF_nil _ | (refine subF_cons rfl ?_) | (refine subF_consv rfl (by rfl) ?_)))
    · repeat (first | refine qan ?_ | refine qaf ?_ | refine qaq rfl ?_ | (refine qao ?_; (refine qac (qai rfl) rfl ?_ ?_ ?_); rfl; rfl))
      skip
      refine qat ?_
      refine qaB (ξ := Int) (v := fun x : Int => .int .i64 x) rfl rfl rfl (fun x => 0 ≤ x ∧ x < 100) (fun w hl => below_d B gc w hl.inv 100 (by decide) (by decide)) (fun x24 h24 => ?_)
      repeat (first | refine qaj ?_ | refine qaf ?_ | refine qad ?_ | (refine qak ?_; (refine qac (qae rfl) rfl ?_ ?_ ?_); rfl; rfl) | (refine qao ?_; (refine qac (qai rfl) rfl ?_ ?_ ?_); rfl; rfl) | (refine qay ?_; first | ((first | refine qah 0 ?_ rfl rfl rfl rfl rfl rfl ?_ | refine qah 1 ?_ rfl rfl rfl rfl rfl rfl ?_ | refine qah 2 ?_ rfl rfl rfl rfl rfl rfl ?_); rfl; simp only [List.set_cons_zero, List.set_cons_succ]) | ((first | refine qaa 0 ?_ rfl rfl rfl rfl rfl rfl rfl ?_ | refine qaa 1 ?_ rfl rfl rfl rfl rfl rfl rfl ?_ | refine qaa 2 ?_ rfl rfl rfl rfl rfl rfl rfl ?_); rfl; simp only [List.set_cons_zero, List.set_cons_succ]) | ((first | refine qab 0 ?_ rfl rfl rfl rfl rfl rfl rfl ?_ | refine qab 1 ?_ rfl rfl rfl rfl rfl rfl rfl ?_ | refine qab 2 ?_ rfl rfl rfl rfl rfl rfl rfl ?_); rfl; simp only [over, List.set_cons_zero, List.set_cons_succ])))
      refine qat ?_
      refine qaB (ξ := Int) (v := fun x : Int => .int .i64 x) rfl rfl rfl (fun x => 0 ≤ x ∧ x < 100) (fun w hl => below_d B gc w hl.inv 100 (by decide) (by decide)) (fun x25 h25 => ?_)
      repeat (first | refine qaj ?_ | (refine qak ?_; (refine qac (qae rfl) rfl ?_ ?_ ?_); rfl; rfl) | (refine qay ?_; first | ((first | refine qah 0 ?_ rfl rfl rfl rfl rfl rfl ?_ | refine qah 1 ?_ rfl rfl rfl rfl rfl rfl ?_ | refine qah 2 ?_ rfl rfl rfl rfl rfl rfl ?_); rfl; simp only [List.set_cons_zero, List.set_cons_succ]) | ((first | refine qaa 0 ?_ rfl rfl rfl rfl rfl rfl rfl ?_ | refine qaa 1 ?_ rfl rfl rfl rfl rfl rfl rfl ?_ | refine qaa 2 ?_ rfl rfl rfl rfl rfl rfl rfl ?_); rfl; simp only [List.set_cons_zero, List.set_cons_succ]) | ((first | refine qab 0 ?_ rfl rfl rfl rfl rfl rfl rfl ?_ | refine qab 1 ?_ rfl rfl rfl rfl rfl rfl rfl ?_ | refine qab 2 ?_ rfl rfl rfl rfl rfl rfl rfl ?_); rfl; simp only [over, List.set_cons_zero, List.set_cons_succ])))
      refine SQ.join ({ s9 with rowGap := x24, colGap := x25 }) (((hs9.set (cellOk_int (n := x24) ⟨by omega, by omega⟩) 58).set (cellOk_int (n := x25) ⟨by omega, by omega⟩) 59)) ?_ (fun _ hl => hl)
      (repeat (first | exact subF_nil _ | (refine subF_cons rfl ?_) | (refine subF_consv rfl (by rfl) ?_)))
  intro s10 hs10
  repeat (first | refine qan ?_ | refine qaj ?_ | refine qaf ?_ | refine qad ?_ | (refine qau ?_; (refine qac (qam 0 rfl rfl rfl) rfl ?_ ?_ ?_); rfl; rfl) | (refine qay ?_; first | ((first | refine qah 0 ?_ rfl rfl rfl rfl rfl rfl ?_ | refine qah 1 ?_ rfl rfl rfl rfl rfl rfl ?_ | refine qah 2 ?_ rfl rfl rfl rfl rfl rfl ?_); rfl; simp only [List.set_cons_zero, List.set_cons_succ]) | ((first | refine qaa 0 ?_ rfl rfl rfl rfl rfl rfl rfl ?_ | refine qaa 1 ?_ rfl rfl rfl rfl rfl rfl rfl ?_ | refine qaa 2 ?_ rfl rfl rfl rfl rfl rfl rfl ?_); rfl; simp only [List.set_cons_zero, List.set_cons_succ]) | ((first | refine qab 0 ?_ rfl rfl rfl rfl rfl rfl rfl ?_ | refine qab 1 ?_ rfl rfl rfl rfl rfl rfl rfl ?_ | refine qab 2 ?_ rfl rfl rfl rfl rfl rfl rfl ?_); rfl; simp only [over, List.set_cons_zero, List.set_cons_succ])) | refine qaA ?_)
  refine qaK 1 rfl rfl rfl rfl (fun w' hl => ⟨s10, rfl, hs10, hl.mod, hl.inv⟩)

set_option maxRecDepth 100000 in
set_option maxHeartbeats 8000000 in
theorem l06Any_d (B gc : Nat) (w : World) (hc : Cur B 141 w gc) : Calls Try.prog 90 #[.pointer (some ⟨gc, 0, none⟩)] w (DrewV 141 B gc w (fun v : Style => .agg v.cells.toArray) (fun v => AllOk v.cells)) := by
  refine calls_draw (as_ := [.pointer (some ⟨gc, 0, none⟩)]) hc Try.func90 rfl rfl (fun a h1 h2 h3 => ((Fr.nil h1 h2).arg (h3 0 _ rfl))) ?_
  repeat (first | refine qan ?_ | refine qaj ?_ | refine qaf ?_ | refine qad ?_ | (refine qao ?_; (refine qac (qai rfl) rfl ?_ ?_ ?_); rfl; rfl) | (refine qaR ?_; refine SXl.alloc ?_ ?_ (fun g => ?_); rfl; rfl))
  refine qat ?_
  refine qaB (ξ := Style) (v := fun v => .agg v.cells.toArray) rfl rfl rfl (fun v => AllOk v.cells) (fun w hl => l06Style_d B gc w hl.inv) (fun s hs => ?_)
  repeat (first | refine qan ?_ | refine qaj ?_ | refine qaf ?_ | refine qad ?_ | (refine qao ?_; (refine qac (qai rfl) rfl ?_ ?_ ?_); rfl; rfl) | (refine qaR ?_; refine SXl.alloc ?_ ?_ (fun g => ?_); rfl; rfl) | (refine qay ?_; first | ((first | refine qah 0 ?_ rfl rfl rfl rfl rfl rfl ?_ | refine qah 1 ?_ rfl rfl rfl rfl rfl rfl ?_ | refine qah 2 ?_ rfl rfl rfl rfl rfl rfl ?_); rfl; simp only [List.set_cons_zero, List.set_cons_succ]) | ((first | refine qaa 0 ?_ rfl rfl rfl rfl rfl rfl rfl ?_ | refine qaa 1 ?_ rfl rfl rfl rfl rfl rfl rfl ?_ | refine qaa 2 ?_ rfl rfl rfl rfl rfl rfl rfl ?_); rfl; simp only [List.set_cons_zero, List.set_cons_succ]) | ((first | refine qab 0 ?_ rfl rfl rfl rfl rfl rfl rfl ?_ | refine qab 1 ?_ rfl rfl rfl rfl rfl rfl rfl ?_ | refine qab 2 ?_ rfl rfl rfl rfl rfl rfl rfl ?_); rfl; simp only [over, List.set_cons_zero, List.set_cons_succ])))
  refine qaN ?_
  refine SXl.lit (cells := [.int .i64 0, .int .i64 (-1), .int .i64 7, .int .i64 1001, .int .i64 (-1001), .int .i64 6401, .int .i64 1048577, .int .i64 9223372036854775807]) (z := .int .i64 0) ?_ ?_ rfl (by decide) (by kernel_rfl) rfl (fun gl => ?_)
  rfl; rfl
  skip
  refine qat ?_
  refine qaB (ξ := Int) (v := fun x => .int .i64 x) rfl rfl rfl (fun x => x ∈ ([0, -1, 7, 1001, -1001, 6401, 1048577, 9223372036854775807] : List Int)) (fun w hl => pick_d (l := [0, -1, 7, 1001, -1001, 6401, 1048577, 9223372036854775807]) hl (by decide) (by decide)) (fun x hx => ?_)
  refine SXl.drop1 ?_
  have hxb : I64 x := by simp at hx; exact ⟨by omega, by omega⟩
  repeat (first | refine qan ?_ | refine qaj ?_ | refine qaf ?_ | refine qad ?_ | (refine qao ?_; (refine qac (qai rfl) rfl ?_ ?_ ?_); rfl; rfl) | (refine qal ?_; (refine qac (qag rfl) rfl ?_ ?_ ?_); rfl; rfl))
  refine qat ?_
  refine qaB (ξ := Int) (v := fun x : Int => .int .i64 x) rfl rfl rfl (fun x => 0 ≤ x ∧ x < 24) (fun w hl => below_d B gc w hl.inv 24 (by decide) (by decide)) (fun y hy => ?_)
  by_cases y0 : y = 0
  · repeat (first | refine qan ?_ | refine qaj ?_ | refine qaf ?_ | refine qad ?_ | refine SX.block ?_ | refine qaq rfl ?_ | (refine qau ?_; (refine qac (qam 0 rfl rfl rfl) rfl ?_ ?_ ?_); rfl; rfl) | (refine qak ?_; (refine qac (qae rfl) rfl ?_ ?_ ?_); rfl; rfl) | (refine qao ?_; (refine qac (qai rfl) rfl ?_ ?_ ?_); rfl; rfl) | (refine qal ?_; (refine qac (qag rfl) rfl ?_ ?_ ?_); rfl; rfl) | (refine l_eql ?_; (refine qac (qaQ rfl rfl (by omega)) rfl ?_ ?_ ?_); rfl; rfl) | (refine qay ?_; first | ((first | refine qah 0 ?_ rfl rfl rfl rfl rfl rfl ?_ | refine qah 1 ?_ rfl rfl rfl rfl rfl rfl ?_ | refine qah 2 ?_ rfl rfl rfl rfl rfl rfl ?_); rfl; simp only [List.set_cons_zero, List.set_cons_succ]) | ((first | refine qaa 0 ?_ rfl rfl rfl rfl rfl rfl rfl ?_ | refine qaa 1 ?_ rfl rfl rfl rfl rfl rfl rfl ?_ | refine qaa 2 ?_ rfl rfl rfl rfl rfl rfl rfl ?_); rfl; simp only [List.set_cons_zero, List.set_cons_succ]) | ((first | refine qab 0 ?_ rfl rfl rfl rfl rfl rfl rfl ?_ | refine qab 1 ?_ rfl rfl rfl rfl rfl rfl rfl ?_ | refine qab 2 ?_ rfl rfl rfl rfl rfl rfl rfl ?_); rfl; simp only [over, List.set_cons_zero, List.set_cons_succ])) | refine qaA ?_ | refine qar ?_)
    refine qaK 1 rfl rfl rfl rfl (fun w' hl => ⟨{ s with dir := x }, rfl, (hs.set (cellOk_int (n := x) hxb) 0), hl.mod, hl.inv⟩)
  by_cases y1 : y = 1
  · repeat (first | refine qan ?_ | refine qaj ?_ | refine qaf ?_ | refine qad ?_ | refine SX.block ?_ | refine qaq rfl ?_ | refine qas rfl ?_ | (refine qau ?_; (refine qac (qam 0 rfl rfl rfl) rfl ?_ ?_ ?_); rfl; rfl) | (refine qak ?_; (refine qac (qae rfl) rfl ?_ ?_ ?_); rfl; rfl) | (refine qao ?_; (refine qac (qai rfl) rfl ?_ ?_ ?_); rfl; rfl) | (refine qal ?_; (refine qac (qag rfl) rfl ?_ ?_ ?_); rfl; rfl) | (refine l_eql ?_; (first | refine qac (qaQ rfl rfl (by omega)) rfl ?_ ?_ ?_ | refine qac (qaP rfl rfl (by omega)) rfl ?_ ?_ ?_); rfl; rfl) | (refine qay ?_; first | ((first | refine qah 0 ?_ rfl rfl rfl rfl rfl rfl ?_ | refine qah 1 ?_ rfl rfl rfl rfl rfl rfl ?_ | refine qah 2 ?_ rfl rfl rfl rfl rfl rfl ?_); rfl; simp only [List.set_cons_zero, List.set_cons_succ]) | ((first | refine qaa 0 ?_ rfl rfl rfl rfl rfl rfl rfl ?_ | refine qaa 1 ?_ rfl rfl rfl rfl rfl rfl rfl ?_ | refine qaa 2 ?_ rfl rfl rfl rfl rfl rfl rfl ?_); rfl; simp only [List.set_cons_zero, List.set_cons_succ]) | ((first | refine qab 0 ?_ rfl rfl rfl rfl rfl rfl rfl ?_ | refine qab 1 ?_ rfl rfl rfl rfl rfl rfl rfl ?_ | refine qab 2 ?_ rfl rfl rfl rfl rfl rfl rfl ?_); rfl; simp only [over, List.set_cons_zero, List.set_cons_succ])) | refine qaA ?_ | refine qar ?_)
    refine qaK 1 rfl rfl rfl rfl (fun w' hl => ⟨{ s with items := x }, rfl, (hs.set (cellOk_int (n := x) hxb) 3), hl.mod, hl.inv⟩)
  by_cases y2 : y = 2
  · repeat (first | refine qan ?_ | refine qaj ?_ | refine qaf ?_ | refine qad ?_ | refine SX.block ?_ | refine qaq rfl ?_ | refine qas rfl ?_ | (refine qau ?_; (refine qac (qam 0 rfl rfl rfl) rfl ?_ ?_ ?_); rfl; rfl) | (refine qak ?_; (refine qac (qae rfl) rfl ?_ ?_ ?_); rfl; rfl) | (refine qao ?_; (refine qac (qai rfl) rfl ?_ ?_ ?_); rfl; rfl) | (refine qal ?_; (refine qac (qag rfl) rfl ?_ ?_ ?_); rfl; rfl) | (refine l_eql ?_; (first | refine qac (qaQ rfl rfl (by omega)) rfl ?_ ?_ ?_ | refine qac (qaP rfl rfl (by omega)) rfl ?_ ?_ ?_); rfl; rfl) | (refine qay ?_; first | ((first | refine qah 0 ?_ rfl rfl rfl rfl rfl rfl ?_ | refine qah 1 ?_ rfl rfl rfl rfl rfl rfl ?_ | refine qah 2 ?_ rfl rfl rfl rfl rfl rfl ?_); rfl; simp only [List.set_cons_zero, List.set_cons_succ]) | ((first | refine qaa 0 ?_ rfl rfl rfl rfl rfl rfl rfl ?_ | refine qaa 1 ?_ rfl rfl rfl rfl rfl rfl rfl ?_ | refine qaa 2 ?_ rfl rfl rfl rfl rfl rfl rfl ?_); rfl; simp only [List.set_cons_zero, List.set_cons_succ]) | ((first | refine qab 0 ?_ rfl rfl rfl rfl rfl rfl rfl ?_ | refine qab 1 ?_ rfl rfl rfl rfl rfl rfl rfl ?_ | refine qab 2 ?_ rfl rfl rfl rfl rfl rfl rfl ?_); rfl; simp only [over, List.set_cons_zero, List.set_cons_succ])) | refine qaA ?_ | refine qar ?_)
    refine qaK 1 rfl rfl rfl rfl (fun w' hl => ⟨{ s with self := x }, rfl, (hs.set (cellOk_int (n := x) hxb) 4), hl.mod, hl.inv⟩)
  by_cases y3 : y = 3
  · repeat (first | refine qan ?_ | refine qaj ?_ | refine qaf ?_ | refine qad ?_ | refine SX.block ?_ | refine qaq rfl ?_ | refine qas rfl ?_ | (refine qau ?_; (refine qac (qam 0 rfl rfl rfl) rfl ?_ ?_ ?_); rfl; rfl) | (refine qak ?_; (refine qac (qae rfl) rfl ?_ ?_ ?_); rfl; rfl) | (refine qao ?_; (refine qac (qai rfl) rfl ?_ ?_ ?_); rfl; rfl) | (refine qal ?_; (refine qac (qag rfl) rfl ?_ ?_ ?_); rfl; rfl) | (refine l_eql ?_; (first | refine qac (qaQ rfl rfl (by omega)) rfl ?_ ?_ ?_ | refine qac (qaP rfl rfl (by omega)) rfl ?_ ?_ ?_); rfl; rfl) | (refine qay ?_; first | ((first | refine qah 0 ?_ rfl rfl rfl rfl rfl rfl ?_ | refine qah 1 ?_ rfl rfl rfl rfl rfl rfl ?_ | refine qah 2 ?_ rfl rfl rfl rfl rfl rfl ?_); rfl; simp only [List.set_cons_zero, List.set_cons_succ]) | ((first | refine qaa 0 ?_ rfl rfl rfl rfl rfl rfl rfl ?_ | refine qaa 1 ?_ rfl rfl rfl rfl rfl rfl rfl ?_ | refine qaa 2 ?_ rfl rfl rfl rfl rfl rfl rfl ?_); rfl; simp only [List.set_cons_zero, List.set_cons_succ]) | ((first | refine qab 0 ?_ rfl rfl rfl rfl rfl rfl rfl ?_ | refine qab 1 ?_ rfl rfl rfl rfl rfl rfl rfl ?_ | refine qab 2 ?_ rfl rfl rfl rfl rfl rfl rfl ?_); rfl; simp only [over, List.set_cons_zero, List.set_cons_succ])) | refine qaA ?_ | refine qar ?_)
    refine qaK 1 rfl rfl rfl rfl (fun w' hl => ⟨{ s with grow := x }, rfl, (hs.set (cellOk_int (n := x) hxb) 9), hl.mod, hl.inv⟩)
  by_cases y4 : y = 4
  · repeat (first | refine qan ?_ | refine qaj ?_ | refine qaf ?_ | refine qad ?_ | refine SX.block ?_ | refine qaq rfl ?_ | refine qas rfl ?_ | (refine qau ?_; (refine qac (qam 0 rfl rfl rfl) rfl ?_ ?_ ?_); rfl; rfl) | (refine qak ?_; (refine qac (qae rfl) rfl ?_ ?_ ?_); rfl; rfl) | (refine qao ?_; (refine qac (qai rfl) rfl ?_ ?_ ?_); rfl; rfl) | (refine qal ?_; (refine qac (qag rfl) rfl ?_ ?_ ?_); rfl; rfl) | (refine l_eql ?_; (first | refine qac (qaQ rfl rfl (by omega)) rfl ?_ ?_ ?_ | refine qac (qaP rfl rfl (by omega)) rfl ?_ ?_ ?_); rfl; rfl) | (refine qay ?_; first | ((first | refine qah 0 ?_ rfl rfl rfl rfl rfl rfl ?_ | refine qah 1 ?_ rfl rfl rfl rfl rfl rfl ?_ | refine qah 2 ?_ rfl rfl rfl rfl rfl rfl ?_); rfl; simp only [List.set_cons_zero, List.set_cons_succ]) | ((first | refine qaa 0 ?_ rfl rfl rfl rfl rfl rfl rfl ?_ | refine qaa 1 ?_ rfl rfl rfl rfl rfl rfl rfl ?_ | refine qaa 2 ?_ rfl rfl rfl rfl rfl rfl rfl ?_); rfl; simp only [List.set_cons_zero, List.set_cons_succ]) | ((first | refine qab 0 ?_ rfl rfl rfl rfl rfl rfl rfl ?_ | refine qab 1 ?_ rfl rfl rfl rfl rfl rfl rfl ?_ | refine qab 2 ?_ rfl rfl rfl rfl rfl rfl rfl ?_); rfl; simp only [over, List.set_cons_zero, List.set_cons_succ])) | refine qaA ?_ | refine qar ?_)
    refine qaK 1 rfl rfl rfl rfl (fun w' hl => ⟨{ s with order := x }, rfl, (hs.set (cellOk_int (n := x) hxb) 8), hl.mod, hl.inv⟩)
  by_cases y5 : y = 5
  · repeat (first | refine qan ?_ | refine qaj ?_ | refine qaf ?_ | refine qad ?_ | refine SX.block ?_ | refine qaq rfl ?_ | refine qas rfl ?_ | (refine qau ?_; (refine qac (qam 0 rfl rfl rfl) rfl ?_ ?_ ?_); rfl; rfl) | (refine qak ?_; (refine qac (qae rfl) rfl ?_ ?_ ?_); rfl; rfl) | (refine qao ?_; (refine qac (qai rfl) rfl ?_ ?_ ?_); rfl; rfl) | (refine qal ?_; (refine qac (qag rfl) rfl ?_ ?_ ?_); rfl; rfl) | (refine l_eql ?_; (first | refine qac (qaQ rfl rfl (by omega)) rfl ?_ ?_ ?_ | refine qac (qaP rfl rfl (by omega)) rfl ?_ ?_ ?_); rfl; rfl) | (refine qay ?_; first | ((first | refine qah 0 ?_ rfl rfl rfl rfl rfl rfl ?_ | refine qah 1 ?_ rfl rfl rfl rfl rfl rfl ?_ | refine qah 2 ?_ rfl rfl rfl rfl rfl rfl ?_); rfl; simp only [List.set_cons_zero, List.set_cons_succ]) | ((first | refine qaa 0 ?_ rfl rfl rfl rfl rfl rfl rfl ?_ | refine qaa 1 ?_ rfl rfl rfl rfl rfl rfl rfl ?_ | refine qaa 2 ?_ rfl rfl rfl rfl rfl rfl rfl ?_); rfl; simp only [List.set_cons_zero, List.set_cons_succ]) | ((first | refine qab 0 ?_ rfl rfl rfl rfl rfl rfl rfl ?_ | refine qab 1 ?_ rfl rfl rfl rfl rfl rfl rfl ?_ | refine qab 2 ?_ rfl rfl rfl rfl rfl rfl rfl ?_); rfl; simp only [over, List.set_cons_zero, List.set_cons_succ])) | refine qaA ?_ | refine qar ?_)
    refine qaK 1 rfl rfl rfl rfl (fun w' hl => ⟨{ s with ratio := x }, rfl, (hs.set (cellOk_int (n := x) hxb) 25), hl.mod, hl.inv⟩)
  by_cases y6 : y = 6
  · repeat (first | refine qan ?_ | refine qaj ?_ | refine qaf ?_ | refine qad ?_ | refine SX.block ?_ | refine qaq rfl ?_ | refine qas rfl ?_ | (refine qao ?_; (refine qac (qai rfl) rfl ?_ ?_ ?_); rfl; rfl) | (refine qal ?_; (refine qac (qag rfl) rfl ?_ ?_ ?_); rfl; rfl) | (refine l_eql ?_; (first | refine qac (qaQ rfl rfl (by omega)) rfl ?_ ?_ ?_ | refine qac (qaP rfl rfl (by omega)) rfl ?_ ?_ ?_); rfl; rfl))
    refine qat ?_
    refine qaB (ξ := Val) (v := fun v => .agg v.cells.toArray) rfl rfl rfl (fun v => AllOk v.cells) (fun w hl => l04Any_d B gc w hl.inv) (fun v hv => ?_)
    repeat (first | refine qan ?_ | refine qaj ?_ | refine qaf ?_ | refine qad ?_ | (refine qau ?_; (refine qac (qam 0 rfl rfl rfl) rfl ?_ ?_ ?_); rfl; rfl) | (refine qak ?_; (refine qac (qae rfl) rfl ?_ ?_ ?_); rfl; rfl) | (refine qay ?_; first | ((first | refine qah 0 ?_ rfl rfl rfl rfl rfl rfl ?_ | refine qah 1 ?_ rfl rfl rfl rfl rfl rfl ?_ | refine qah 2 ?_ rfl rfl rfl rfl rfl rfl ?_); rfl; simp only [List.set_cons_zero, List.set_cons_succ]) | ((first | refine qaa 0 ?_ rfl rfl rfl rfl rfl rfl rfl ?_ | refine qaa 1 ?_ rfl rfl rfl rfl rfl rfl rfl ?_ | refine qaa 2 ?_ rfl rfl rfl rfl rfl rfl rfl ?_); rfl; simp only [List.set_cons_zero, List.set_cons_succ]) | ((first | refine qab 0 ?_ rfl rfl rfl rfl rfl rfl rfl ?_ | refine qab 1 ?_ rfl rfl rfl rfl rfl rfl rfl ?_ | refine qab 2 ?_ rfl rfl rfl rfl rfl rfl rfl ?_); rfl; simp only [over, List.set_cons_zero, List.set_cons_succ])) | refine qaA ?_ | refine qar ?_)
    refine qaK 1 rfl rfl rfl rfl (fun w' hl => ⟨{ s with width := v }, rfl, (AllOk.over (j := 13) hs hv), hl.mod, hl.inv⟩)
  by_cases y7 : y = 7
  · repeat (first | refine qan ?_ | refine qaj ?_ | refine qaf ?_ | refine qad ?_ | refine SX.block ?_ | refine qaq rfl ?_ | refine qas rfl ?_ | (refine qao ?_; (refine qac (qai rfl) rfl ?_ ?_ ?_); rfl; rfl) | (refine qal ?_; (refine qac (qag rfl) rfl ?_ ?_ ?_); rfl; rfl) | (refine l_eql ?_; (first | refine qac (qaQ rfl rfl (by omega)) rfl ?_ ?_ ?_ | refine qac (qaP rfl rfl (by omega)) rfl ?_ ?_ ?_); rfl; rfl))
    refine qat ?_
    refine qaB (ξ := Sides) (v := fun v => .agg v.cells.toArray) rfl rfl rfl (fun v => AllOk v.cells) (fun w hl => l05Any_d B gc w hl.inv) (fun v hv => ?_)
    repeat (first | refine qan ?_ | refine qaj ?_ | refine qaf ?_ | refine qad ?_ | (refine qau ?_; (refine qac (qam 0 rfl rfl rfl) rfl ?_ ?_ ?_); rfl; rfl) | (refine qak ?_; (refine qac (qae rfl) rfl ?_ ?_ ?_); rfl; rfl) | (refine qay ?_; first | ((first | refine qah 0 ?_ rfl rfl rfl rfl rfl rfl ?_ | refine qah 1 ?_ rfl rfl rfl rfl rfl rfl ?_ | refine qah 2 ?_ rfl rfl rfl rfl rfl rfl ?_); rfl; simp only [List.set_cons_zero, List.set_cons_succ]) | ((first | refine qaa 0 ?_ rfl rfl rfl rfl rfl rfl rfl ?_ | refine qaa 1 ?_ rfl rfl rfl rfl rfl rfl rfl ?_ | refine qaa 2 ?_ rfl rfl rfl rfl rfl rfl rfl ?_); rfl; simp only [List.set_cons_zero, List.set_cons_succ]) | ((first | refine qab 0 ?_ rfl rfl rfl rfl rfl rfl rfl ?_ | refine qab 1 ?_ rfl rfl rfl rfl rfl rfl rfl ?_ | refine qab 2 ?_ rfl rfl rfl rfl rfl rfl rfl ?_); rfl; simp only [over, List.set_cons_zero, List.set_cons_succ])) | refine qaA ?_ | refine qar ?_)
    refine qaK 1 rfl rfl rfl rfl (fun w' hl => ⟨{ s with margin := v }, rfl, (AllOk.over (j := 26) hs hv), hl.mod, hl.inv⟩)
  by_cases y8 : y = 8
  · repeat (first | refine qan ?_ | refine qaj ?_ | refine qaf ?_ | refine qad ?_ | refine SX.block ?_ | refine qaq rfl ?_ | refine qas rfl ?_ | (refine qao ?_; (refine qac (qai rfl) rfl ?_ ?_ ?_); rfl; rfl) | (refine qal ?_; (refine qac (qag rfl) rfl ?_ ?_ ?_); rfl; rfl) | (refine l_eql ?_; (first | refine qac (qaQ rfl rfl (by omega)) rfl ?_ ?_ ?_ | refine qac (qaP rfl rfl (by omega)) rfl ?_ ?_ ?_); rfl; rfl))
    refine qat ?_
    refine qaB (ξ := Edges) (v := fun v => .agg v.cells.toArray) rfl rfl rfl (fun v => AllOk v.cells) (fun w hl => l05AnyEdges_d B gc w hl.inv) (fun v hv => ?_)
    repeat (first | refine qan ?_ | refine qaj ?_ | refine qaf ?_ | refine qad ?_ | (refine qau ?_; (refine qac (qam 0 rfl rfl rfl) rfl ?_ ?_ ?_); rfl; rfl) | (refine qak ?_; (refine qac (qae rfl) rfl ?_ ?_ ?_); rfl; rfl) | (refine qay ?_; first | ((first | refine qah 0 ?_ rfl rfl rfl rfl rfl rfl ?_ | refine qah 1 ?_ rfl rfl rfl rfl rfl rfl ?_ | refine qah 2 ?_ rfl rfl rfl rfl rfl rfl ?_); rfl; simp only [List.set_cons_zero, List.set_cons_succ]) | ((first | refine qaa 0 ?_ rfl rfl rfl rfl rfl rfl rfl ?_ | refine qaa 1 ?_ rfl rfl rfl rfl rfl rfl rfl ?_ | refine qaa 2 ?_ rfl rfl rfl rfl rfl rfl rfl ?_); rfl; simp only [List.set_cons_zero, List.set_cons_succ]) | ((first | refine qab 0 ?_ rfl rfl rfl rfl rfl rfl rfl ?_ | refine qab 1 ?_ rfl rfl rfl rfl rfl rfl rfl ?_ | refine qab 2 ?_ rfl rfl rfl rfl rfl rfl rfl ?_); rfl; simp only [over, List.set_cons_zero, List.set_cons_succ])) | refine qaA ?_ | refine qar ?_)
    refine qaK 1 rfl rfl rfl rfl (fun w' hl => ⟨{ s with pad := v }, rfl, (AllOk.over (j := 50) hs hv), hl.mod, hl.inv⟩)
  by_cases y9 : y = 9
  · repeat (first | refine qan ?_ | refine qaj ?_ | refine qaf ?_ | refine qad ?_ | refine SX.block ?_ | refine qaq rfl ?_ | refine qas rfl ?_ | (refine qau ?_; (refine qac (qam 0 rfl rfl rfl) rfl ?_ ?_ ?_); rfl; rfl) | (refine qak ?_; (refine qac (qae rfl) rfl ?_ ?_ ?_); rfl; rfl) | (refine qao ?_; (refine qac (qai rfl) rfl ?_ ?_ ?_); rfl; rfl) | (refine qal ?_; (refine qac (qag rfl) rfl ?_ ?_ ?_); rfl; rfl) | (refine l_eql ?_; (first | refine qac (qaQ rfl rfl (by omega)) rfl ?_ ?_ ?_ | refine qac (qaP rfl rfl (by omega)) rfl ?_ ?_ ?_); rfl; rfl) | (refine qay ?_; first | ((first | refine qah 0 ?_ rfl rfl rfl rfl rfl rfl ?_ | refine qah 1 ?_ rfl rfl rfl rfl rfl rfl ?_ | refine qah 2 ?_ rfl rfl rfl rfl rfl rfl ?_); rfl; simp only [List.set_cons_zero, List.set_cons_succ]) | ((first | refine qaa 0 ?_ rfl rfl rfl rfl rfl rfl rfl ?_ | refine qaa 1 ?_ rfl rfl rfl rfl rfl rfl rfl ?_ | refine qaa 2 ?_ rfl rfl rfl rfl rfl rfl rfl ?_); rfl; simp only [List.set_cons_zero, List.set_cons_succ]) | ((first | refine qab 0 ?_ rfl rfl rfl rfl rfl rfl rfl ?_ | refine qab 1 ?_ rfl rfl rfl rfl rfl rfl rfl ?_ | refine qab 2 ?_ rfl rfl rfl rfl rfl rfl rfl ?_); rfl; simp only [over, List.set_cons_zero, List.set_cons_succ])) | refine qaA ?_ | refine qar ?_)
    refine qaK 1 rfl rfl rfl rfl (fun w' hl => ⟨{ s with rowGap := x }, rfl, (hs.set (cellOk_int (n := x) hxb) 58), hl.mod, hl.inv⟩)
  by_cases y10 : y = 10
  · repeat (first | refine qan ?_ | refine qaj ?_ | refine qaf ?_ | refine qad ?_ | refine SX.block ?_ | refine qaq rfl ?_ | refine qas rfl ?_ | (refine l_build ?_; (refine qac ((OpW.build (vals := [(0, .int .i64 1), (1, .int .i64 (-1))]) (cells := Val.cells ⟨1, -1⟩) rfl (by kernel_rfl))) rfl ?_ ?_ ?_); rfl; rfl) | (refine qau ?_; (refine qac (qam 0 rfl rfl rfl) rfl ?_ ?_ ?_); rfl; rfl) | (refine qak ?_; (refine qac (qae rfl) rfl ?_ ?_ ?_); rfl; rfl) | (refine qal ?_; (refine qac (qag rfl) rfl ?_ ?_ ?_); rfl; rfl) | (refine l_eql ?_; (first | refine qac (qaQ rfl rfl (by omega)) rfl ?_ ?_ ?_ | refine qac (qaP rfl rfl (by omega)) rfl ?_ ?_ ?_); rfl; rfl) | (refine qay ?_; first | ((first | refine qah 0 ?_ rfl rfl rfl rfl rfl rfl ?_ | refine qah 1 ?_ rfl rfl rfl rfl rfl rfl ?_ | refine qah 2 ?_ rfl rfl rfl rfl rfl rfl ?_); rfl; simp only [List.set_cons_zero, List.set_cons_succ]) | ((first | refine qaa 0 ?_ rfl rfl rfl rfl rfl rfl rfl ?_ | refine qaa 1 ?_ rfl rfl rfl rfl rfl rfl rfl ?_ | refine qaa 2 ?_ rfl rfl rfl rfl rfl rfl rfl ?_); rfl; simp only [List.set_cons_zero, List.set_cons_succ]) | ((first | refine qab 0 ?_ rfl rfl rfl rfl rfl rfl rfl ?_ | refine qab 1 ?_ rfl rfl rfl rfl rfl rfl rfl ?_ | refine qab 2 ?_ rfl rfl rfl rfl rfl rfl rfl ?_); rfl; simp only [over, List.set_cons_zero, List.set_cons_succ])) | refine qaA ?_ | refine qar ?_)
    refine qaK 1 rfl rfl rfl rfl (fun w' hl => ⟨{ s with maxHeight := ⟨1, -1⟩ }, rfl, (AllOk.over (j := 23) hs (allOk_of (c := Val.cells ⟨1, -1⟩) (by decide))), hl.mod, hl.inv⟩)
  repeat (first | refine qan ?_ | refine qaj ?_ | refine qaf ?_ | refine qad ?_ | refine SX.block ?_ | refine qaC ?_ | refine qas rfl ?_ | (refine qau ?_; (refine qac (qam 0 rfl rfl rfl) rfl ?_ ?_ ?_); rfl; rfl) | (refine qal ?_; (refine qac (qag rfl) rfl ?_ ?_ ?_); rfl; rfl) | (refine l_eql ?_; (refine qac (qaP rfl rfl (by omega)) rfl ?_ ?_ ?_); rfl; rfl) | (refine qay ?_; first | ((first | refine qah 0 ?_ rfl rfl rfl rfl rfl rfl ?_ | refine qah 1 ?_ rfl rfl rfl rfl rfl rfl ?_ | refine qah 2 ?_ rfl rfl rfl rfl rfl rfl ?_); rfl; simp only [List.set_cons_zero, List.set_cons_succ]) | ((first | refine qaa 0 ?_ rfl rfl rfl rfl rfl rfl rfl ?_ | refine qaa 1 ?_ rfl rfl rfl rfl rfl rfl rfl ?_ | refine qaa 2 ?_ rfl rfl rfl rfl rfl rfl rfl ?_); rfl; simp only [List.set_cons_zero, List.set_cons_succ]) | ((first | refine qab 0 ?_ rfl rfl rfl rfl rfl rfl rfl ?_ | refine qab 1 ?_ rfl rfl rfl rfl rfl rfl rfl ?_ | refine qab 2 ?_ rfl rfl rfl rfl rfl rfl rfl ?_); rfl; simp only [over, List.set_cons_zero, List.set_cons_succ])) | refine qaA ?_ | refine qar ?_)
  refine qaK 1 rfl rfl rfl rfl (fun w' hl => ⟨s, rfl, hs, hl.mod, hl.inv⟩)
end Go.Proofs.Ythffgbhphjkdeaa
