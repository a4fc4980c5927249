/-
  PROVED: contracts of functions and words on memory, several texts put together: what each says stands at its theorems. Conditions: as told there.
-/
import Derived.Test.YthffgbhphjkdeaaMFe
set_option linter.unusedVariables false
set_option linter.unusedSimpArgs false
namespace Go.Proofs.Ythffgbhphjkdeaa
open Go.RowKit
set_option linter.unusedVariables false
set_option linter.unusedSimpArgs false

set_option maxRecDepth 100000 in
set_option maxHeartbeats 8000000 in
theorem l06Style_d (B gc : Nat) (w : World) (hc : Cur B 141 w gc) : Calls Try.prog 70 #[.pointer (some ⟨gc, 0, none⟩)] w (DrewV 141 B gc w (fun v : Style => .agg v.cells.toArray) (fun v => AllOk v.cells)) := by
  refine calls_draw (as_ := [.pointer (some ⟨gc, 0, none⟩)]) hc Try.func70 rfl rfl (fun a h1 h2 h3 => ((Fr.nil h1 h2).arg (h3 0 _ rfl))) ?_
  repeat (first | refine qan ?_ | refine qaj ?_ | refine qaf ?_ | refine qad ?_ | (refine qau ?_; (refine qac (qao rfl (fun w hl => sstyleNew_any _)) rfl ?_ ?_ ?_); rfl; rfl) | (refine qap ?_; (refine qac (qak rfl) rfl ?_ ?_ ?_); rfl; rfl) | (refine qaH ?_; refine SXl.alloc ?_ ?_ (fun g => ?_); rfl; rfl) | (refine qas ?_; first | ((first | refine qag 0 ?_ rfl rfl rfl rfl rfl rfl ?_ | refine qag 1 ?_ rfl rfl rfl rfl rfl rfl ?_ | refine qag 2 ?_ rfl rfl rfl rfl rfl rfl ?_); rfl; simp only [List.set_cons_zero, List.set_cons_succ]) | ((first | refine qaa 0 ?_ rfl rfl rfl rfl rfl rfl rfl ?_ | refine qaa 1 ?_ rfl rfl rfl rfl rfl rfl rfl ?_ | refine qaa 2 ?_ rfl rfl rfl rfl rfl rfl rfl ?_); rfl; simp only [List.set_cons_zero, List.set_cons_succ]) | ((first | refine qab 0 ?_ rfl rfl rfl rfl rfl rfl rfl ?_ | refine qab 1 ?_ rfl rfl rfl rfl rfl rfl rfl ?_ | refine qab 2 ?_ rfl rfl rfl rfl rfl rfl rfl ?_); rfl; simp only [over, List.set_cons_zero, List.set_cons_succ])))
  rename_i g2
  revert g; intro g3
  skip
  refine qau ?_
  refine qaB (ξ := Int) (v := fun x : Int => .int .i64 x) rfl rfl rfl (fun x => 0 ≤ x ∧ x < 4) (fun w hl => below_d B gc w hl.inv 4 (by decide) (by decide)) (fun x1 h1 => ?_)
  repeat (first | refine qan ?_ | refine qaj ?_ | refine qaf ?_ | refine qad ?_ | (refine qai ?_; (refine qac (qae rfl) rfl ?_ ?_ ?_); rfl; rfl) | (refine qap ?_; (refine qac (qak rfl) rfl ?_ ?_ ?_); rfl; rfl) | (refine l_add ?_; (refine qac (OpW.addi rfl rfl (by omega) (by omega)) rfl ?_ ?_ ?_); rfl; rfl) | (refine qas ?_; first | ((first | refine qag 0 ?_ rfl rfl rfl rfl rfl rfl ?_ | refine qag 1 ?_ rfl rfl rfl rfl rfl rfl ?_ | refine qag 2 ?_ rfl rfl rfl rfl rfl rfl ?_); rfl; simp only [List.set_cons_zero, List.set_cons_succ]) | ((first | refine qaa 0 ?_ rfl rfl rfl rfl rfl rfl rfl ?_ | refine qaa 1 ?_ rfl rfl rfl rfl rfl rfl rfl ?_ | refine qaa 2 ?_ rfl rfl rfl rfl rfl rfl rfl ?_); rfl; simp only [List.set_cons_zero, List.set_cons_succ]) | ((first | refine qab 0 ?_ rfl rfl rfl rfl rfl rfl rfl ?_ | refine qab 1 ?_ rfl rfl rfl rfl rfl rfl rfl ?_ | refine qab 2 ?_ rfl rfl rfl rfl rfl rfl rfl ?_); rfl; simp only [over, List.set_cons_zero, List.set_cons_succ])))
  refine qau ?_
  refine qaB (ξ := Bool) (v := fun b => .bool b) rfl rfl rfl (fun _ => True) (fun w hl => once_d B gc w hl.inv 3 (by decide)) (fun b1 _ => ?_)
  repeat (first | refine qaj ?_ | refine qad ?_)
  refine SX.join (ι := Style) (fun s => AllOk s.cells) (fun s => [⟨g3, s.cells, 66⟩, ⟨g2, (default : Style).cells, 66⟩]) (fun _ => []) (fun _ => []) (fun _ => [(0, .pointer (some ⟨gc, 0, none⟩)), (2, .pointer (some ⟨g2, 0, none⟩)), (3, .pointer (some ⟨g3, 0, none⟩))]) ?_ ?_
  · cases b1
    · repeat (first | refine qaC ?_ | refine qat rfl ?_)
      refine SQ.join ({ newStyle with dir := 1 + x1 }) (((allOk_of (c := newStyle.cells) (by decide)).set (cellOk_int (n := 1 + x1) ⟨by omega, by omega⟩) 0)) ?_ (fun _ hl => hl)
      (repeat (first | exact subF_nil _ | (refine subF_cons rfl ?_) | (refine subF_consv rfl (by rfl) ?_)))
    · repeat (first | refine qaf ?_ | refine qaq rfl ?_ | (refine qap ?_; (refine qac (qak rfl) rfl ?_ ?_ ?_); rfl; rfl))
      skip
      refine qau ?_
      refine qaB (ξ := Int) (v := fun x : Int => .int .i64 x) rfl rfl rfl (fun x => 0 ≤ x ∧ x < 3) (fun w hl => below_d B gc w hl.inv 3 (by decide) (by decide)) (fun x2 h2 => ?_)
      repeat (first | refine qaj ?_ | (refine qai ?_; (refine qac (qae rfl) rfl ?_ ?_ ?_); rfl; rfl) | (refine l_add ?_; (refine qac (OpW.addi rfl rfl (by omega) (by omega)) rfl ?_ ?_ ?_); rfl; rfl) | (refine qas ?_; first | ((first | refine qag 0 ?_ rfl rfl rfl rfl rfl rfl ?_ | refine qag 1 ?_ rfl rfl rfl rfl rfl rfl ?_ | refine qag 2 ?_ rfl rfl rfl rfl rfl rfl ?_); rfl; simp only [List.set_cons_zero, List.set_cons_succ]) | ((first | refine qaa 0 ?_ rfl rfl rfl rfl rfl rfl rfl ?_ | refine qaa 1 ?_ rfl rfl rfl rfl rfl rfl rfl ?_ | refine qaa 2 ?_ rfl rfl rfl rfl rfl rfl rfl ?_); rfl; simp only [List.set_cons_zero, List.set_cons_succ]) | ((first | refine qab 0 ?_ rfl rfl rfl rfl rfl rfl rfl ?_ | refine qab 1 ?_ rfl rfl rfl rfl rfl rfl rfl ?_ | refine qab 2 ?_ rfl rfl rfl rfl rfl rfl rfl ?_); rfl; simp only [over, List.set_cons_zero, List.set_cons_succ])))
      refine SQ.join ({ newStyle with dir := 1 + x1, wrap := 1 + x2 }) ((((allOk_of (c := newStyle.cells) (by decide)).set (cellOk_int (n := 1 + x1) ⟨by omega, by omega⟩) 0).set (cellOk_int (n := 1 + x2) ⟨by omega, by omega⟩) 1)) ?_ (fun _ hl => hl)
      (repeat (first | exact subF_nil _ | (refine subF_cons rfl ?_) | (refine subF_consv rfl (by rfl) ?_)))
  intro s1 hs1
  repeat (first | refine qan ?_ | refine qaf ?_ | (refine qap ?_; (refine qac (qak rfl) rfl ?_ ?_ ?_); rfl; rfl))
  refine qau ?_
  refine qaB (ξ := Int) (v := fun x : Int => .int .i64 x) rfl rfl rfl (fun x => 0 ≤ x ∧ x < 6) (fun w hl => below_d B gc w hl.inv 6 (by decide) (by decide)) (fun x3 h3 => ?_)
  repeat (first | refine qan ?_ | refine qaj ?_ | refine qaf ?_ | refine qad ?_ | (refine qai ?_; (refine qac (qae rfl) rfl ?_ ?_ ?_); rfl; rfl) | (refine qap ?_; (refine qac (qak rfl) rfl ?_ ?_ ?_); rfl; rfl) | (refine l_add ?_; (refine qac (OpW.addi rfl rfl (by omega) (by omega)) rfl ?_ ?_ ?_); rfl; rfl) | (refine qas ?_; first | ((first | refine qag 0 ?_ rfl rfl rfl rfl rfl rfl ?_ | refine qag 1 ?_ rfl rfl rfl rfl rfl rfl ?_ | refine qag 2 ?_ rfl rfl rfl rfl rfl rfl ?_); rfl; simp only [List.set_cons_zero, List.set_cons_succ]) | ((first | refine qaa 0 ?_ rfl rfl rfl rfl rfl rfl rfl ?_ | refine qaa 1 ?_ rfl rfl rfl rfl rfl rfl rfl ?_ | refine qaa 2 ?_ rfl rfl rfl rfl rfl rfl rfl ?_); rfl; simp only [List.set_cons_zero, List.set_cons_succ]) | ((first | refine qab 0 ?_ rfl rfl rfl rfl rfl rfl rfl ?_ | refine qab 1 ?_ rfl rfl rfl rfl rfl rfl rfl ?_ | refine qab 2 ?_ rfl rfl rfl rfl rfl rfl rfl ?_); rfl; simp only [over, List.set_cons_zero, List.set_cons_succ])))
  refine qau ?_
  refine qaB (ξ := Int) (v := fun x : Int => .int .i64 x) rfl rfl rfl (fun x => 0 ≤ x ∧ x < 5) (fun w hl => below_d B gc w hl.inv 5 (by decide) (by decide)) (fun x4 h4 => ?_)
  repeat (first | refine qan ?_ | refine qaj ?_ | refine qaf ?_ | refine qad ?_ | (refine qai ?_; (refine qac (qae rfl) rfl ?_ ?_ ?_); rfl; rfl) | (refine qap ?_; (refine qac (qak rfl) rfl ?_ ?_ ?_); rfl; rfl) | (refine l_add ?_; (refine qac (OpW.addi rfl rfl (by omega) (by omega)) rfl ?_ ?_ ?_); rfl; rfl) | (refine qas ?_; first | ((first | refine qag 0 ?_ rfl rfl rfl rfl rfl rfl ?_ | refine qag 1 ?_ rfl rfl rfl rfl rfl rfl ?_ | refine qag 2 ?_ rfl rfl rfl rfl rfl rfl ?_); rfl; simp only [List.set_cons_zero, List.set_cons_succ]) | ((first | refine qaa 0 ?_ rfl rfl rfl rfl rfl rfl rfl ?_ | refine qaa 1 ?_ rfl rfl rfl rfl rfl rfl rfl ?_ | refine qaa 2 ?_ rfl rfl rfl rfl rfl rfl rfl ?_); rfl; simp only [List.set_cons_zero, List.set_cons_succ]) | ((first | refine qab 0 ?_ rfl rfl rfl rfl rfl rfl rfl ?_ | refine qab 1 ?_ rfl rfl rfl rfl rfl rfl rfl ?_ | refine qab 2 ?_ rfl rfl rfl rfl rfl rfl rfl ?_); rfl; simp only [over, List.set_cons_zero, List.set_cons_succ])))
  refine qau ?_
  refine qaB (ξ := Bool) (v := fun b => .bool b) rfl rfl rfl (fun _ => True) (fun w hl => once_d B gc w hl.inv 3 (by decide)) (fun b2 _ => ?_)
  repeat (first | refine qaj ?_ | refine qad ?_)
  refine SX.join (ι := Style) (fun s => AllOk s.cells) (fun s => [⟨g3, s.cells, 66⟩, ⟨g2, (default : Style).cells, 66⟩]) (fun _ => []) (fun _ => []) (fun _ => [(0, .pointer (some ⟨gc, 0, none⟩)), (2, .pointer (some ⟨g2, 0, none⟩)), (3, .pointer (some ⟨g3, 0, none⟩))]) ?_ ?_
  · cases b2
    · repeat (first | refine qaC ?_ | refine qat rfl ?_)
      refine SQ.join ({ s1 with justify := 1 + x3, items := 1 + x4 }) (((hs1.set (cellOk_int (n := 1 + x3) ⟨by omega, by omega⟩) 2).set (cellOk_int (n := 1 + x4) ⟨by omega, by omega⟩) 3)) ?_ (fun _ hl => hl)
      (repeat (first | exact subF_nil _ | (refine subF_cons rfl ?_) | (refine subF_consv rfl (by rfl) ?_)))
    · repeat (first | refine qaf ?_ | refine qaq rfl ?_ | (refine qap ?_; (refine qac (qak rfl) rfl ?_ ?_ ?_); rfl; rfl))
      skip
      refine qau ?_
      refine qaB (ξ := Int) (v := fun x : Int => .int .i64 x) rfl rfl rfl (fun x => 0 ≤ x ∧ x < 6) (fun w hl => below_d B gc w hl.inv 6 (by decide) (by decide)) (fun x5 h5 => ?_)
      repeat (first | refine qaj ?_ | (refine qai ?_; (refine qac (qae rfl) rfl ?_ ?_ ?_); rfl; rfl) | (refine qas ?_; first | ((first | refine qag 0 ?_ rfl rfl rfl rfl rfl rfl ?_ | refine qag 1 ?_ rfl rfl rfl rfl rfl rfl ?_ | refine qag 2 ?_ rfl rfl rfl rfl rfl rfl ?_); rfl; simp only [List.set_cons_zero, List.set_cons_succ]) | ((first | refine qaa 0 ?_ rfl rfl rfl rfl rfl rfl rfl ?_ | refine qaa 1 ?_ rfl rfl rfl rfl rfl rfl rfl ?_ | refine qaa 2 ?_ rfl rfl rfl rfl rfl rfl rfl ?_); rfl; simp only [List.set_cons_zero, List.set_cons_succ]) | ((first | refine qab 0 ?_ rfl rfl rfl rfl rfl rfl rfl ?_ | refine qab 1 ?_ rfl rfl rfl rfl rfl rfl rfl ?_ | refine qab 2 ?_ rfl rfl rfl rfl rfl rfl rfl ?_); rfl; simp only [over, List.set_cons_zero, List.set_cons_succ])))
      refine SQ.join ({ s1 with justify := 1 + x3, items := 1 + x4, self := x5 }) ((((hs1.set (cellOk_int (n := 1 + x3) ⟨by omega, by omega⟩) 2).set (cellOk_int (n := 1 + x4) ⟨by omega, by omega⟩) 3).set (cellOk_int (n := x5) ⟨by omega, by omega⟩) 4)) ?_ (fun _ hl => hl)
      (repeat (first | exact subF_nil _ | (refine subF_cons rfl ?_) | (refine subF_consv rfl (by rfl) ?_)))
  intro s2 hs2
  repeat (first | refine qan ?_ | refine qaf ?_ | (refine qap ?_; (refine qac (qak rfl) rfl ?_ ?_ ?_); rfl; rfl))
  refine qau ?_
  refine qaB (ξ := Int) (v := fun x : Int => .int .i64 x) rfl rfl rfl (fun x => 0 ≤ x ∧ x < 6) (fun w hl => below_d B gc w hl.inv 6 (by decide) (by decide)) (fun x6 h6 => ?_)
  repeat (first | refine qan ?_ | refine qaj ?_ | refine qaf ?_ | refine qad ?_ | (refine qai ?_; (refine qac (qae rfl) rfl ?_ ?_ ?_); rfl; rfl) | (refine qap ?_; (refine qac (qak rfl) rfl ?_ ?_ ?_); rfl; rfl) | (refine l_add ?_; (refine qac (OpW.addi rfl rfl (by omega) (by omega)) rfl ?_ ?_ ?_); rfl; rfl) | (refine qas ?_; first | ((first | refine qag 0 ?_ rfl rfl rfl rfl rfl rfl ?_ | refine qag 1 ?_ rfl rfl rfl rfl rfl rfl ?_ | refine qag 2 ?_ rfl rfl rfl rfl rfl rfl ?_); rfl; simp only [List.set_cons_zero, List.set_cons_succ]) | ((first | refine qaa 0 ?_ rfl rfl rfl rfl rfl rfl rfl ?_ | refine qaa 1 ?_ rfl rfl rfl rfl rfl rfl rfl ?_ | refine qaa 2 ?_ rfl rfl rfl rfl rfl rfl rfl ?_); rfl; simp only [List.set_cons_zero, List.set_cons_succ]) | ((first | refine qab 0 ?_ rfl rfl rfl rfl rfl rfl rfl ?_ | refine qab 1 ?_ rfl rfl rfl rfl rfl rfl rfl ?_ | refine qab 2 ?_ rfl rfl rfl rfl rfl rfl rfl ?_); rfl; simp only [over, List.set_cons_zero, List.set_cons_succ])))
  refine qau ?_
  refine qaB (ξ := Bool) (v := fun b => .bool b) rfl rfl rfl (fun _ => True) (fun w hl => once_d B gc w hl.inv 10 (by decide)) (fun x7 _ => ?_)
  repeat (first | refine qan ?_ | refine qaj ?_ | refine qaf ?_ | refine qad ?_ | (refine qai ?_; (refine qac (qae rfl) rfl ?_ ?_ ?_); rfl; rfl) | (refine qap ?_; (refine qac (qak rfl) rfl ?_ ?_ ?_); rfl; rfl) | (refine qas ?_; first | ((first | refine qag 0 ?_ rfl rfl rfl rfl rfl rfl ?_ | refine qag 1 ?_ rfl rfl rfl rfl rfl rfl ?_ | refine qag 2 ?_ rfl rfl rfl rfl rfl rfl ?_); rfl; simp only [List.set_cons_zero, List.set_cons_succ]) | ((first | refine qaa 0 ?_ rfl rfl rfl rfl rfl rfl rfl ?_ | refine qaa 1 ?_ rfl rfl rfl rfl rfl rfl rfl ?_ | refine qaa 2 ?_ rfl rfl rfl rfl rfl rfl rfl ?_); rfl; simp only [List.set_cons_zero, List.set_cons_succ]) | ((first | refine qab 0 ?_ rfl rfl rfl rfl rfl rfl rfl ?_ | refine qab 1 ?_ rfl rfl rfl rfl rfl rfl rfl ?_ | refine qab 2 ?_ rfl rfl rfl rfl rfl rfl rfl ?_); rfl; simp only [over, List.set_cons_zero, List.set_cons_succ])))
  refine qau ?_
  refine qaB (ξ := Bool) (v := fun b => .bool b) rfl rfl rfl (fun _ => True) (fun w hl => once_d B gc w hl.inv 12 (by decide)) (fun x8 _ => ?_)
  repeat (first | refine qan ?_ | refine qaj ?_ | refine qaf ?_ | refine qad ?_ | (refine qai ?_; (refine qac (qae rfl) rfl ?_ ?_ ?_); rfl; rfl) | (refine qap ?_; (refine qac (qak rfl) rfl ?_ ?_ ?_); rfl; rfl) | (refine qas ?_; first | ((first | refine qag 0 ?_ rfl rfl rfl rfl rfl rfl ?_ | refine qag 1 ?_ rfl rfl rfl rfl rfl rfl ?_ | refine qag 2 ?_ rfl rfl rfl rfl rfl rfl ?_); rfl; simp only [List.set_cons_zero, List.set_cons_succ]) | ((first | refine qaa 0 ?_ rfl rfl rfl rfl rfl rfl rfl ?_ | refine qaa 1 ?_ rfl rfl rfl rfl rfl rfl rfl ?_ | refine qaa 2 ?_ rfl rfl rfl rfl rfl rfl rfl ?_); rfl; simp only [List.set_cons_zero, List.set_cons_succ]) | ((first | refine qab 0 ?_ rfl rfl rfl rfl rfl rfl rfl ?_ | refine qab 1 ?_ rfl rfl rfl rfl rfl rfl rfl ?_ | refine qab 2 ?_ rfl rfl rfl rfl rfl rfl rfl ?_); rfl; simp only [over, List.set_cons_zero, List.set_cons_succ])))
  refine qau ?_
  refine qaB (ξ := Bool) (v := fun b => .bool b) rfl rfl rfl (fun _ => True) (fun w hl => once_d B gc w hl.inv 5 (by decide)) (fun b3 _ => ?_)
  repeat (first | refine qaj ?_ | refine qad ?_)
  refine SX.join (ι := Style) (fun s => AllOk s.cells) (fun s => [⟨g3, s.cells, 66⟩, ⟨g2, (default : Style).cells, 66⟩]) (fun _ => []) (fun _ => []) (fun _ => [(0, .pointer (some ⟨gc, 0, none⟩)), (2, .pointer (some ⟨g2, 0, none⟩)), (3, .pointer (some ⟨g3, 0, none⟩))]) ?_ ?_
  · cases b3
    · repeat (first | refine qaC ?_ | refine qat rfl ?_)
      refine SQ.join ({ s2 with content := 1 + x6, apart := x7, hidden := x8 }) ((((hs2.set (cellOk_int (n := 1 + x6) ⟨by omega, by omega⟩) 5).set (cellOk_bool x7) 6).set (cellOk_bool x8) 7)) ?_ (fun _ hl => hl)
      (repeat (first | exact subF_nil _ | (refine subF_cons rfl ?_) | (refine subF_consv rfl (by rfl) ?_)))
    · repeat (first | refine qaf ?_ | refine qaq rfl ?_ | (refine qap ?_; (refine qac (qak rfl) rfl ?_ ?_ ?_); rfl; rfl))
      skip
      refine qau ?_
      refine qaB (ξ := Int) (v := fun x : Int => .int .i64 x) rfl rfl rfl (fun x => 0 ≤ x ∧ x < 5) (fun w hl => below_d B gc w hl.inv 5 (by decide) (by decide)) (fun x9 h9 => ?_)
      repeat (first | refine qaj ?_ | (refine qai ?_; (refine qac (qae rfl) rfl ?_ ?_ ?_); rfl; rfl) | (refine l_sub ?_; (refine qac (OpW.subi rfl rfl (by omega) (by omega)) rfl ?_ ?_ ?_); rfl; rfl) | (refine qas ?_; first | ((first | refine qag 0 ?_ rfl rfl rfl rfl rfl rfl ?_ | refine qag 1 ?_ rfl rfl rfl rfl rfl rfl ?_ | refine qag 2 ?_ rfl rfl rfl rfl rfl rfl ?_); rfl; simp only [List.set_cons_zero, List.set_cons_succ]) | ((first | refine qaa 0 ?_ rfl rfl rfl rfl rfl rfl rfl ?_ | refine qaa 1 ?_ rfl rfl rfl rfl rfl rfl rfl ?_ | refine qaa 2 ?_ rfl rfl rfl rfl rfl rfl rfl ?_); rfl; simp only [List.set_cons_zero, List.set_cons_succ]) | ((first | refine qab 0 ?_ rfl rfl rfl rfl rfl rfl rfl ?_ | refine qab 1 ?_ rfl rfl rfl rfl rfl rfl rfl ?_ | refine qab 2 ?_ rfl rfl rfl rfl rfl rfl rfl ?_); rfl; simp only [over, List.set_cons_zero, List.set_cons_succ])))
      refine SQ.join ({ s2 with content := 1 + x6, apart := x7, hidden := x8, order := x9 - 2 }) (((((hs2.set (cellOk_int (n := 1 + x6) ⟨by omega, by omega⟩) 5).set (cellOk_bool x7) 6).set (cellOk_bool x8) 7).set (cellOk_int (n := x9 - 2) ⟨by omega, by omega⟩) 8)) ?_ (fun _ hl => hl)
      (repeat (first | exact subF_nil _ | (refine subF_cons rfl ?_) | (refine subF_consv rfl (by rfl) ?_)))
  intro s3 hs3
  repeat (first | refine qan ?_ | refine qaf ?_ | (refine qap ?_; (refine qac (qak rfl) rfl ?_ ?_ ?_); rfl; rfl))
  refine qaR ?_
  refine SXl.lit (cells := [.int .i64 0, .int .i64 0, .int .i64 1, .int .i64 1, .int .i64 2, .int .i64 1000]) (z := .int .i64 0) ?_ ?_ rfl (by decide) (by kernel_rfl) rfl (fun gl => ?_)
  rfl; rfl
  skip
  refine qau ?_
  refine qaB (ξ := Int) (v := fun x => .int .i64 x) rfl rfl rfl (fun x => x ∈ ([0, 0, 1, 1, 2, 1000] : List Int)) (fun w hl => pick_d (l := [0, 0, 1, 1, 2, 1000]) hl (by decide) (by decide)) (fun x10 h10 => ?_)
  refine SXl.drop1 ?_
  have h10b : 0 ≤ x10 ∧ x10 ≤ 6400 := by simp at h10; omega
  repeat (first | refine qan ?_ | refine qaj ?_ | refine qaf ?_ | refine qad ?_ | (refine qai ?_; (refine qac (qae rfl) rfl ?_ ?_ ?_); rfl; rfl) | (refine qap ?_; (refine qac (qak rfl) rfl ?_ ?_ ?_); rfl; rfl) | (refine qas ?_; first | ((first | refine qag 0 ?_ rfl rfl rfl rfl rfl rfl ?_ | refine qag 1 ?_ rfl rfl rfl rfl rfl rfl ?_ | refine qag 2 ?_ rfl rfl rfl rfl rfl rfl ?_); rfl; simp only [List.set_cons_zero, List.set_cons_succ]) | ((first | refine qaa 0 ?_ rfl rfl rfl rfl rfl rfl rfl ?_ | refine qaa 1 ?_ rfl rfl rfl rfl rfl rfl rfl ?_ | refine qaa 2 ?_ rfl rfl rfl rfl rfl rfl rfl ?_); rfl; simp only [List.set_cons_zero, List.set_cons_succ]) | ((first | refine qab 0 ?_ rfl rfl rfl rfl rfl rfl rfl ?_ | refine qab 1 ?_ rfl rfl rfl rfl rfl rfl rfl ?_ | refine qab 2 ?_ rfl rfl rfl rfl rfl rfl rfl ?_); rfl; simp only [over, List.set_cons_zero, List.set_cons_succ])))
  refine qaR ?_
  refine SXl.lit (cells := [.int .i64 0, .int .i64 1, .int .i64 1, .int .i64 2, .int .i64 1000]) (z := .int .i64 0) ?_ ?_ rfl (by decide) (by kernel_rfl) rfl (fun gl => ?_)
  rfl; rfl
  skip
  refine qau ?_
  refine qaB (ξ := Int) (v := fun x => .int .i64 x) rfl rfl rfl (fun x => x ∈ ([0, 1, 1, 2, 1000] : List Int)) (fun w hl => pick_d (l := [0, 1, 1, 2, 1000]) hl (by decide) (by decide)) (fun x11 h11 => ?_)
  refine SXl.drop1 ?_
  have h11b : 0 ≤ x11 ∧ x11 ≤ 6400 := by simp at h11; omega
  repeat (first | refine qan ?_ | refine qaj ?_ | refine qaf ?_ | refine qad ?_ | (refine qai ?_; (refine qac (qae rfl) rfl ?_ ?_ ?_); rfl; rfl) | (refine qap ?_; (refine qac (qak rfl) rfl ?_ ?_ ?_); rfl; rfl) | (refine qas ?_; first | ((first | refine qag 0 ?_ rfl rfl rfl rfl rfl rfl ?_ | refine qag 1 ?_ rfl rfl rfl rfl rfl rfl ?_ | refine qag 2 ?_ rfl rfl rfl rfl rfl rfl ?_); rfl; simp only [List.set_cons_zero, List.set_cons_succ]) | ((first | refine qaa 0 ?_ rfl rfl rfl rfl rfl rfl rfl ?_ | refine qaa 1 ?_ rfl rfl rfl rfl rfl rfl rfl ?_ | refine qaa 2 ?_ rfl rfl rfl rfl rfl rfl rfl ?_); rfl; simp only [List.set_cons_zero, List.set_cons_succ]) | ((first | refine qab 0 ?_ rfl rfl rfl rfl rfl rfl rfl ?_ | refine qab 1 ?_ rfl rfl rfl rfl rfl rfl rfl ?_ | refine qab 2 ?_ rfl rfl rfl rfl rfl rfl rfl ?_); rfl; simp only [over, List.set_cons_zero, List.set_cons_succ])))
  refine qau ?_
  refine qaB (ξ := Val) (v := fun v => .agg v.cells.toArray) rfl rfl rfl (fun v => AllOk v.cells) (fun w hl => l04Value_d B gc w hl.inv) (fun x12 h12 => ?_)
  repeat (first | refine qan ?_ | refine qaj ?_ | refine qaf ?_ | refine qad ?_ | (refine qai ?_; (refine qac (qae rfl) rfl ?_ ?_ ?_); rfl; rfl) | (refine qap ?_; (refine qac (qak rfl) rfl ?_ ?_ ?_); rfl; rfl) | (refine qas ?_; first | ((first | refine qag 0 ?_ rfl rfl rfl rfl rfl rfl ?_ | refine qag 1 ?_ rfl rfl rfl rfl rfl rfl ?_ | refine qag 2 ?_ rfl rfl rfl rfl rfl rfl ?_); rfl; simp only [List.set_cons_zero, List.set_cons_succ]) | ((first | refine qaa 0 ?_ rfl rfl rfl rfl rfl rfl rfl ?_ | refine qaa 1 ?_ rfl rfl rfl rfl rfl rfl rfl ?_ | refine qaa 2 ?_ rfl rfl rfl rfl rfl rfl rfl ?_); rfl; simp only [List.set_cons_zero, List.set_cons_succ]) | ((first | refine qab 0 ?_ rfl rfl rfl rfl rfl rfl rfl ?_ | refine qab 1 ?_ rfl rfl rfl rfl rfl rfl rfl ?_ | refine qab 2 ?_ rfl rfl rfl rfl rfl rfl rfl ?_); rfl; simp only [over, List.set_cons_zero, List.set_cons_succ])))
  refine qau ?_
  refine qaB (ξ := Val) (v := fun v => .agg v.cells.toArray) rfl rfl rfl (fun v => AllOk v.cells) (fun w hl => l04Value_d B gc w hl.inv) (fun x13 h13 => ?_)
  repeat (first | refine qan ?_ | refine qaj ?_ | refine qaf ?_ | refine qad ?_ | (refine qai ?_; (refine qac (qae rfl) rfl ?_ ?_ ?_); rfl; rfl) | (refine qap ?_; (refine qac (qak rfl) rfl ?_ ?_ ?_); rfl; rfl) | (refine qas ?_; first | ((first | refine qag 0 ?_ rfl rfl rfl rfl rfl rfl ?_ | refine qag 1 ?_ rfl rfl rfl rfl rfl rfl ?_ | refine qag 2 ?_ rfl rfl rfl rfl rfl rfl ?_); rfl; simp only [List.set_cons_zero, List.set_cons_succ]) | ((first | refine qaa 0 ?_ rfl rfl rfl rfl rfl rfl rfl ?_ | refine qaa 1 ?_ rfl rfl rfl rfl rfl rfl rfl ?_ | refine qaa 2 ?_ rfl rfl rfl rfl rfl rfl rfl ?_); rfl; simp only [List.set_cons_zero, List.set_cons_succ]) | ((first | refine qab 0 ?_ rfl rfl rfl rfl rfl rfl rfl ?_ | refine qab 1 ?_ rfl rfl rfl rfl rfl rfl rfl ?_ | refine qab 2 ?_ rfl rfl rfl rfl rfl rfl rfl ?_); rfl; simp only [over, List.set_cons_zero, List.set_cons_succ])))
  refine qau ?_
  refine qaB (ξ := Val) (v := fun v => .agg v.cells.toArray) rfl rfl rfl (fun v => AllOk v.cells) (fun w hl => l04Value_d B gc w hl.inv) (fun x14 h14 => ?_)
  repeat (first | refine qan ?_ | refine qaj ?_ | refine qaf ?_ | refine qad ?_ | (refine qai ?_; (refine qac (qae rfl) rfl ?_ ?_ ?_); rfl; rfl) | (refine qap ?_; (refine qac (qak rfl) rfl ?_ ?_ ?_); rfl; rfl) | (refine qas ?_; first | ((first | refine qag 0 ?_ rfl rfl rfl rfl rfl rfl ?_ | refine qag 1 ?_ rfl rfl rfl rfl rfl rfl ?_ | refine qag 2 ?_ rfl rfl rfl rfl rfl rfl ?_); rfl; simp only [List.set_cons_zero, List.set_cons_succ]) | ((first | refine qaa 0 ?_ rfl rfl rfl rfl rfl rfl rfl ?_ | refine qaa 1 ?_ rfl rfl rfl rfl rfl rfl rfl ?_ | refine qaa 2 ?_ rfl rfl rfl rfl rfl rfl rfl ?_); rfl; simp only [List.set_cons_zero, List.set_cons_succ]) | ((first | refine qab 0 ?_ rfl rfl rfl rfl rfl rfl rfl ?_ | refine qab 1 ?_ rfl rfl rfl rfl rfl rfl rfl ?_ | refine qab 2 ?_ rfl rfl rfl rfl rfl rfl rfl ?_); rfl; simp only [over, List.set_cons_zero, List.set_cons_succ])))
  refine qau ?_
  refine qaB (ξ := Bool) (v := fun b => .bool b) rfl rfl rfl (fun _ => True) (fun w hl => once_d B gc w hl.inv 4 (by decide)) (fun b4 _ => ?_)
  repeat (first | refine qaj ?_ | refine qad ?_)
  refine SX.join (ι := Style) (fun s => AllOk s.cells) (fun s => [⟨g3, s.cells, 66⟩, ⟨g2, (default : Style).cells, 66⟩]) (fun _ => []) (fun _ => []) (fun _ => [(0, .pointer (some ⟨gc, 0, none⟩)), (2, .pointer (some ⟨g2, 0, none⟩)), (3, .pointer (some ⟨g3, 0, none⟩))]) ?_ ?_
  · cases b4
    · repeat (first | refine qaC ?_ | refine qat rfl ?_)
      refine SQ.join ({ s3 with grow := x10, shrink := x11, basis := x12, width := x13, height := x14 }) ((AllOk.over (j := 15) (AllOk.over (j := 13) (AllOk.over (j := 11) ((hs3.set (cellOk_int (n := x10) ⟨by omega, by omega⟩) 9).set (cellOk_int (n := x11) ⟨by omega, by omega⟩) 10) h12) h13) h14)) ?_ (fun _ hl => hl)
      (repeat (first | exact subF_nil _ | (refine subF_cons rfl ?_) | (refine subF_consv rfl (by rfl) ?_)))
    · repeat (first | refine qan ?_ | refine qaf ?_ | refine qaq rfl ?_ | (refine qap ?_; (refine qac (qak rfl) rfl ?_ ?_ ?_); rfl; rfl))
      skip
      refine qau ?_
      refine qaB (ξ := Val) (v := fun v => .agg v.cells.toArray) rfl rfl rfl (fun v => AllOk v.cells) (fun w hl => l04Value_d B gc w hl.inv) (fun x15 h15 => ?_)
      repeat (first | refine qaj ?_ | refine qaf ?_ | refine qad ?_ | (refine qai ?_; (refine qac (qae rfl) rfl ?_ ?_ ?_); rfl; rfl) | (refine qap ?_; (refine qac (qak rfl) rfl ?_ ?_ ?_); rfl; rfl) | (refine qas ?_; first | ((first | refine qag 0 ?_ rfl rfl rfl rfl rfl rfl ?_ | refine qag 1 ?_ rfl rfl rfl rfl rfl rfl ?_ | refine qag 2 ?_ rfl rfl rfl rfl rfl rfl ?_); rfl; simp only [List.set_cons_zero, List.set_cons_succ]) | ((first | refine qaa 0 ?_ rfl rfl rfl rfl rfl rfl rfl ?_ | refine qaa 1 ?_ rfl rfl rfl rfl rfl rfl rfl ?_ | refine qaa 2 ?_ rfl rfl rfl rfl rfl rfl rfl ?_); rfl; simp only [List.set_cons_zero, List.set_cons_succ]) | ((first | refine qab 0 ?_ rfl rfl rfl rfl rfl rfl rfl ?_ | refine qab 1 ?_ rfl rfl rfl rfl rfl rfl rfl ?_ | refine qab 2 ?_ rfl rfl rfl rfl rfl rfl rfl ?_); rfl; simp only [over, List.set_cons_zero, List.set_cons_succ])))
      refine qau ?_
      refine qaB (ξ := Val) (v := fun v => .agg v.cells.toArray) rfl rfl rfl (fun v => AllOk v.cells) (fun w hl => l04Value_d B gc w hl.inv) (fun x16 h16 => ?_)
      repeat (first | refine qaj ?_ | (refine qai ?_; (refine qac (qae rfl) rfl ?_ ?_ ?_); rfl; rfl) | (refine qas ?_; first | ((first | refine qag 0 ?_ rfl rfl rfl rfl rfl rfl ?_ | refine qag 1 ?_ rfl rfl rfl rfl rfl rfl ?_ | refine qag 2 ?_ rfl rfl rfl rfl rfl rfl ?_); rfl; simp only [List.set_cons_zero, List.set_cons_succ]) | ((first | refine qaa 0 ?_ rfl rfl rfl rfl rfl rfl rfl ?_ | refine qaa 1 ?_ rfl rfl rfl rfl rfl rfl rfl ?_ | refine qaa 2 ?_ rfl rfl rfl rfl rfl rfl rfl ?_); rfl; simp only [List.set_cons_zero, List.set_cons_succ]) | ((first | refine qab 0 ?_ rfl rfl rfl rfl rfl rfl rfl ?_ | refine qab 1 ?_ rfl rfl rfl rfl rfl rfl rfl ?_ | refine qab 2 ?_ rfl rfl rfl rfl rfl rfl rfl ?_); rfl; simp only [over, List.set_cons_zero, List.set_cons_succ])))
      refine SQ.join ({ s3 with grow := x10, shrink := x11, basis := x12, width := x13, height := x14, minWidth := x15, maxWidth := x16 }) ((AllOk.over (j := 21) (AllOk.over (j := 17) (AllOk.over (j := 15) (AllOk.over (j := 13) (AllOk.over (j := 11) ((hs3.set (cellOk_int (n := x10) ⟨by omega, by omega⟩) 9).set (cellOk_int (n := x11) ⟨by omega, by omega⟩) 10) h12) h13) h14) h15) h16)) ?_ (fun _ hl => hl)
      (repeat (first | exact subF_nil _ | (refine subF_cons rfl ?_) | (refine subF_consv rfl (by rfl) ?_)))
  intro s4 hs4
  repeat (first | refine qan ?_ | refine qaf ?_ | (refine qap ?_; (refine qac (qak rfl) rfl ?_ ?_ ?_); rfl; rfl))
  refine qau ?_
  refine qaB (ξ := Bool) (v := fun b => .bool b) rfl rfl rfl (fun _ => True) (fun w hl => once_d B gc w hl.inv 4 (by decide)) (fun b5 _ => ?_)
  repeat (first | refine qaj ?_ | refine qad ?_)
  refine SX.join (ι := Style) (fun s => AllOk s.cells) (fun s => [⟨g3, s.cells, 66⟩, ⟨g2, (default : Style).cells, 66⟩]) (fun _ => []) (fun _ => []) (fun _ => [(0, .pointer (some ⟨gc, 0, none⟩)), (2, .pointer (some ⟨g2, 0, none⟩)), (3, .pointer (some ⟨g3, 0, none⟩))]) ?_ ?_
  · cases b5
    · repeat (first | refine qaC ?_ | refine qat rfl ?_)
      refine SQ.join (s4) (hs4) ?_ (fun _ hl => hl)
      (repeat (first | exact subF_nil _ | (refine subF_cons rfl ?_) | (refine subF_consv rfl (by rfl) ?_)))
    · repeat (first | refine qan ?_ | refine qaf ?_ | refine qaq rfl ?_ | (refine qap ?_; (refine qac (qak rfl) rfl ?_ ?_ ?_); rfl; rfl))
      skip
      refine qau ?_
      refine qaB (ξ := Val) (v := fun v => .agg v.cells.toArray) rfl rfl rfl (fun v => AllOk v.cells) (fun w hl => l04Value_d B gc w hl.inv) (fun x17 h17 => ?_)
      repeat (first | refine qaj ?_ | refine qaf ?_ | refine qad ?_ | (refine qai ?_; (refine qac (qae rfl) rfl ?_ ?_ ?_); rfl; rfl) | (refine qap ?_; (refine qac (qak rfl) rfl ?_ ?_ ?_); rfl; rfl) | (refine qas ?_; first | ((first | refine qag 0 ?_ rfl rfl rfl rfl rfl rfl ?_ | refine qag 1 ?_ rfl rfl rfl rfl rfl rfl ?_ | refine qag 2 ?_ rfl rfl rfl rfl rfl rfl ?_); rfl; simp only [List.set_cons_zero, List.set_cons_succ]) | ((first | refine qaa 0 ?_ rfl rfl rfl rfl rfl rfl rfl ?_ | refine qaa 1 ?_ rfl rfl rfl rfl rfl rfl rfl ?_ | refine qaa 2 ?_ rfl rfl rfl rfl rfl rfl rfl ?_); rfl; simp only [List.set_cons_zero, List.set_cons_succ]) | ((first | refine qab 0 ?_ rfl rfl rfl rfl rfl rfl rfl ?_ | refine qab 1 ?_ rfl rfl rfl rfl rfl rfl rfl ?_ | refine qab 2 ?_ rfl rfl rfl rfl rfl rfl rfl ?_); rfl; simp only [over, List.set_cons_zero, List.set_cons_succ])))
      refine qau ?_
      refine qaB (ξ := Val) (v := fun v => .agg v.cells.toArray) rfl rfl rfl (fun v => AllOk v.cells) (fun w hl => l04Value_d B gc w hl.inv) (fun x18 h18 => ?_)
      repeat (first | refine qaj ?_ | (refine qai ?_; (refine qac (qae rfl) rfl ?_ ?_ ?_); rfl; rfl) | (refine qas ?_; first | ((first | refine qag 0 ?_ rfl rfl rfl rfl rfl rfl ?_ | refine qag 1 ?_ rfl rfl rfl rfl rfl rfl ?_ | refine qag 2 ?_ rfl rfl rfl rfl rfl rfl ?_); rfl; simp only [List.set_cons_zero, List.set_cons_succ]) | ((first | refine qaa 0 ?_ rfl rfl rfl rfl rfl rfl rfl ?_ | refine qaa 1 ?_ rfl rfl rfl rfl rfl rfl rfl ?_ | refine qaa 2 ?_ rfl rfl rfl rfl rfl rfl rfl ?_); rfl; simp only [List.set_cons_zero, List.set_cons_succ]) | ((first | refine qab 0 ?_ rfl rfl rfl rfl rfl rfl rfl ?_ | refine qab 1 ?_ rfl rfl rfl rfl rfl rfl rfl ?_ | refine qab 2 ?_ rfl rfl rfl rfl rfl rfl rfl ?_); rfl; simp only [over, List.set_cons_zero, List.set_cons_succ])))
      refine SQ.join ({ s4 with minHeight := x17, maxHeight := x18 }) ((AllOk.over (j := 23) (AllOk.over (j := 19) hs4 h17) h18)) ?_ (fun _ hl => hl)
      (repeat (first | exact subF_nil _ | (refine subF_cons rfl ?_) | (refine subF_consv rfl (by rfl) ?_)))
  intro s5 hs5
  repeat (first | refine qan ?_ | refine qaf ?_ | (refine qap ?_; (refine qac (qak rfl) rfl ?_ ?_ ?_); rfl; rfl))
  refine qau ?_
  refine qaB (ξ := Bool) (v := fun b => .bool b) rfl rfl rfl (fun _ => True) (fun w hl => once_d B gc w hl.inv 8 (by decide)) (fun b6 _ => ?_)
  repeat (first | refine qaj ?_ | refine qad ?_)
  refine SX.join (ι := Style) (fun s => AllOk s.cells) (fun s => [⟨g3, s.cells, 66⟩, ⟨g2, (default : Style).cells, 66⟩]) (fun _ => []) (fun _ => []) (fun _ => [(0, .pointer (some ⟨gc, 0, none⟩)), (2, .pointer (some ⟨g2, 0, none⟩)), (3, .pointer (some ⟨g3, 0, none⟩))]) ?_ ?_
  · cases b6
    · repeat (first | refine qaC ?_ | refine qat rfl ?_)
      refine SQ.join (s5) (hs5) ?_ (fun _ hl => hl)
      (repeat (first | exact subF_nil _ | (refine subF_cons rfl ?_) | (refine subF_consv rfl (by rfl) ?_)))
    · repeat (first | refine qaf ?_ | refine qaq rfl ?_ | (refine qap ?_; (refine qac (qak rfl) rfl ?_ ?_ ?_); rfl; rfl))
      skip
      refine qaR ?_
      refine SXl.lit (cells := [.int .i64 64, .int .i64 32, .int .i64 128, .int .i64 100, .int .i64 1, .int .i64 6400]) (z := .int .i64 0) ?_ ?_ rfl (by decide) (by kernel_rfl) rfl (fun gl => ?_)
      rfl; rfl
      skip
      refine qau ?_
      refine qaB (ξ := Int) (v := fun x => .int .i64 x) rfl rfl rfl (fun x => x ∈ ([64, 32, 128, 100, 1, 6400] : List Int)) (fun w hl => pick_d (l := [64, 32, 128, 100, 1, 6400]) hl (by decide) (by decide)) (fun x19 h19 => ?_)
      refine SXl.drop1 ?_
      have h19b : 0 ≤ x19 ∧ x19 ≤ 6400 := by simp at h19; omega
      repeat (first | refine qaj ?_ | (refine qai ?_; (refine qac (qae rfl) rfl ?_ ?_ ?_); rfl; rfl) | (refine qas ?_; first | ((first | refine qag 0 ?_ rfl rfl rfl rfl rfl rfl ?_ | refine qag 1 ?_ rfl rfl rfl rfl rfl rfl ?_ | refine qag 2 ?_ rfl rfl rfl rfl rfl rfl ?_); rfl; simp only [List.set_cons_zero, List.set_cons_succ]) | ((first | refine qaa 0 ?_ rfl rfl rfl rfl rfl rfl rfl ?_ | refine qaa 1 ?_ rfl rfl rfl rfl rfl rfl rfl ?_ | refine qaa 2 ?_ rfl rfl rfl rfl rfl rfl rfl ?_); rfl; simp only [List.set_cons_zero, List.set_cons_succ]) | ((first | refine qab 0 ?_ rfl rfl rfl rfl rfl rfl rfl ?_ | refine qab 1 ?_ rfl rfl rfl rfl rfl rfl rfl ?_ | refine qab 2 ?_ rfl rfl rfl rfl rfl rfl rfl ?_); rfl; simp only [over, List.set_cons_zero, List.set_cons_succ])))
      refine SQ.join ({ s5 with ratio := x19 }) ((hs5.set (cellOk_int (n := x19) ⟨by omega, by omega⟩) 25)) ?_ (fun _ hl => hl)
      (repeat (first | exact subF_nil _ | (refine subF_cons rfl ?_) | (refine subF_consv rfl (by rfl) ?_)))
  intro s6 hs6
  repeat (first | refine qan ?_ | refine qaf ?_ | (refine qap ?_; (refine qac (qak rfl) rfl ?_ ?_ ?_); rfl; rfl))
  refine qau ?_
  refine qaB (ξ := Bool) (v := fun b => .bool b) rfl rfl rfl (fun _ => True) (fun w hl => once_d B gc w hl.inv 3 (by decide)) (fun b7 _ => ?_)
  repeat (first | refine qaj ?_ | refine qad ?_)
  refine SX.join (ι := Style) (fun s => AllOk s.cells) (fun s => [⟨g3, s.cells, 66⟩, ⟨g2, (default : Style).cells, 66⟩]) (fun _ => []) (fun _ => []) (fun _ => [(0, .pointer (some ⟨gc, 0, none⟩)), (2, .pointer (some ⟨g2, 0, none⟩)), (3, .pointer (some ⟨g3, 0, none⟩))]) ?_ ?_
  · cases b7
    · repeat (first | refine qaC ?_ | refine qat rfl ?_)
      refine SQ.join (s6) (hs6) ?_ (fun _ hl => hl)
      (repeat (first | exact subF_nil _ | (refine subF_cons rfl ?_) | (refine subF_consv rfl (by rfl) ?_)))
    · repeat (first | refine qaf ?_ | refine qaq rfl ?_ | (refine qap ?_; (refine qac (qak rfl) rfl ?_ ?_ ?_); rfl; rfl))
      skip
      refine qau ?_
      refine qaB (ξ := Sides) (v := fun v => .agg v.cells.toArray) rfl rfl rfl (fun v => AllOk v.cells) (fun w hl => l05Sides_d B gc w hl.inv) (fun x20 h20 => ?_)
      repeat (first | refine qaj ?_ | (refine qai ?_; (refine qac (qae rfl) rfl ?_ ?_ ?_); rfl; rfl) | (refine qas ?_; first | ((first | refine qag 0 ?_ rfl rfl rfl rfl rfl rfl ?_ | refine qag 1 ?_ rfl rfl rfl rfl rfl rfl ?_ | refine qag 2 ?_ rfl rfl rfl rfl rfl rfl ?_); rfl; simp only [List.set_cons_zero, List.set_cons_succ]) | ((first | refine qaa 0 ?_ rfl rfl rfl rfl rfl rfl rfl ?_ | refine qaa 1 ?_ rfl rfl rfl rfl rfl rfl rfl ?_ | refine qaa 2 ?_ rfl rfl rfl rfl rfl rfl rfl ?_); rfl; simp only [List.set_cons_zero, List.set_cons_succ]) | ((first | refine qab 0 ?_ rfl rfl rfl rfl rfl rfl rfl ?_ | refine qab 1 ?_ rfl rfl rfl rfl rfl rfl rfl ?_ | refine qab 2 ?_ rfl rfl rfl rfl rfl rfl rfl ?_); rfl; simp only [over, List.set_cons_zero, List.set_cons_succ])))
      refine SQ.join ({ s6 with margin := x20 }) ((AllOk.over (j := 26) hs6 h20)) ?_ (fun _ hl => hl)
      (repeat (first | exact subF_nil _ | (refine subF_cons rfl ?_) | (refine subF_consv rfl (by rfl) ?_)))
  intro s7 hs7
  repeat (first | refine qan ?_ | refine qaf ?_ | (refine qap ?_; (refine qac (qak rfl) rfl ?_ ?_ ?_); rfl; rfl))
  refine qau ?_
  refine qaB (ξ := Bool) (v := fun b => .bool b) rfl rfl rfl (fun _ => True) (fun w hl => once_d B gc w hl.inv 4 (by decide)) (fun b8 _ => ?_)
  repeat (first | refine qaj ?_ | refine qad ?_)
  refine SX.join (ι := Style) (fun s => AllOk s.cells) (fun s => [⟨g3, s.cells, 66⟩, ⟨g2, (default : Style).cells, 66⟩]) (fun _ => []) (fun _ => []) (fun _ => [(0, .pointer (some ⟨gc, 0, none⟩)), (2, .pointer (some ⟨g2, 0, none⟩)), (3, .pointer (some ⟨g3, 0, none⟩))]) ?_ ?_
  · cases b8
    · repeat (first | refine qaC ?_ | refine qat rfl ?_)
      refine SQ.join (s7) (hs7) ?_ (fun _ hl => hl)
      (repeat (first | exact subF_nil _ | (refine subF_cons rfl ?_) | (refine subF_consv rfl (by rfl) ?_)))
    · repeat (first | refine qaf ?_ | refine qaq rfl ?_ | (refine qap ?_; (refine qac (qak rfl) rfl ?_ ?_ ?_); rfl; rfl))
      skip
      refine qau ?_
      refine qaB (ξ := Sides) (v := fun v => .agg v.cells.toArray) rfl rfl rfl (fun v => AllOk v.cells) (fun w hl => l05Sides_d B gc w hl.inv) (fun x21 h21 => ?_)
      repeat (first | refine qaj ?_ | (refine qai ?_; (refine qac (qae rfl) rfl ?_ ?_ ?_); rfl; rfl) | (refine qas ?_; first | ((first | refine qag 0 ?_ rfl rfl rfl rfl rfl rfl ?_ | refine qag 1 ?_ rfl rfl rfl rfl rfl rfl ?_ | refine qag 2 ?_ rfl rfl rfl rfl rfl rfl ?_); rfl; simp only [List.set_cons_zero, List.set_cons_succ]) | ((first | refine qaa 0 ?_ rfl rfl rfl rfl rfl rfl rfl ?_ | refine qaa 1 ?_ rfl rfl rfl rfl rfl rfl rfl ?_ | refine qaa 2 ?_ rfl rfl rfl rfl rfl rfl rfl ?_); rfl; simp only [List.set_cons_zero, List.set_cons_succ]) | ((first | refine qab 0 ?_ rfl rfl rfl rfl rfl rfl rfl ?_ | refine qab 1 ?_ rfl rfl rfl rfl rfl rfl rfl ?_ | refine qab 2 ?_ rfl rfl rfl rfl rfl rfl rfl ?_); rfl; simp only [over, List.set_cons_zero, List.set_cons_succ])))
      refine SQ.join ({ s7 with inset := x21 }) ((AllOk.over (j := 38) hs7 h21)) ?_ (fun _ hl => hl)
      (repeat (first | exact subF_nil _ | (refine subF_cons rfl ?_) | (refine subF_consv rfl (by rfl) ?_)))
  intro s8 hs8
  repeat (first | refine qan ?_ | refine qaf ?_ | (refine qap ?_; (refine qac (qak rfl) rfl ?_ ?_ ?_); rfl; rfl))
  refine qau ?_
  refine qaB (ξ := Bool) (v := fun b => .bool b) rfl rfl rfl (fun _ => True) (fun w hl => once_d B gc w hl.inv 4 (by decide)) (fun b9 _ => ?_)
  repeat (first | refine qaj ?_ | refine qad ?_)
  refine SX.join (ι := Style) (fun s => AllOk s.cells) (fun s => [⟨g3, s.cells, 66⟩, ⟨g2, (default : Style).cells, 66⟩]) (fun _ => []) (fun _ => []) (fun _ => [(0, .pointer (some ⟨gc, 0, none⟩)), (2, .pointer (some ⟨g2, 0, none⟩)), (3, .pointer (some ⟨g3, 0, none⟩))]) ?_ ?_
  · cases b9
    · repeat (first | refine qaC ?_ | refine qat rfl ?_)
      refine SQ.join (s8) (hs8) ?_ (fun _ hl => hl)
      (repeat (first | exact subF_nil _ | (refine subF_cons rfl ?_) | (refine subF_consv rfl (by rfl) ?_)))
    · repeat (first | refine qan ?_ | refine qaf ?_ | refine qaq rfl ?_ | (refine qap ?_; (refine qac (qak rfl) rfl ?_ ?_ ?_); rfl; rfl))
      skip
      refine qau ?_
      refine qaB (ξ := Edges) (v := fun v => .agg v.cells.toArray) rfl rfl rfl (fun v => AllOk v.cells) (fun w hl => l05Edges_d B gc w hl.inv) (fun x22 h22 => ?_)
      repeat (first | refine qaj ?_ | refine qaf ?_ | refine qad ?_ | (refine qai ?_; (refine qac (qae rfl) rfl ?_ ?_ ?_); rfl; rfl) | (refine qap ?_; (refine qac (qak rfl) rfl ?_ ?_ ?_); rfl; rfl) | (refine qas ?_; first | ((first | refine qag 0 ?_ rfl rfl rfl rfl rfl rfl ?_ | refine qag 1 ?_ rfl rfl rfl rfl rfl rfl ?_ | refine qag 2 ?_ rfl rfl rfl rfl rfl rfl ?_); rfl; simp only [List.set_cons_zero, List.set_cons_succ]) | ((first | refine qaa 0 ?_ rfl rfl rfl rfl rfl rfl rfl ?_ | refine qaa 1 ?_ rfl rfl rfl rfl rfl rfl rfl ?_ | refine qaa 2 ?_ rfl rfl rfl rfl rfl rfl rfl ?_); rfl; simp only [List.set_cons_zero, List.set_cons_succ]) | ((first | refine qab 0 ?_ rfl rfl rfl rfl rfl rfl rfl ?_ | refine qab 1 ?_ rfl rfl rfl rfl rfl rfl rfl ?_ | refine qab 2 ?_ rfl rfl rfl rfl rfl rfl rfl ?_); rfl; simp only [over, List.set_cons_zero, List.set_cons_succ])))
      refine qau ?_
      refine qaB (ξ := Edges) (v := fun v => .agg v.cells.toArray) rfl rfl rfl (fun v => AllOk v.cells) (fun w hl => l05Edges_d B gc w hl.inv) (fun x23 h23 => ?_)
      repeat (first | refine qaj ?_ | (refine qai ?_; (refine qac (qae rfl) rfl ?_ ?_ ?_); rfl; rfl) | (refine qas ?_; first | ((first | refine qag 0 ?_ rfl rfl rfl rfl rfl rfl ?_ | refine qag 1 ?_ rfl rfl rfl rfl rfl rfl ?_ | refine qag 2 ?_ rfl rfl rfl rfl rfl rfl ?_); rfl; simp only [List.set_cons_zero, List.set_cons_succ]) | ((first | refine qaa 0 ?_ rfl rfl rfl rfl rfl rfl rfl ?_ | refine qaa 1 ?_ rfl rfl rfl rfl rfl rfl rfl ?_ | refine qaa 2 ?_ rfl rfl rfl rfl rfl rfl rfl ?_); rfl; simp only [List.set_cons_zero, List.set_cons_succ]) | ((first | refine qab 0 ?_ rfl rfl rfl rfl rfl rfl rfl ?_ | refine qab 1 ?_ rfl rfl rfl rfl rfl rfl rfl ?_ | refine qab 2 ?_ rfl rfl rfl rfl rfl rfl rfl ?_); rfl; simp only [over, List.set_cons_zero, List.set_cons_succ])))
      refine SQ.join ({ s8 with pad := x22, border := x23 }) ((AllOk.over (j := 54) (AllOk.over (j := 50) hs8 h22) h23)) ?_ (fun _ hl => hl)
      (repeat (first | exact subF_nil _ | (refine subF_cons rfl ?_) | (refine subF_consv rfl (by rfl) ?_)))
  intro s9 hs9
  repeat (first | refine qan ?_ | refine qaf ?_ | (refine qap ?_; (refine qac (qak rfl) rfl ?_ ?_ ?_); rfl; rfl))
  refine qau ?_
  refine qaB (ξ := Bool) (v := fun b => .bool b) rfl rfl rfl (fun _ => True) (fun w hl => once_d B gc w hl.inv 4 (by decide)) (fun b10 _ => ?_)
  repeat (first | refine qaj ?_ | refine qad ?_)
  refine SX.join (ι := Style) (fun s => AllOk s.cells) (fun s => [⟨g3, s.cells, 66⟩, ⟨g2, (default : Style).cells, 66⟩]) (fun _ => []) (fun _ => []) (fun _ => [(0, .pointer (some ⟨gc, 0, none⟩)), (2, .pointer (some ⟨g2, 0, none⟩)), (3, .pointer (some ⟨g3, 0, none⟩))]) ?_ ?_
  · cases b10
    · repeat (first | refine qaC ?_ | refine qat rfl ?_)
      refine SQ.join (s9) (hs9) ?_ (fun _ hl => hl)
      (repeat (first | exact subF_nil _ | (refine subF_cons rfl ?_) | (refine subF_consv rfl (by rfl) ?_)))
    · repeat (first | refine qan ?_ | refine qaf ?_ | refine qaq rfl ?_ | (refine qap ?_; (refine qac (qak rfl) rfl ?_ ?_ ?_); rfl; rfl))
      skip
      refine qau ?_
      refine qaB (ξ := Int) (v := fun x : Int => .int .i64 x) rfl rfl rfl (fun x => 0 ≤ x ∧ x < 100) (fun w hl => below_d B gc w hl.inv 100 (by decide) (by decide)) (fun x24 h24 => ?_)
      repeat (first | refine qaj ?_ | refine qaf ?_ | refine qad ?_ | (refine qai ?_; (refine qac (qae rfl) rfl ?_ ?_ ?_); rfl; rfl) | (refine qap ?_; (refine qac (qak rfl) rfl ?_ ?_ ?_); rfl; rfl) | (refine qas ?_; first | ((first | refine qag 0 ?_ rfl rfl rfl rfl rfl rfl ?_ | refine qag 1 ?_ rfl rfl rfl rfl rfl rfl ?_ | refine qag 2 ?_ rfl rfl rfl rfl rfl rfl ?_); rfl; simp only [List.set_cons_zero, List.set_cons_succ]) | ((first | refine qaa 0 ?_ rfl rfl rfl rfl rfl rfl rfl ?_ | refine qaa 1 ?_ rfl rfl rfl rfl rfl rfl rfl ?_ | refine qaa 2 ?_ rfl rfl rfl rfl rfl rfl rfl ?_); rfl; simp only [List.set_cons_zero, List.set_cons_succ]) | ((first | refine qab 0 ?_ rfl rfl rfl rfl rfl rfl rfl ?_ | refine qab 1 ?_ rfl rfl rfl rfl rfl rfl rfl ?_ | refine qab 2 ?_ rfl rfl rfl rfl rfl rfl rfl ?_); rfl; simp only [over, List.set_cons_zero, List.set_cons_succ])))
      refine qau ?_
      refine qaB (ξ := Int) (v := fun x : Int => .int .i64 x) rfl rfl rfl (fun x => 0 ≤ x ∧ x < 100) (fun w hl => below_d B gc w hl.inv 100 (by decide) (by decide)) (fun x25 h25 => ?_)
      repeat (first | refine qaj ?_ | (refine qai ?_; (refine qac (qae rfl) rfl ?_ ?_ ?_); rfl; rfl) | (refine qas ?_; first | ((first | refine qag 0 ?_ rfl rfl rfl rfl rfl rfl ?_ | refine qag 1 ?_ rfl rfl rfl rfl rfl rfl ?_ | refine qag 2 ?_ rfl rfl rfl rfl rfl rfl ?_); rfl; simp only [List.set_cons_zero, List.set_cons_succ]) | ((first | refine qaa 0 ?_ rfl rfl rfl rfl rfl rfl rfl ?_ | refine qaa 1 ?_ rfl rfl rfl rfl rfl rfl rfl ?_ | refine qaa 2 ?_ rfl rfl rfl rfl rfl rfl rfl ?_); rfl; simp only [List.set_cons_zero, List.set_cons_succ]) | ((first | refine qab 0 ?_ rfl rfl rfl rfl rfl rfl rfl ?_ | refine qab 1 ?_ rfl rfl rfl rfl rfl rfl rfl ?_ | refine qab 2 ?_ rfl rfl rfl rfl rfl rfl rfl ?_); rfl; simp only [over, List.set_cons_zero, List.set_cons_succ])))
      refine SQ.join ({ s9 with rowGap := x24, colGap := x25 }) (((hs9.set (cellOk_int (n := x24) ⟨by omega, by omega⟩) 58).set (cellOk_int (n := x25) ⟨by omega, by omega⟩) 59)) ?_ (fun _ hl => hl)
      (repeat (first | exact subF_nil _ | (refine subF_cons rfl ?_) | (refine subF_consv rfl (by rfl) ?_)))
  intro s10 hs10
  repeat (first | refine qan ?_ | refine qaj ?_ | refine qaf ?_ | refine qad ?_ | (refine qaw ?_; (refine qac (qal 0 rfl rfl rfl) rfl ?_ ?_ ?_); rfl; rfl) | (refine qas ?_; first | ((first | refine qag 0 ?_ rfl rfl rfl rfl rfl rfl ?_ | refine qag 1 ?_ rfl rfl rfl rfl rfl rfl ?_ | refine qag 2 ?_ rfl rfl rfl rfl rfl rfl ?_); rfl; simp only [List.set_cons_zero, List.set_cons_succ]) | ((first | refine qaa 0 ?_ rfl rfl rfl rfl rfl rfl rfl ?_ | refine qaa 1 ?_ rfl rfl rfl rfl rfl rfl rfl ?_ | refine qaa 2 ?_ rfl rfl rfl rfl rfl rfl rfl ?_); rfl; simp only [List.set_cons_zero, List.set_cons_succ]) | ((first | refine qab 0 ?_ rfl rfl rfl rfl rfl rfl rfl ?_ | refine qab 1 ?_ rfl rfl rfl rfl rfl rfl rfl ?_ | refine qab 2 ?_ rfl rfl rfl rfl rfl rfl rfl ?_); rfl; simp only [over, List.set_cons_zero, List.set_cons_succ])) | refine qaz ?_)
  refine qaJ 1 rfl rfl rfl rfl (fun w' hl => ⟨s10, rfl, hs10, hl.mod, hl.inv⟩)

set_option maxRecDepth 100000 in
set_option maxHeartbeats 8000000 in
theorem l06Any_d (B gc : Nat) (w : World) (hc : Cur B 141 w gc) : Calls Try.prog 90 #[.pointer (some ⟨gc, 0, none⟩)] w (DrewV 141 B gc w (fun v : Style => .agg v.cells.toArray) (fun v => AllOk v.cells)) := by
  refine calls_draw (as_ := [.pointer (some ⟨gc, 0, none⟩)]) hc Try.func90 rfl rfl (fun a h1 h2 h3 => ((Fr.nil h1 h2).arg (h3 0 _ rfl))) ?_
  repeat (first | refine qan ?_ | refine qaj ?_ | refine qaf ?_ | refine qad ?_ | (refine qap ?_; (refine qac (qak rfl) rfl ?_ ?_ ?_); rfl; rfl) | (refine qaH ?_; refine SXl.alloc ?_ ?_ (fun g => ?_); rfl; rfl))
  refine qau ?_
  refine qaB (ξ := Style) (v := fun v => .agg v.cells.toArray) rfl rfl rfl (fun v => AllOk v.cells) (fun w hl => l06Style_d B gc w hl.inv) (fun s hs => ?_)
  repeat (first | refine qan ?_ | refine qaj ?_ | refine qaf ?_ | refine qad ?_ | (refine qap ?_; (refine qac (qak rfl) rfl ?_ ?_ ?_); rfl; rfl) | (refine qaH ?_; refine SXl.alloc ?_ ?_ (fun g => ?_); rfl; rfl) | (refine qas ?_; first | ((first | refine qag 0 ?_ rfl rfl rfl rfl rfl rfl ?_ | refine qag 1 ?_ rfl rfl rfl rfl rfl rfl ?_ | refine qag 2 ?_ rfl rfl rfl rfl rfl rfl ?_); rfl; simp only [List.set_cons_zero, List.set_cons_succ]) | ((first | refine qaa 0 ?_ rfl rfl rfl rfl rfl rfl rfl ?_ | refine qaa 1 ?_ rfl rfl rfl rfl rfl rfl rfl ?_ | refine qaa 2 ?_ rfl rfl rfl rfl rfl rfl rfl ?_); rfl; simp only [List.set_cons_zero, List.set_cons_succ]) | ((first | refine qab 0 ?_ rfl rfl rfl rfl rfl rfl rfl ?_ | refine qab 1 ?_ rfl rfl rfl rfl rfl rfl rfl ?_ | refine qab 2 ?_ rfl rfl rfl rfl rfl rfl rfl ?_); rfl; simp only [over, List.set_cons_zero, List.set_cons_succ])))
  refine qaR ?_
  refine SXl.lit (cells := [.int .i64 0, .int .i64 (-1), .int .i64 7, .int .i64 1001, .int .i64 (-1001), .int .i64 6401, .int .i64 1048577, .int .i64 9223372036854775807]) (z := .int .i64 0) ?_ ?_ rfl (by decide) (by kernel_rfl) rfl (fun gl => ?_)
  rfl; rfl
  skip
  refine qau ?_
  refine qaB (ξ := Int) (v := fun x => .int .i64 x) rfl rfl rfl (fun x => x ∈ ([0, -1, 7, 1001, -1001, 6401, 1048577, 9223372036854775807] : List Int)) (fun w hl => pick_d (l := [0, -1, 7, 1001, -1001, 6401, 1048577, 9223372036854775807]) hl (by decide) (by decide)) (fun x hx => ?_)
  refine SXl.drop1 ?_
  have hxb : I64 x := by simp at hx; exact ⟨by omega, by omega⟩
  repeat (first | refine qan ?_ | refine qaj ?_ | refine qaf ?_ | refine qad ?_ | (refine qap ?_; (refine qac (qak rfl) rfl ?_ ?_ ?_); rfl; rfl) | (refine qam ?_; (refine qac (qah rfl) rfl ?_ ?_ ?_); rfl; rfl))
  refine qau ?_
  refine qaB (ξ := Int) (v := fun x : Int => .int .i64 x) rfl rfl rfl (fun x => 0 ≤ x ∧ x < 24) (fun w hl => below_d B gc w hl.inv 24 (by decide) (by decide)) (fun y hy => ?_)
  by_cases y0 : y = 0
  · repeat (first | refine qan ?_ | refine qaj ?_ | refine qaf ?_ | refine qad ?_ | refine SX.block ?_ | refine qaq rfl ?_ | (refine qaw ?_; (refine qac (qal 0 rfl rfl rfl) rfl ?_ ?_ ?_); rfl; rfl) | (refine qai ?_; (refine qac (qae rfl) rfl ?_ ?_ ?_); rfl; rfl) | (refine qap ?_; (refine qac (qak rfl) rfl ?_ ?_ ?_); rfl; rfl) | (refine qam ?_; (refine qac (qah rfl) rfl ?_ ?_ ?_); rfl; rfl) | (refine l_eql ?_; (refine qac (qaQ rfl rfl (by omega)) rfl ?_ ?_ ?_); rfl; rfl) | (refine qas ?_; first | ((first | refine qag 0 ?_ rfl rfl rfl rfl rfl rfl ?_ | refine qag 1 ?_ rfl rfl rfl rfl rfl rfl ?_ | refine qag 2 ?_ rfl rfl rfl rfl rfl rfl ?_); rfl; simp only [List.set_cons_zero, List.set_cons_succ]) | ((first | refine qaa 0 ?_ rfl rfl rfl rfl rfl rfl rfl ?_ | refine qaa 1 ?_ rfl rfl rfl rfl rfl rfl rfl ?_ | refine qaa 2 ?_ rfl rfl rfl rfl rfl rfl rfl ?_); rfl; simp only [List.set_cons_zero, List.set_cons_succ]) | ((first | refine qab 0 ?_ rfl rfl rfl rfl rfl rfl rfl ?_ | refine qab 1 ?_ rfl rfl rfl rfl rfl rfl rfl ?_ | refine qab 2 ?_ rfl rfl rfl rfl rfl rfl rfl ?_); rfl; simp only [over, List.set_cons_zero, List.set_cons_succ])) | refine qaz ?_ | refine qar ?_)
    refine qaJ 1 rfl rfl rfl rfl (fun w' hl => ⟨{ s with dir := x }, rfl, (hs.set (cellOk_int (n := x) hxb) 0), hl.mod, hl.inv⟩)
  by_cases y1 : y = 1
  · repeat (first | refine qan ?_ | refine qaj ?_ | refine qaf ?_ | refine qad ?_ | refine SX.block ?_ | refine qaq rfl ?_ | refine qat rfl ?_ | (refine qaw ?_; (refine qac (qal 0 rfl rfl rfl) rfl ?_ ?_ ?_); rfl; rfl) | (refine qai ?_; (refine qac (qae rfl) rfl ?_ ?_ ?_); rfl; rfl) | (refine qap ?_; (refine qac (qak rfl) rfl ?_ ?_ ?_); rfl; rfl) | (refine qam ?_; (refine qac (qah rfl) rfl ?_ ?_ ?_); rfl; rfl) | (refine l_eql ?_; (first | refine qac (qaQ rfl rfl (by omega)) rfl ?_ ?_ ?_ | refine qac (qaP rfl rfl (by omega)) rfl ?_ ?_ ?_); rfl; rfl) | (refine qas ?_; first | ((first | refine qag 0 ?_ rfl rfl rfl rfl rfl rfl ?_ | refine qag 1 ?_ rfl rfl rfl rfl rfl rfl ?_ | refine qag 2 ?_ rfl rfl rfl rfl rfl rfl ?_); rfl; simp only [List.set_cons_zero, List.set_cons_succ]) | ((first | refine qaa 0 ?_ rfl rfl rfl rfl rfl rfl rfl ?_ | refine qaa 1 ?_ rfl rfl rfl rfl rfl rfl rfl ?_ | refine qaa 2 ?_ rfl rfl rfl rfl rfl rfl rfl ?_); rfl; simp only [List.set_cons_zero, List.set_cons_succ]) | ((first | refine qab 0 ?_ rfl rfl rfl rfl rfl rfl rfl ?_ | refine qab 1 ?_ rfl rfl rfl rfl rfl rfl rfl ?_ | refine qab 2 ?_ rfl rfl rfl rfl rfl rfl rfl ?_); rfl; simp only [over, List.set_cons_zero, List.set_cons_succ])) | refine qaz ?_ | refine qar ?_)
    refine qaJ 1 rfl rfl rfl rfl (fun w' hl => ⟨{ s with items := x }, rfl, (hs.set (cellOk_int (n := x) hxb) 3), hl.mod, hl.inv⟩)
  by_cases y2 : y = 2
  · repeat (first | refine qan ?_ | refine qaj ?_ | refine qaf ?_ | refine qad ?_ | refine SX.block ?_ | refine qaq rfl ?_ | refine qat rfl ?_ | (refine qaw ?_; (refine qac (qal 0 rfl rfl rfl) rfl ?_ ?_ ?_); rfl; rfl) | (refine qai ?_; (refine qac (qae rfl) rfl ?_ ?_ ?_); rfl; rfl) | (refine qap ?_; (refine qac (qak rfl) rfl ?_ ?_ ?_); rfl; rfl) | (refine qam ?_; (refine qac (qah rfl) rfl ?_ ?_ ?_); rfl; rfl) | (refine l_eql ?_; (first | refine qac (qaQ rfl rfl (by omega)) rfl ?_ ?_ ?_ | refine qac (qaP rfl rfl (by omega)) rfl ?_ ?_ ?_); rfl; rfl) | (refine qas ?_; first | ((first | refine qag 0 ?_ rfl rfl rfl rfl rfl rfl ?_ | refine qag 1 ?_ rfl rfl rfl rfl rfl rfl ?_ | refine qag 2 ?_ rfl rfl rfl rfl rfl rfl ?_); rfl; simp only [List.set_cons_zero, List.set_cons_succ]) | ((first | refine qaa 0 ?_ rfl rfl rfl rfl rfl rfl rfl ?_ | refine qaa 1 ?_ rfl rfl rfl rfl rfl rfl rfl ?_ | refine qaa 2 ?_ rfl rfl rfl rfl rfl rfl rfl ?_); rfl; simp only [List.set_cons_zero, List.set_cons_succ]) | ((first | refine qab 0 ?_ rfl rfl rfl rfl rfl rfl rfl ?_ | refine qab 1 ?_ rfl rfl rfl rfl rfl rfl rfl ?_ | refine qab 2 ?_ rfl rfl rfl rfl rfl rfl rfl ?_); rfl; simp only [over, List.set_cons_zero, List.set_cons_succ])) | refine qaz ?_ | refine qar ?_)
    refine qaJ 1 rfl rfl rfl rfl (fun w' hl => ⟨{ s with self := x }, rfl, (hs.set (cellOk_int (n := x) hxb) 4), hl.mod, hl.inv⟩)
  by_cases y3 : y = 3
  · repeat (first | refine qan ?_ | refine qaj ?_ | refine qaf ?_ | refine qad ?_ | refine SX.block ?_ | refine qaq rfl ?_ | refine qat rfl ?_ | (refine qaw ?_; (refine qac (qal 0 rfl rfl rfl) rfl ?_ ?_ ?_); rfl; rfl) | (refine qai ?_; (refine qac (qae rfl) rfl ?_ ?_ ?_); rfl; rfl) | (refine qap ?_; (refine qac (qak rfl) rfl ?_ ?_ ?_); rfl; rfl) | (refine qam ?_; (refine qac (qah rfl) rfl ?_ ?_ ?_); rfl; rfl) | (refine l_eql ?_; (first | refine qac (qaQ rfl rfl (by omega)) rfl ?_ ?_ ?_ | refine qac (qaP rfl rfl (by omega)) rfl ?_ ?_ ?_); rfl; rfl) | (refine qas ?_; first | ((first | refine qag 0 ?_ rfl rfl rfl rfl rfl rfl ?_ | refine qag 1 ?_ rfl rfl rfl rfl rfl rfl ?_ | refine qag 2 ?_ rfl rfl rfl rfl rfl rfl ?_); rfl; simp only [List.set_cons_zero, List.set_cons_succ]) | ((first | refine qaa 0 ?_ rfl rfl rfl rfl rfl rfl rfl ?_ | refine qaa 1 ?_ rfl rfl rfl rfl rfl rfl rfl ?_ | refine qaa 2 ?_ rfl rfl rfl rfl rfl rfl rfl ?_); rfl; simp only [List.set_cons_zero, List.set_cons_succ]) | ((first | refine qab 0 ?_ rfl rfl rfl rfl rfl rfl rfl ?_ | refine qab 1 ?_ rfl rfl rfl rfl rfl rfl rfl ?_ | refine qab 2 ?_ rfl rfl rfl rfl rfl rfl rfl ?_); rfl; simp only [over, List.set_cons_zero, List.set_cons_succ])) | refine qaz ?_ | refine qar ?_)
    refine qaJ 1 rfl rfl rfl rfl (fun w' hl => ⟨{ s with grow := x }, rfl, (hs.set (cellOk_int (n := x) hxb) 9), hl.mod, hl.inv⟩)
  by_cases y4 : y = 4
  · repeat (first | refine qan ?_ | refine qaj ?_ | refine qaf ?_ | refine qad ?_ | refine SX.block ?_ | refine qaq rfl ?_ | refine qat rfl ?_ | (refine qaw ?_; (refine qac (qal 0 rfl rfl rfl) rfl ?_ ?_ ?_); rfl; rfl) | (refine qai ?_; (refine qac (qae rfl) rfl ?_ ?_ ?_); rfl; rfl) | (refine qap ?_; (refine qac (qak rfl) rfl ?_ ?_ ?_); rfl; rfl) | (refine qam ?_; (refine qac (qah rfl) rfl ?_ ?_ ?_); rfl; rfl) | (refine l_eql ?_; (first | refine qac (qaQ rfl rfl (by omega)) rfl ?_ ?_ ?_ | refine qac (qaP rfl rfl (by omega)) rfl ?_ ?_ ?_); rfl; rfl) | (refine qas ?_; first | ((first | refine qag 0 ?_ rfl rfl rfl rfl rfl rfl ?_ | refine qag 1 ?_ rfl rfl rfl rfl rfl rfl ?_ | refine qag 2 ?_ rfl rfl rfl rfl rfl rfl ?_); rfl; simp only [List.set_cons_zero, List.set_cons_succ]) | ((first | refine qaa 0 ?_ rfl rfl rfl rfl rfl rfl rfl ?_ | refine qaa 1 ?_ rfl rfl rfl rfl rfl rfl rfl ?_ | refine qaa 2 ?_ rfl rfl rfl rfl rfl rfl rfl ?_); rfl; simp only [List.set_cons_zero, List.set_cons_succ]) | ((first | refine qab 0 ?_ rfl rfl rfl rfl rfl rfl rfl ?_ | refine qab 1 ?_ rfl rfl rfl rfl rfl rfl rfl ?_ | refine qab 2 ?_ rfl rfl rfl rfl rfl rfl rfl ?_); rfl; simp only [over, List.set_cons_zero, List.set_cons_succ])) | refine qaz ?_ | refine qar ?_)
    refine qaJ 1 rfl rfl rfl rfl (fun w' hl => ⟨{ s with order := x }, rfl, (hs.set (cellOk_int (n := x) hxb) 8), hl.mod, hl.inv⟩)
  by_cases y5 : y = 5
  · repeat (first | refine qan ?_ | refine qaj ?_ | refine qaf ?_ | refine qad ?_ | refine SX.block ?_ | refine qaq rfl ?_ | refine qat rfl ?_ | (refine qaw ?_; (refine qac (qal 0 rfl rfl rfl) rfl ?_ ?_ ?_); rfl; rfl) | (refine qai ?_; (refine qac (qae rfl) rfl ?_ ?_ ?_); rfl; rfl) | (refine qap ?_; (refine qac (qak rfl) rfl ?_ ?_ ?_); rfl; rfl) | (refine qam ?_; (refine qac (qah rfl) rfl ?_ ?_ ?_); rfl; rfl) | (refine l_eql ?_; (first | refine qac (qaQ rfl rfl (by omega)) rfl ?_ ?_ ?_ | refine qac (qaP rfl rfl (by omega)) rfl ?_ ?_ ?_); rfl; rfl) | (refine qas ?_; first | ((first | refine qag 0 ?_ rfl rfl rfl rfl rfl rfl ?_ | refine qag 1 ?_ rfl rfl rfl rfl rfl rfl ?_ | refine qag 2 ?_ rfl rfl rfl rfl rfl rfl ?_); rfl; simp only [List.set_cons_zero, List.set_cons_succ]) | ((first | refine qaa 0 ?_ rfl rfl rfl rfl rfl rfl rfl ?_ | refine qaa 1 ?_ rfl rfl rfl rfl rfl rfl rfl ?_ | refine qaa 2 ?_ rfl rfl rfl rfl rfl rfl rfl ?_); rfl; simp only [List.set_cons_zero, List.set_cons_succ]) | ((first | refine qab 0 ?_ rfl rfl rfl rfl rfl rfl rfl ?_ | refine qab 1 ?_ rfl rfl rfl rfl rfl rfl rfl ?_ | refine qab 2 ?_ rfl rfl rfl rfl rfl rfl rfl ?_); rfl; simp only [over, List.set_cons_zero, List.set_cons_succ])) | refine qaz ?_ | refine qar ?_)
    refine qaJ 1 rfl rfl rfl rfl (fun w' hl => ⟨{ s with ratio := x }, rfl, (hs.set (cellOk_int (n := x) hxb) 25), hl.mod, hl.inv⟩)
  by_cases y6 : y = 6
  · repeat (first | refine qan ?_ | refine qaj ?_ | refine qaf ?_ | refine qad ?_ | refine SX.block ?_ | refine qaq rfl ?_ | refine qat rfl ?_ | (refine qap ?_; (refine qac (qak rfl) rfl ?_ ?_ ?_); rfl; rfl) | (refine qam ?_; (refine qac (qah rfl) rfl ?_ ?_ ?_); rfl; rfl) | (refine l_eql ?_; (first | refine qac (qaQ rfl rfl (by omega)) rfl ?_ ?_ ?_ | refine qac (qaP rfl rfl (by omega)) rfl ?_ ?_ ?_); rfl; rfl))
    refine qau ?_
    refine qaB (ξ := Val) (v := fun v => .agg v.cells.toArray) rfl rfl rfl (fun v => AllOk v.cells) (fun w hl => l04Any_d B gc w hl.inv) (fun v hv => ?_)
    repeat (first | refine qan ?_ | refine qaj ?_ | refine qaf ?_ | refine qad ?_ | (refine qaw ?_; (refine qac (qal 0 rfl rfl rfl) rfl ?_ ?_ ?_); rfl; rfl) | (refine qai ?_; (refine qac (qae rfl) rfl ?_ ?_ ?_); rfl; rfl) | (refine qas ?_; first | ((first | refine qag 0 ?_ rfl rfl rfl rfl rfl rfl ?_ | refine qag 1 ?_ rfl rfl rfl rfl rfl rfl ?_ | refine qag 2 ?_ rfl rfl rfl rfl rfl rfl ?_); rfl; simp only [List.set_cons_zero, List.set_cons_succ]) | ((first | refine qaa 0 ?_ rfl rfl rfl rfl rfl rfl rfl ?_ | refine qaa 1 ?_ rfl rfl rfl rfl rfl rfl rfl ?_ | refine qaa 2 ?_ rfl rfl rfl rfl rfl rfl rfl ?_); rfl; simp only [List.set_cons_zero, List.set_cons_succ]) | ((first | refine qab 0 ?_ rfl rfl rfl rfl rfl rfl rfl ?_ | refine qab 1 ?_ rfl rfl rfl rfl rfl rfl rfl ?_ | refine qab 2 ?_ rfl rfl rfl rfl rfl rfl rfl ?_); rfl; simp only [over, List.set_cons_zero, List.set_cons_succ])) | refine qaz ?_ | refine qar ?_)
    refine qaJ 1 rfl rfl rfl rfl (fun w' hl => ⟨{ s with width := v }, rfl, (AllOk.over (j := 13) hs hv), hl.mod, hl.inv⟩)
  by_cases y7 : y = 7
  · repeat (first | refine qan ?_ | refine qaj ?_ | refine qaf ?_ | refine qad ?_ | refine SX.block ?_ | refine qaq rfl ?_ | refine qat rfl ?_ | (refine qap ?_; (refine qac (qak rfl) rfl ?_ ?_ ?_); rfl; rfl) | (refine qam ?_; (refine qac (qah rfl) rfl ?_ ?_ ?_); rfl; rfl) | (refine l_eql ?_; (first | refine qac (qaQ rfl rfl (by omega)) rfl ?_ ?_ ?_ | refine qac (qaP rfl rfl (by omega)) rfl ?_ ?_ ?_); rfl; rfl))
    refine qau ?_
    refine qaB (ξ := Sides) (v := fun v => .agg v.cells.toArray) rfl rfl rfl (fun v => AllOk v.cells) (fun w hl => l05Any_d B gc w hl.inv) (fun v hv => ?_)
    repeat (first | refine qan ?_ | refine qaj ?_ | refine qaf ?_ | refine qad ?_ | (refine qaw ?_; (refine qac (qal 0 rfl rfl rfl) rfl ?_ ?_ ?_); rfl; rfl) | (refine qai ?_; (refine qac (qae rfl) rfl ?_ ?_ ?_); rfl; rfl) | (refine qas ?_; first | ((first | refine qag 0 ?_ rfl rfl rfl rfl rfl rfl ?_ | refine qag 1 ?_ rfl rfl rfl rfl rfl rfl ?_ | refine qag 2 ?_ rfl rfl rfl rfl rfl rfl ?_); rfl; simp only [List.set_cons_zero, List.set_cons_succ]) | ((first | refine qaa 0 ?_ rfl rfl rfl rfl rfl rfl rfl ?_ | refine qaa 1 ?_ rfl rfl rfl rfl rfl rfl rfl ?_ | refine qaa 2 ?_ rfl rfl rfl rfl rfl rfl rfl ?_); rfl; simp only [List.set_cons_zero, List.set_cons_succ]) | ((first | refine qab 0 ?_ rfl rfl rfl rfl rfl rfl rfl ?_ | refine qab 1 ?_ rfl rfl rfl rfl rfl rfl rfl ?_ | refine qab 2 ?_ rfl rfl rfl rfl rfl rfl rfl ?_); rfl; simp only [over, List.set_cons_zero, List.set_cons_succ])) | refine qaz ?_ | refine qar ?_)
    refine qaJ 1 rfl rfl rfl rfl (fun w' hl => ⟨{ s with margin := v }, rfl, (AllOk.over (j := 26) hs hv), hl.mod, hl.inv⟩)
  by_cases y8 : y = 8
  · repeat (first | refine qan ?_ | refine qaj ?_ | refine qaf ?_ | refine qad ?_ | refine SX.block ?_ | refine qaq rfl ?_ | refine qat rfl ?_ | (refine qap ?_; (refine qac (qak rfl) rfl ?_ ?_ ?_); rfl; rfl) | (refine qam ?_; (refine qac (qah rfl) rfl ?_ ?_ ?_); rfl; rfl) | (refine l_eql ?_; (first | refine qac (qaQ rfl rfl (by omega)) rfl ?_ ?_ ?_ | refine qac (qaP rfl rfl (by omega)) rfl ?_ ?_ ?_); rfl; rfl))
    refine qau ?_
    refine qaB (ξ := Edges) (v := fun v => .agg v.cells.toArray) rfl rfl rfl (fun v => AllOk v.cells) (fun w hl => l05AnyEdges_d B gc w hl.inv) (fun v hv => ?_)
    repeat (first | refine qan ?_ | refine qaj ?_ | refine qaf ?_ | refine qad ?_ | (refine qaw ?_; (refine qac (qal 0 rfl rfl rfl) rfl ?_ ?_ ?_); rfl; rfl) | (refine qai ?_; (refine qac (qae rfl) rfl ?_ ?_ ?_); rfl; rfl) | (refine qas ?_; first | ((first | refine qag 0 ?_ rfl rfl rfl rfl rfl rfl ?_ | refine qag 1 ?_ rfl rfl rfl rfl rfl rfl ?_ | refine qag 2 ?_ rfl rfl rfl rfl rfl rfl ?_); rfl; simp only [List.set_cons_zero, List.set_cons_succ]) | ((first | refine qaa 0 ?_ rfl rfl rfl rfl rfl rfl rfl ?_ | refine qaa 1 ?_ rfl rfl rfl rfl rfl rfl rfl ?_ | refine qaa 2 ?_ rfl rfl rfl rfl rfl rfl rfl ?_); rfl; simp only [List.set_cons_zero, List.set_cons_succ]) | ((first | refine qab 0 ?_ rfl rfl rfl rfl rfl rfl rfl ?_ | refine qab 1 ?_ rfl rfl rfl rfl rfl rfl rfl ?_ | refine qab 2 ?_ rfl rfl rfl rfl rfl rfl rfl ?_); rfl; simp only [over, List.set_cons_zero, List.set_cons_succ])) | refine qaz ?_ | refine qar ?_)
    refine qaJ 1 rfl rfl rfl rfl (fun w' hl => ⟨{ s with pad := v }, rfl, (AllOk.over (j := 50) hs hv), hl.mod, hl.inv⟩)
  by_cases y9 : y = 9
  · repeat (first | refine qan ?_ | refine qaj ?_ | refine qaf ?_ | refine qad ?_ | refine SX.block ?_ | refine qaq rfl ?_ | refine qat rfl ?_ | (refine qaw ?_; (refine qac (qal 0 rfl rfl rfl) rfl ?_ ?_ ?_); rfl; rfl) | (refine qai ?_; (refine qac (qae rfl) rfl ?_ ?_ ?_); rfl; rfl) | (refine qap ?_; (refine qac (qak rfl) rfl ?_ ?_ ?_); rfl; rfl) | (refine qam ?_; (refine qac (qah rfl) rfl ?_ ?_ ?_); rfl; rfl) | (refine l_eql ?_; (first | refine qac (qaQ rfl rfl (by omega)) rfl ?_ ?_ ?_ | refine qac (qaP rfl rfl (by omega)) rfl ?_ ?_ ?_); rfl; rfl) | (refine qas ?_; first | ((first | refine qag 0 ?_ rfl rfl rfl rfl rfl rfl ?_ | refine qag 1 ?_ rfl rfl rfl rfl rfl rfl ?_ | refine qag 2 ?_ rfl rfl rfl rfl rfl rfl ?_); rfl; simp only [List.set_cons_zero, List.set_cons_succ]) | ((first | refine qaa 0 ?_ rfl rfl rfl rfl rfl rfl rfl ?_ | refine qaa 1 ?_ rfl rfl rfl rfl rfl rfl rfl ?_ | refine qaa 2 ?_ rfl rfl rfl rfl rfl rfl rfl ?_); rfl; simp only [List.set_cons_zero, List.set_cons_succ]) | ((first | refine qab 0 ?_ rfl rfl rfl rfl rfl rfl rfl ?_ | refine qab 1 ?_ rfl rfl rfl rfl rfl rfl rfl ?_ | refine qab 2 ?_ rfl rfl rfl rfl rfl rfl rfl ?_); rfl; simp only [over, List.set_cons_zero, List.set_cons_succ])) | refine qaz ?_ | refine qar ?_)
    refine qaJ 1 rfl rfl rfl rfl (fun w' hl => ⟨{ s with rowGap := x }, rfl, (hs.set (cellOk_int (n := x) hxb) 58), hl.mod, hl.inv⟩)
  by_cases y10 : y = 10
  · repeat (first | refine qan ?_ | refine qaj ?_ | refine qaf ?_ | refine qad ?_ | refine SX.block ?_ | refine qaq rfl ?_ | refine qat rfl ?_ | (refine l_build ?_; (refine qac ((OpW.build (vals := [(0, .int .i64 1), (1, .int .i64 (-1))]) (cells := Val.cells ⟨1, -1⟩) rfl (by kernel_rfl))) rfl ?_ ?_ ?_); rfl; rfl) | (refine qaw ?_; (refine qac (qal 0 rfl rfl rfl) rfl ?_ ?_ ?_); rfl; rfl) | (refine qai ?_; (refine qac (qae rfl) rfl ?_ ?_ ?_); rfl; rfl) | (refine qam ?_; (refine qac (qah rfl) rfl ?_ ?_ ?_); rfl; rfl) | (refine l_eql ?_; (first | refine qac (qaQ rfl rfl (by omega)) rfl ?_ ?_ ?_ | refine qac (qaP rfl rfl (by omega)) rfl ?_ ?_ ?_); rfl; rfl) | (refine qas ?_; first | ((first | refine qag 0 ?_ rfl rfl rfl rfl rfl rfl ?_ | refine qag 1 ?_ rfl rfl rfl rfl rfl rfl ?_ | refine qag 2 ?_ rfl rfl rfl rfl rfl rfl ?_); rfl; simp only [List.set_cons_zero, List.set_cons_succ]) | ((first | refine qaa 0 ?_ rfl rfl rfl rfl rfl rfl rfl ?_ | refine qaa 1 ?_ rfl rfl rfl rfl rfl rfl rfl ?_ | refine qaa 2 ?_ rfl rfl rfl rfl rfl rfl rfl ?_); rfl; simp only [List.set_cons_zero, List.set_cons_succ]) | ((first | refine qab 0 ?_ rfl rfl rfl rfl rfl rfl rfl ?_ | refine qab 1 ?_ rfl rfl rfl rfl rfl rfl rfl ?_ | refine qab 2 ?_ rfl rfl rfl rfl rfl rfl rfl ?_); rfl; simp only [over, List.set_cons_zero, List.set_cons_succ])) | refine qaz ?_ | refine qar ?_)
    refine qaJ 1 rfl rfl rfl rfl (fun w' hl => ⟨{ s with maxHeight := ⟨1, -1⟩ }, rfl, (AllOk.over (j := 23) hs (allOk_of (c := Val.cells ⟨1, -1⟩) (by decide))), hl.mod, hl.inv⟩)
  repeat (first | refine qan ?_ | refine qaj ?_ | refine qaf ?_ | refine qad ?_ | refine SX.block ?_ | refine qaC ?_ | refine qat rfl ?_ | (refine qaw ?_; (refine qac (qal 0 rfl rfl rfl) rfl ?_ ?_ ?_); rfl; rfl) | (refine qam ?_; (refine qac (qah rfl) rfl ?_ ?_ ?_); rfl; rfl) | (refine l_eql ?_; (refine qac (qaP rfl rfl (by omega)) rfl ?_ ?_ ?_); rfl; rfl) | (refine qas ?_; first | ((first | refine qag 0 ?_ rfl rfl rfl rfl rfl rfl ?_ | refine qag 1 ?_ rfl rfl rfl rfl rfl rfl ?_ | refine qag 2 ?_ rfl rfl rfl rfl rfl rfl ?_); rfl; simp only [List.set_cons_zero, List.set_cons_succ]) | ((first | refine qaa 0 ?_ rfl rfl rfl rfl rfl rfl rfl ?_ | refine qaa 1 ?_ rfl rfl rfl rfl rfl rfl rfl ?_ | refine qaa 2 ?_ rfl rfl rfl rfl rfl rfl rfl ?_); rfl; simp only [List.set_cons_zero, List.set_cons_succ]) | ((first | refine qab 0 ?_ rfl rfl rfl rfl rfl rfl rfl ?_ | refine qab 1 ?_ rfl rfl rfl rfl rfl rfl rfl ?_ | refine qab 2 ?_ rfl rfl rfl rfl rfl rfl rfl ?_); rfl; simp only [over, List.set_cons_zero, List.set_cons_succ])) | refine qaz ?_ | refine qar ?_)
  refine qaJ 1 rfl rfl rfl rfl (fun w' hl => ⟨s, rfl, hs, hl.mod, hl.inv⟩)
end Go.Proofs.Ythffgbhphjkdeaa
namespace Go.Proofs.Ythffgbhphjkdeaa
open Go.RowKit
set_option linter.unusedVariables false
set_option linter.unusedSimpArgs false

/-- A tree that is drawn, right or not. -/
structure Drawn (l : List Node) : Prop where
  pos : 1 ≤ l.length
  len : l.length ≤ 14
  parts : ∀ x ∈ l, x.kids.length ≤ 15 ∧ x.rules.length ≤ 8
theorem Drawn.fit {l : List Node} (h : Drawn l) : ∀ x ∈ l, x.fits 1048576 := fun x hx => by
  have := h.parts x hx
  exact ⟨by omega, by omega⟩
theorem Small.drawn {l : List Node} (h : Small l) (h1 : 1 ≤ l.length) : Drawn l := ⟨h1, h.len, fun x hx => by
  have := h.parts x hx
  omega⟩
theorem drawn_set {l : List Node} (h : Small l) (h1 : 1 ≤ l.length) (k : Nat) (x : Node) (hx : x.kids.length ≤ 15 ∧ x.rules.length ≤ 8) : Drawn (l.set k x) :=
  ⟨by rw [List.length_set]; exact h1, by rw [List.length_set]; exact h.len, fun y hy => by
    rcases List.mem_or_eq_of_mem_set hy with hy | rfl
    · have := h.parts y hy; omega
    · exact hx⟩
structure AnyG where
  g1 : Nat
  n : Int
  g2 : Nat
  a : Option Addr
  c : Nat
  deriving Inhabited
set_option maxRecDepth 100000 in
set_option maxHeartbeats 16000000 in
theorem l10Any_d (B gc : Nat) (w : World) (hc : Cur B 141 w gc) :
    Calls Try.prog 67 #[.pointer (some ⟨gc, 0, none⟩)] w (DrewO TreeQ 141 B gc TreeQ.v TreeQ.os (fun q => Drawn (bare q.ps)) w) := by
  refine calls_draw (as_ := [.pointer (some ⟨gc, 0, none⟩)]) hc Try.func67 rfl rfl (fun a h1 h2 h3 => ((Fr.nil h1 h2).arg (h3 0 _ rfl))) ?_
  repeat (first | refine qan ?_ | refine qaj ?_ | refine qaf ?_ | refine qad ?_ | (refine qap ?_; (refine qac (qak rfl) rfl ?_ ?_ ?_); rfl; rfl) | (refine qaH ?_; refine SXl.alloc ?_ ?_ (fun g => ?_); rfl; rfl))
  revert g; intro g2
  refine qau ?_
  refine SXl.drawOJ rfl rfl rfl (fun w hl => l10Tree_d B gc w hl.inv) (fun q hq => ?_)
  repeat (first | refine qan ?_ | refine qaj ?_ | refine qaf ?_ | refine qad ?_ | (refine qaw ?_; (refine qac (qav 0 rfl rfl rfl) rfl ?_ ?_ ?_); rfl; rfl) | (refine qai ?_; (refine qac (qae rfl) rfl ?_ ?_ ?_); rfl; rfl) | (refine qap ?_; (refine qac (qak rfl) rfl ?_ ?_ ?_); rfl; rfl) | (refine l_len ?_; (refine qac (OpW.len rfl) rfl ?_ ?_ ?_); rfl; rfl) | (refine qaH ?_; refine SXl.alloc ?_ ?_ (fun g => ?_); rfl; rfl) | (refine qas ?_; first | ((first | refine qag 0 ?_ rfl rfl rfl rfl rfl rfl ?_ | refine qag 1 ?_ rfl rfl rfl rfl rfl rfl ?_ | refine qag 2 ?_ rfl rfl rfl rfl rfl rfl ?_); rfl; simp only [List.set_cons_zero, List.set_cons_succ]) | ((first | refine qaa 0 ?_ rfl rfl rfl rfl rfl rfl rfl ?_ | refine qaa 1 ?_ rfl rfl rfl rfl rfl rfl rfl ?_ | refine qaa 2 ?_ rfl rfl rfl rfl rfl rfl rfl ?_); rfl; simp only [List.set_cons_zero, List.set_cons_succ]) | ((first | refine qab 0 ?_ rfl rfl rfl rfl rfl rfl rfl ?_ | refine qab 1 ?_ rfl rfl rfl rfl rfl rfl rfl ?_ | refine qab 2 ?_ rfl rfl rfl rfl rfl rfl rfl ?_); rfl; simp only [over, List.set_cons_zero, List.set_cons_succ])))
  revert g; intro g3
  obtain ⟨ps, qa, qc⟩ := q
  obtain ⟨h1, hs⟩ := hq
  simp only at h1 hs
  have hl14 := hs.len
  rw [bare_len] at hl14
  refine SXl.know (fun w hl => tree_addr (l := ps) (a := qa) (c := qc) (Owns.left hl.owns) (by omega)) (fun ⟨gt, hgt⟩ => ?_)
  subst hgt
  refine qau ?_
  refine qaB (ξ := Int) (v := fun x : Int => .int .i64 x) rfl rfl rfl (fun x => 0 ≤ x ∧ x < (ps.length : Int)) (fun w hl => below_d B gc w hl.inv (ps.length : Int) (by omega) (by omega)) (fun kz hkz => ?_)
  obtain ⟨k, rfl⟩ : ∃ k : Nat, kz = (k : Int) := ⟨kz.toNat, by omega⟩
  have hk : k < ps.length := by omega
  obtain ⟨x, hx⟩ : ∃ x, ps[k]? = some x := ⟨_, List.getElem?_eq_getElem hk⟩
  have hxs := hs.parts x.1 (List.mem_of_getElem? (bare_get hx))
  repeat (first | refine qan ?_ | refine qaj ?_ | refine qaf ?_ | refine qad ?_ | (refine qap ?_; (refine qac (qak rfl) rfl ?_ ?_ ?_); rfl; rfl) | (refine qam ?_; (refine qac (qah rfl) rfl ?_ ?_ ?_); rfl; rfl))
  refine qau ?_
  refine qaB (ξ := Int) (v := fun x : Int => .int .i64 x) rfl rfl rfl (fun x => 0 ≤ x ∧ x < 14) (fun w hl => below_d B gc w hl.inv 14 (by decide) (by decide)) (fun y hy => ?_)
  change SXl _ _ _ _ _ [⟨g3, [.slice (some ⟨gt, 0, none⟩) ps.length qc], 37⟩, ⟨g2, [.slice none 0 0], 37⟩] (treeO ps (some ⟨gt, 0, none⟩) qc ++ []) [] _ _ _
  rw [List.append_nil]
  by_cases y0 : y = 0
  · repeat (first | refine qan ?_ | refine qaj ?_ | refine qaf ?_ | refine qad ?_ | refine SX.block ?_ | refine qaq rfl ?_ | (refine qam ?_; (refine qac (qah rfl) rfl ?_ ?_ ?_); rfl; rfl) | (refine l_eql ?_; (refine qac (qaQ rfl rfl (by omega)) rfl ?_ ?_ ?_); rfl; rfl))
    refine SX.drawnG (ζ := Style) 5 (fun _ _ => [⟨g3, [.slice (some ⟨gt, 0, none⟩) ps.length qc], 37⟩, ⟨g2, [.slice none 0 0], 37⟩]) (fun _ _ => treeO ps (some ⟨gt, 0, none⟩) qc) (fun _ _ => []) [(4, fun s v => v = .agg s.cells.toArray)] default (by kernel_rfl) (by kernel_rfl) (by kernel_rfl) ⟨rfl, rfl, rfl⟩ ?_
    repeat (first | (refine SXg.v0 (fun dn x p ha hK => (qav 0 rfl rfl rfl)) rfl (fun _ => rfl) rfl (fun _ _ => ⟨rfl, rfl, rfl⟩) rfl ?_) | (refine SXg.v0 (fun dn x p ha hK => (qae rfl)) rfl (fun _ => rfl) rfl (fun _ _ => ⟨rfl, rfl, rfl⟩) rfl ?_) | (refine SXg.v0 (fun dn x p ha hK => (qak rfl)) rfl (fun _ => rfl) rfl (fun _ _ => ⟨rfl, rfl, rfl⟩) rfl ?_))
    refine SXg.l rfl (fun _ => rfl) rfl (fun dn x p ha hk => ?_) ?_
    · refine qaB (ξ := Style) (v := fun s => .agg s.cells.toArray) rfl rfl rfl (fun s => AllOk s.cells) (fun w hl => l06Any_d B gc w hl.inv) (fun s hs => ?_)
      exact qaj (SQ.g s _ rfl (fun w hl => hl) ⟨fun _ => rfl, trivial⟩)
    refine SXg.tail (fun xq s hkq => ?_)
    have x4 : xq 4 = .agg s.cells.toArray := hkq.1 rfl
    simp only [x4]
    repeat (first | (refine qaI ?_; (refine qac ((qaF (i := k) hk rfl rfl)) rfl ?_ ?_ ?_); rfl; rfl) | (refine qai ?_; (refine qac (qae rfl) rfl ?_ ?_ ?_); rfl; rfl))
    refine qas ?_
    refine SXl.treeRow0 (c := qc) (m := 60) ({ x.1 with style := s }, x.2) hx rfl rfl rfl rfl rfl (by decide) (by decide) (by kernel_rfl) rfl rfl ?_
    repeat (first | refine qan ?_ | refine qaj ?_ | refine qaf ?_ | refine qad ?_ | (refine qaw ?_; (refine qac (qal 0 rfl rfl rfl) rfl ?_ ?_ ?_); rfl; rfl) | (refine qas ?_; first | ((first | refine qag 0 ?_ rfl rfl rfl rfl rfl rfl ?_ | refine qag 1 ?_ rfl rfl rfl rfl rfl rfl ?_ | refine qag 2 ?_ rfl rfl rfl rfl rfl rfl ?_); rfl; simp only [List.set_cons_zero, List.set_cons_succ]) | ((first | refine qaa 0 ?_ rfl rfl rfl rfl rfl rfl rfl ?_ | refine qaa 1 ?_ rfl rfl rfl rfl rfl rfl rfl ?_ | refine qaa 2 ?_ rfl rfl rfl rfl rfl rfl rfl ?_); rfl; simp only [List.set_cons_zero, List.set_cons_succ]) | ((first | refine qab 0 ?_ rfl rfl rfl rfl rfl rfl rfl ?_ | refine qab 1 ?_ rfl rfl rfl rfl rfl rfl rfl ?_ | refine qab 2 ?_ rfl rfl rfl rfl rfl rfl rfl ?_); rfl; simp only [over, List.set_cons_zero, List.set_cons_succ])) | refine qaz ?_ | refine qar ?_)
    refine qaJ 1 rfl rfl rfl rfl (fun w' hl => ⟨⟨ps.set k ({ x.1 with style := s }, x.2), some ⟨gt, 0, none⟩, qc⟩, by simp [TreeQ.v], ?_, hl.owns, hl.mod, hl.inv⟩)
    show Drawn (bare _)
    rw [bare_set]
    exact drawn_set hs (by rw [bare_len]; exact h1) _ _ ⟨by show x.1.kids.length ≤ 15; omega, hxs.2⟩
  by_cases y1 : y = 1
  · repeat (first | refine qan ?_ | refine qaj ?_ | refine qaf ?_ | refine qad ?_ | refine SX.block ?_ | refine qaq rfl ?_ | refine qat rfl ?_ | (refine qam ?_; (refine qac (qah rfl) rfl ?_ ?_ ?_); rfl; rfl) | (refine l_eql ?_; (first | refine qac (qaQ rfl rfl (by omega)) rfl ?_ ?_ ?_ | refine qac (qaP rfl rfl (by omega)) rfl ?_ ?_ ?_); rfl; rfl))
    refine SX.drawnG (ζ := AnyG) 6 (fun d p => [⟨g3, [.slice (some ⟨gt, 0, none⟩) ps.length qc], 37⟩, ⟨g2, [.slice none 0 0], 37⟩] ++ (bif d 4 then [⟨p.g1, ([0, 1, 2, 3, -1, 13] : List Int).map (.int .i64), 3⟩] else [])) (fun _ _ => treeO ps (some ⟨gt, 0, none⟩) qc) (fun _ _ => []) [(4, fun p v => v = .slice (some ⟨p.g1, 0, none⟩) 6 6), (5, fun p v => v = .int .i64 p.n)] default (by kernel_rfl) (by kernel_rfl) (by kernel_rfl) ⟨rfl, rfl, rfl⟩ ?_
    repeat (first | (refine SXg.v0 (fun dn x p ha hK => (qav 0 rfl rfl rfl)) rfl (fun _ => rfl) rfl (fun _ _ => ⟨rfl, rfl, rfl⟩) rfl ?_) | (refine SXg.v0 (fun dn x p ha hK => (qae rfl)) rfl (fun _ => rfl) rfl (fun _ _ => ⟨rfl, rfl, rfl⟩) rfl ?_) | (refine SXg.v0 (fun dn x p ha hK => (qak rfl)) rfl (fun _ => rfl) rfl (fun _ _ => ⟨rfl, rfl, rfl⟩) rfl ?_))
    refine SXg.l rfl (fun _ => rfl) rfl (fun dn x p ha hk => ?_) ?_
    · have d5 : dn 5 = false := ha.later 5 (by kernel_rfl)
      have u5 : upd dn 4 5 = false := d5
      have d4 : dn 4 = false := ha.not
      have u4 : upd dn 4 4 = true := rfl
      simp only [d5, d4, cond_true, cond_false, List.append_nil, List.nil_append]
      refine SXl.lit (cells := ([0, 1, 2, 3, -1, 13] : List Int).map (.int .i64)) (z := .int .i64 0) rfl rfl rfl (by decide) (by kernel_rfl) rfl (fun g => ?_)
      refine qaj (SQ.g { p with g1 := g } _ rfl (fun w hl => ?_) ⟨fun _ => rfl, hk.2.1, trivial⟩)
      simp only [u5, u4, cond_true, cond_false, List.append_nil, List.nil_append]
      exact hl.blkLast
    refine SXg.l rfl (fun _ => rfl) rfl (fun dn x p ha hk => ?_) ?_
    · have d4 : dn 4 = true := ha.done 4 (by kernel_rfl)
      have u4 : upd dn 5 4 = true := d4
      have d5 : dn 5 = false := ha.not
      have u5 : upd dn 5 5 = true := rfl
      simp only [d4, d5, cond_true, cond_false, List.append_nil, List.nil_append]
      have x4 : x 4 = .slice (some ⟨p.g1, 0, none⟩) 6 6 := hk.1 d4
      simp only [x4]
      refine qaB (ξ := Int) (v := fun x => .int .i64 x) rfl rfl rfl (fun x => x ∈ ([0, 1, 2, 3, -1, 13] : List Int)) (fun w hl => pick_g (l := [0, 1, 2, 3, -1, 13]) hl (by simp) (by decide) (by decide)) (fun z hz => ?_)
      refine qaj (SQ.g { p with n := z } _ rfl (fun w hl => ?_) ⟨hk.1, fun _ => rfl, trivial⟩)
      simp only [u4, u5, cond_true, cond_false, List.append_nil, List.nil_append]
      exact hl
    refine SXg.tail (fun xq p hkq => ?_)
    have x5 : xq 5 = .int .i64 p.n := hkq.2.1 rfl
    simp only [x5]
    repeat (first | (refine qaI ?_; (refine qac ((qaF (i := k) hk rfl rfl)) rfl ?_ ?_ ?_); rfl; rfl) | (refine qai ?_; (refine qac (qae rfl) rfl ?_ ?_ ?_); rfl; rfl))
    refine qas ?_
    refine SXl.treeCell0 (c := qc) ({ x.1 with up := p.n }, x.2) hx rfl rfl rfl rfl (by decide) rfl rfl rfl ?_
    repeat (first | refine qan ?_ | refine qaj ?_ | refine qaf ?_ | refine qad ?_ | (refine qaw ?_; (refine qac (qal 0 rfl rfl rfl) rfl ?_ ?_ ?_); rfl; rfl) | (refine qas ?_; first | ((first | refine qag 0 ?_ rfl rfl rfl rfl rfl rfl ?_ | refine qag 1 ?_ rfl rfl rfl rfl rfl rfl ?_ | refine qag 2 ?_ rfl rfl rfl rfl rfl rfl ?_); rfl; simp only [List.set_cons_zero, List.set_cons_succ]) | ((first | refine qaa 0 ?_ rfl rfl rfl rfl rfl rfl rfl ?_ | refine qaa 1 ?_ rfl rfl rfl rfl rfl rfl rfl ?_ | refine qaa 2 ?_ rfl rfl rfl rfl rfl rfl rfl ?_); rfl; simp only [List.set_cons_zero, List.set_cons_succ]) | ((first | refine qab 0 ?_ rfl rfl rfl rfl rfl rfl rfl ?_ | refine qab 1 ?_ rfl rfl rfl rfl rfl rfl rfl ?_ | refine qab 2 ?_ rfl rfl rfl rfl rfl rfl rfl ?_); rfl; simp only [over, List.set_cons_zero, List.set_cons_succ])) | refine qaz ?_ | refine qar ?_)
    refine qaJ 1 rfl rfl rfl rfl (fun w' hl => ⟨⟨ps.set k ({ x.1 with up := p.n }, x.2), some ⟨gt, 0, none⟩, qc⟩, by simp [TreeQ.v], ?_, hl.owns, hl.mod, hl.inv⟩)
    show Drawn (bare _)
    rw [bare_set]
    exact drawn_set hs (by rw [bare_len]; exact h1) _ _ ⟨by show x.1.kids.length ≤ 15; omega, hxs.2⟩
  by_cases y2 : y = 2
  · repeat (first | refine qan ?_ | refine qaj ?_ | refine qaf ?_ | refine qad ?_ | refine SX.block ?_ | refine qaq rfl ?_ | refine qat rfl ?_ | (refine qam ?_; (refine qac (qah rfl) rfl ?_ ?_ ?_); rfl; rfl) | (refine l_eql ?_; (first | refine qac (qaQ rfl rfl (by omega)) rfl ?_ ?_ ?_ | refine qac (qaP rfl rfl (by omega)) rfl ?_ ?_ ?_); rfl; rfl))
    refine SX.drawnG (ζ := AnyG) 14 (fun d p => [⟨g3, [.slice (some ⟨gt, 0, none⟩) ps.length qc], 37⟩, ⟨g2, [.slice none 0 0], 37⟩] ++ (bif d 10 then [⟨p.g1, ([0, 1, 2, -1, 13] : List Int).map (.int .i64), 3⟩] else []) ++ (bif d 12 then [⟨p.g2, [.int .i64 p.n], 3⟩] else [])) (fun d p => bif d 13 then (treeO ps (some ⟨gt, 0, none⟩) qc).set (2 * k + 1) (kidsO ({ x.1 with kids := x.1.kids ++ [p.n] }, { x.2 with ka := p.a, kc := p.c })) else treeO ps (some ⟨gt, 0, none⟩) qc) (fun _ _ => []) [(10, fun p v => v = .slice (some ⟨p.g1, 0, none⟩) 5 5), (11, fun p v => v = .int .i64 p.n), (12, fun p v => v = .slice (some ⟨p.g2, 0, none⟩) 1 1), (13, fun p v => v = .slice p.a (x.1.kids.length + 1) p.c)] default (by kernel_rfl) (by kernel_rfl) (by kernel_rfl) ⟨rfl, rfl, rfl⟩ ?_
    repeat (first | (refine SXg.v0 (fun dn x p ha hK => ((qaF (i := k) hk rfl rfl))) rfl (fun _ => rfl) rfl (fun _ _ => ⟨rfl, rfl, rfl⟩) rfl ?_) | (refine SXg.v0 (fun dn x p ha hK => (qav 0 rfl rfl rfl)) rfl (fun _ => rfl) rfl (fun _ _ => ⟨rfl, rfl, rfl⟩) rfl ?_) | (refine SXg.v0 (fun dn x p ha hK => (qae rfl)) rfl (fun _ => rfl) rfl (fun _ _ => ⟨rfl, rfl, rfl⟩) rfl ?_) | (refine SXg.v0 (fun dn x p ha hK => (qak rfl)) rfl (fun _ => rfl) rfl (fun _ _ => ⟨rfl, rfl, rfl⟩) rfl ?_))
    refine SXg.v0 (v := .slice x.2.ka x.1.kids.length x.2.kc) (fun dn x' p ha hk => ?_) rfl (fun _ => rfl) rfl (fun _ _ => ⟨rfl, rfl, rfl⟩) rfl ?_
    · have d13 : dn 13 = false := ha.later 13 (by kernel_rfl)
      simp only [d13, cond_false]
      exact OpW.loadLoc rfl (fun w hl => by have := nodes_cell hl.owns hx (nodeRow_1 _ _ _ _ _ _ _ _ _); exact this)
    repeat ((refine SXg.v0 (fun dn x p ha hK => (qak rfl)) rfl (fun _ => rfl) rfl (fun _ _ => ⟨rfl, rfl, rfl⟩) rfl ?_))
    refine SXg.l rfl (fun _ => rfl) rfl (fun dn x' p ha hk => ?_) ?_
    · have d11 : dn 11 = false := ha.later 11 (by kernel_rfl)
      have u11 : upd dn 10 11 = false := d11
      have d12 : dn 12 = false := ha.later 12 (by kernel_rfl)
      have u12 : upd dn 10 12 = false := d12
      have d13 : dn 13 = false := ha.later 13 (by kernel_rfl)
      have u13 : upd dn 10 13 = false := d13
      have d10 : dn 10 = false := ha.not
      have u10 : upd dn 10 10 = true := rfl
      simp only [d11, d12, d13, d10, cond_true, cond_false, List.append_nil, List.nil_append]
      refine SXl.lit (cells := ([0, 1, 2, -1, 13] : List Int).map (.int .i64)) (z := .int .i64 0) rfl rfl rfl (by decide) (by kernel_rfl) rfl (fun g => ?_)
      refine qaj (SQ.g { p with g1 := g } _ rfl (fun w hl => ?_) ⟨fun _ => rfl, hk.2.1, hk.2.2.1, hk.2.2.2.1, trivial⟩)
      simp only [u11, u12, u13, u10, cond_true, cond_false, List.append_nil, List.nil_append]
      exact hl.blkLast
    refine SXg.l rfl (fun _ => rfl) rfl (fun dn x' p ha hk => ?_) ?_
    · have d10 : dn 10 = true := ha.done 10 (by kernel_rfl)
      have u10 : upd dn 11 10 = true := d10
      have d12 : dn 12 = false := ha.later 12 (by kernel_rfl)
      have u12 : upd dn 11 12 = false := d12
      have d13 : dn 13 = false := ha.later 13 (by kernel_rfl)
      have u13 : upd dn 11 13 = false := d13
      have d11 : dn 11 = false := ha.not
      have u11 : upd dn 11 11 = true := rfl
      simp only [d10, d12, d13, d11, cond_true, cond_false, List.append_nil, List.nil_append]
      have x10 : x' 10 = .slice (some ⟨p.g1, 0, none⟩) 5 5 := hk.1 d10
      simp only [x10]
      refine qaB (ξ := Int) (v := fun x => .int .i64 x) rfl rfl rfl (fun x => x ∈ ([0, 1, 2, -1, 13] : List Int)) (fun w hl => pick_g (l := [0, 1, 2, -1, 13]) hl (by simp) (by decide) (by decide)) (fun z hz => ?_)
      refine qaj (SQ.g { p with n := z } _ rfl (fun w hl => ?_) ⟨hk.1, fun _ => rfl, hk.2.2.1, hk.2.2.2.1, trivial⟩)
      simp only [u10, u12, u13, u11, cond_true, cond_false, List.append_nil, List.nil_append]
      exact hl
    refine SXg.l rfl (fun _ => rfl) rfl (fun dn x' p ha hk => ?_) ?_
    · have d10 : dn 10 = true := ha.done 10 (by kernel_rfl)
      have u10 : upd dn 12 10 = true := d10
      have d11 : dn 11 = true := ha.done 11 (by kernel_rfl)
      have u11 : upd dn 12 11 = true := d11
      have d13 : dn 13 = false := ha.later 13 (by kernel_rfl)
      have u13 : upd dn 12 13 = false := d13
      have d12 : dn 12 = false := ha.not
      have u12 : upd dn 12 12 = true := rfl
      simp only [d10, d11, d13, d12, cond_true, cond_false, List.append_nil, List.nil_append]
      have x11 : x' 11 = .int .i64 p.n := hk.2.1 d11
      simp only [x11]
      refine SXl.lit1 rfl rfl rfl rfl rfl (fun g => ?_)
      refine qaj (SQ.g { p with g2 := g } _ rfl (fun w hl => ?_) ⟨hk.1, hk.2.1, fun _ => rfl, hk.2.2.2.1, trivial⟩)
      simp only [u10, u11, u13, u12, cond_true, cond_false, List.append_nil, List.nil_append]
      exact hl.blkLast
    refine SXg.l rfl (fun _ => rfl) rfl (fun dn x' p ha hk => ?_) ?_
    · have d10 : dn 10 = true := ha.done 10 (by kernel_rfl)
      have u10 : upd dn 13 10 = true := d10
      have d11 : dn 11 = true := ha.done 11 (by kernel_rfl)
      have u11 : upd dn 13 11 = true := d11
      have d12 : dn 12 = true := ha.done 12 (by kernel_rfl)
      have u12 : upd dn 13 12 = true := d12
      have d13 : dn 13 = false := ha.not
      have u13 : upd dn 13 13 = true := rfl
      simp only [d10, d11, d12, d13, cond_true, cond_false, List.append_nil, List.nil_append]
      have x12 : x' 12 = .slice (some ⟨p.g2, 0, none⟩) 1 1 := hk.2.2.1 d12
      simp only [x12]
      refine SXl.append (2 * k + 1) 3 rfl rfl rfl (by rw [treeO, List.getElem?_cons_succ]; exact partsO_kid hx) rfl rfl rfl rfl (by omega) (by omega) (fun a' c' => ?_)
      refine qaj (SQ.g { p with a := a', c := c' } _ rfl (fun w hl => ?_) ⟨hk.1, hk.2.1, hk.2.2.1, fun _ => rfl, trivial⟩)
      simp only [u10, u11, u12, u13, cond_true, cond_false, List.append_nil, List.nil_append]
      have e : (⟨.slice a' (x.1.kids.length + 1) c', 3, 1, x.1.kids.length + 1, (x.1.kids.map icell).flatten ++ [.int .i64 p.n]⟩ : Own) = kidsO ({ x.1 with kids := x.1.kids ++ [p.n] }, { x.2 with ka := a', kc := c' }) := by
        unfold kidsO
        rw [List.length_append, List.map_append, List.flatten_append]
        rfl
      rw [← e]
      exact hl
    refine SXg.tail (fun xq p hkq => ?_)
    have x13 : xq 13 = .slice p.a (x.1.kids.length + 1) p.c := hkq.2.2.2.1 rfl
    simp only [x13]
    repeat (first | (refine qaI ?_; (refine qac ((qaF (i := k) hk rfl rfl)) rfl ?_ ?_ ?_); rfl; rfl) | (refine qai ?_; (refine qac (qae rfl) rfl ?_ ?_ ?_); rfl; rfl))
    refine qas ?_
    refine SXl.storeOwn (O' := treeO (ps.set k ({ x.1 with kids := x.1.kids ++ [p.n] }, { x.2 with ka := p.a, kc := p.c })) (some ⟨gt, 0, none⟩) qc) 0 rfl rfl rfl rfl (by rw [Nat.zero_add]; exact row_low hx (by decide)) rfl ?_ ?_
    · have e2 := partsO_setKid (y := (({ x.1 with kids := x.1.kids ++ [p.n] } : Node), ({ x.2 with ka := p.a, kc := p.c } : NodeP))) hx rfl
      unfold treeO
      rw [nodes_set (j := 1) (v := .slice p.a (x.1.kids.length + 1) p.c) hx (by decide) (by unfold rowP; rw [List.length_append]; rfl), e2, show 0 + k * 64 + 1 = k * 64 + 1 by omega]
      rfl
    repeat (first | refine qan ?_ | refine qaj ?_ | refine qaf ?_ | refine qad ?_ | (refine qaw ?_; (refine qac (qal 0 rfl rfl rfl) rfl ?_ ?_ ?_); rfl; rfl) | (refine qas ?_; first | ((first | refine qag 0 ?_ rfl rfl rfl rfl rfl rfl ?_ | refine qag 1 ?_ rfl rfl rfl rfl rfl rfl ?_ | refine qag 2 ?_ rfl rfl rfl rfl rfl rfl ?_); rfl; simp only [List.set_cons_zero, List.set_cons_succ]) | ((first | refine qaa 0 ?_ rfl rfl rfl rfl rfl rfl rfl ?_ | refine qaa 1 ?_ rfl rfl rfl rfl rfl rfl rfl ?_ | refine qaa 2 ?_ rfl rfl rfl rfl rfl rfl rfl ?_); rfl; simp only [List.set_cons_zero, List.set_cons_succ]) | ((first | refine qab 0 ?_ rfl rfl rfl rfl rfl rfl rfl ?_ | refine qab 1 ?_ rfl rfl rfl rfl rfl rfl rfl ?_ | refine qab 2 ?_ rfl rfl rfl rfl rfl rfl rfl ?_); rfl; simp only [over, List.set_cons_zero, List.set_cons_succ])) | refine qaz ?_ | refine qar ?_)
    refine qaJ 1 rfl rfl rfl rfl (fun w' hl => ⟨⟨ps.set k ({ x.1 with kids := x.1.kids ++ [p.n] }, { x.2 with ka := p.a, kc := p.c }), some ⟨gt, 0, none⟩, qc⟩, by simp [TreeQ.v], ?_, hl.owns, hl.mod, hl.inv⟩)
    show Drawn (bare _)
    rw [bare_set]
    exact drawn_set hs (by rw [bare_len]; exact h1) _ _ ⟨by show (x.1.kids ++ [p.n]).length ≤ 15; rw [List.length_append]; simp; omega, hxs.2⟩
  by_cases y3 : y = 3
  · repeat (first | refine qan ?_ | refine qaj ?_ | refine qaf ?_ | refine qad ?_ | refine SX.block ?_ | refine qaq rfl ?_ | refine qat rfl ?_ | (refine qam ?_; (refine qac (qah rfl) rfl ?_ ?_ ?_); rfl; rfl) | (refine l_eql ?_; (first | refine qac (qaQ rfl rfl (by omega)) rfl ?_ ?_ ?_ | refine qac (qaP rfl rfl (by omega)) rfl ?_ ?_ ?_); rfl; rfl))
    refine SX.drawnG (ζ := Unit) 10 (fun _ _ => [⟨g3, [.slice (some ⟨gt, 0, none⟩) ps.length qc], 37⟩, ⟨g2, [.slice none 0 0], 37⟩]) (fun _ _ => treeO ps (some ⟨gt, 0, none⟩) qc) (fun _ _ => []) [] () (by kernel_rfl) (by kernel_rfl) (by kernel_rfl) ⟨rfl, rfl, rfl⟩ ?_
    repeat (first | (refine SXg.v0 (fun dn x p ha hK => ((qaF (i := k) hk rfl rfl))) rfl (fun _ => rfl) rfl (fun _ _ => ⟨rfl, rfl, rfl⟩) rfl ?_) | (refine SXg.v0 (fun dn x p ha hK => (qav 0 rfl rfl rfl)) rfl (fun _ => rfl) rfl (fun _ _ => ⟨rfl, rfl, rfl⟩) rfl ?_) | (refine SXg.v0 (fun dn x p ha hK => (qae rfl)) rfl (fun _ => rfl) rfl (fun _ _ => ⟨rfl, rfl, rfl⟩) rfl ?_) | (refine SXg.v0 (fun dn x p ha hK => (qak rfl)) rfl (fun _ => rfl) rfl (fun _ _ => ⟨rfl, rfl, rfl⟩) rfl ?_))
    refine SXg.v0 (v := .bool x.1.measured) (fun dn x' p ha hk => ?_) rfl (fun _ => rfl) rfl (fun _ _ => ⟨rfl, rfl, rfl⟩) rfl ?_
    · exact OpW.loadLoc rfl (fun w hl => by have := nodes_cell hl.owns hx (nodeRow_62 _ _ _ _ _ _ _ _ _); exact this)
    repeat ((refine SXg.v0 (fun dn x p ha hK => (OpW.not rfl)) rfl (fun _ => rfl) rfl (fun _ _ => ⟨rfl, rfl, rfl⟩) rfl ?_))
    refine SXg.tail (fun xq p hkq => ?_)
    repeat (first | (refine qaI ?_; (refine qac ((qaF (i := k) hk rfl rfl)) rfl ?_ ?_ ?_); rfl; rfl) | (refine qai ?_; (refine qac (qae rfl) rfl ?_ ?_ ?_); rfl; rfl))
    refine qas ?_
    refine SXl.treeCell0 (c := qc) ({ x.1 with measured := !x.1.measured }, x.2) hx rfl rfl rfl rfl (by decide) rfl rfl rfl ?_
    repeat (first | refine qan ?_ | refine qaj ?_ | refine qaf ?_ | refine qad ?_ | (refine qaw ?_; (refine qac (qal 0 rfl rfl rfl) rfl ?_ ?_ ?_); rfl; rfl) | (refine qas ?_; first | ((first | refine qag 0 ?_ rfl rfl rfl rfl rfl rfl ?_ | refine qag 1 ?_ rfl rfl rfl rfl rfl rfl ?_ | refine qag 2 ?_ rfl rfl rfl rfl rfl rfl ?_); rfl; simp only [List.set_cons_zero, List.set_cons_succ]) | ((first | refine qaa 0 ?_ rfl rfl rfl rfl rfl rfl rfl ?_ | refine qaa 1 ?_ rfl rfl rfl rfl rfl rfl rfl ?_ | refine qaa 2 ?_ rfl rfl rfl rfl rfl rfl rfl ?_); rfl; simp only [List.set_cons_zero, List.set_cons_succ]) | ((first | refine qab 0 ?_ rfl rfl rfl rfl rfl rfl rfl ?_ | refine qab 1 ?_ rfl rfl rfl rfl rfl rfl rfl ?_ | refine qab 2 ?_ rfl rfl rfl rfl rfl rfl rfl ?_); rfl; simp only [over, List.set_cons_zero, List.set_cons_succ])) | refine qaz ?_ | refine qar ?_)
    refine qaJ 1 rfl rfl rfl rfl (fun w' hl => ⟨⟨ps.set k ({ x.1 with measured := !x.1.measured }, x.2), some ⟨gt, 0, none⟩, qc⟩, by simp [TreeQ.v], ?_, hl.owns, hl.mod, hl.inv⟩)
    show Drawn (bare _)
    rw [bare_set]
    exact drawn_set hs (by rw [bare_len]; exact h1) _ _ ⟨by show x.1.kids.length ≤ 15; omega, hxs.2⟩
  by_cases y4 : y = 4
  · repeat (first | refine qan ?_ | refine qaj ?_ | refine qaf ?_ | refine qad ?_ | refine SX.block ?_ | refine qaq rfl ?_ | refine qat rfl ?_ | (refine qam ?_; (refine qac (qah rfl) rfl ?_ ?_ ?_); rfl; rfl) | (refine l_eql ?_; (first | refine qac (qaQ rfl rfl (by omega)) rfl ?_ ?_ ?_ | refine qac (qaP rfl rfl (by omega)) rfl ?_ ?_ ?_); rfl; rfl))
    refine SX.drawnG (ζ := RuleQ) 5 (fun _ _ => [⟨g3, [.slice (some ⟨gt, 0, none⟩) ps.length qc], 37⟩, ⟨g2, [.slice none 0 0], 37⟩]) (fun d p => (bif d 4 then [p.o] else []) ++ treeO ps (some ⟨gt, 0, none⟩) qc) (fun _ _ => []) [(4, fun p v => v = p.v ∧ p.l.length ≤ 7)] ⟨[], none, 0⟩ (by kernel_rfl) (by kernel_rfl) (by kernel_rfl) ⟨rfl, rfl, rfl⟩ ?_
    repeat (first | (refine SXg.v0 (fun dn x p ha hK => (qav 0 rfl rfl rfl)) rfl (fun _ => rfl) rfl (fun _ _ => ⟨rfl, rfl, rfl⟩) rfl ?_) | (refine SXg.v0 (fun dn x p ha hK => (qae rfl)) rfl (fun _ => rfl) rfl (fun _ _ => ⟨rfl, rfl, rfl⟩) rfl ?_) | (refine SXg.v0 (fun dn x p ha hK => (qak rfl)) rfl (fun _ => rfl) rfl (fun _ _ => ⟨rfl, rfl, rfl⟩) rfl ?_))
    refine SXg.l rfl (fun _ => rfl) rfl (fun dn x' p ha hk => ?_) ?_
    · have d4 : dn 4 = false := ha.not
      have u4 : upd dn 4 4 = true := rfl
      simp only [d4, cond_true, cond_false, List.append_nil, List.nil_append]
      refine SXl.drawOJ rfl rfl rfl (fun w hl => l09Any_o B gc w hl.inv) (fun r hr => ?_)
      refine qaj (SQ.g r _ rfl (fun w hl => ?_) ⟨fun _ => ⟨rfl, hr⟩, trivial⟩)
      simp only [u4, cond_true, cond_false, List.append_nil, List.nil_append]
      exact hl
    refine SXg.tail (fun xq p hkq => ?_)
    obtain ⟨x4, hr4⟩ : xq 4 = p.v ∧ p.l.length ≤ 7 := hkq.1 rfl
    simp only [x4]
    repeat (first | (refine qaI ?_; (refine qac ((qaF (i := k) hk rfl rfl)) rfl ?_ ?_ ?_); rfl; rfl) | (refine qai ?_; (refine qac (qae rfl) rfl ?_ ?_ ?_); rfl; rfl))
    refine qas ?_
    refine SXl.treeRules0 (c := qc) (v := .slice p.a p.l.length p.c) ({ x.1 with rules := p.l }, { x.2 with ra := p.a, rc := p.c }) hx rfl rfl rfl rfl rfl rfl rfl ?_
    repeat (first | refine qan ?_ | refine qaj ?_ | refine qaf ?_ | refine qad ?_ | (refine qaw ?_; (refine qac (qal 0 rfl rfl rfl) rfl ?_ ?_ ?_); rfl; rfl) | (refine qas ?_; first | ((first | refine qag 0 ?_ rfl rfl rfl rfl rfl rfl ?_ | refine qag 1 ?_ rfl rfl rfl rfl rfl rfl ?_ | refine qag 2 ?_ rfl rfl rfl rfl rfl rfl ?_); rfl; simp only [List.set_cons_zero, List.set_cons_succ]) | ((first | refine qaa 0 ?_ rfl rfl rfl rfl rfl rfl rfl ?_ | refine qaa 1 ?_ rfl rfl rfl rfl rfl rfl rfl ?_ | refine qaa 2 ?_ rfl rfl rfl rfl rfl rfl rfl ?_); rfl; simp only [List.set_cons_zero, List.set_cons_succ]) | ((first | refine qab 0 ?_ rfl rfl rfl rfl rfl rfl rfl ?_ | refine qab 1 ?_ rfl rfl rfl rfl rfl rfl rfl ?_ | refine qab 2 ?_ rfl rfl rfl rfl rfl rfl rfl ?_); rfl; simp only [over, List.set_cons_zero, List.set_cons_succ])) | refine qaz ?_ | refine qar ?_)
    refine qaJ 1 rfl rfl rfl rfl (fun w' hl => ⟨⟨ps.set k ({ x.1 with rules := p.l }, { x.2 with ra := p.a, rc := p.c }), some ⟨gt, 0, none⟩, qc⟩, by simp [TreeQ.v], ?_, hl.owns, hl.mod, hl.inv⟩)
    show Drawn (bare _)
    rw [bare_set]
    exact drawn_set hs (by rw [bare_len]; exact h1) _ _ ⟨by show x.1.kids.length ≤ 15; omega, by show p.l.length ≤ 8; omega⟩
  by_cases y5 : y = 5
  rotate_left
  · repeat (first | refine qan ?_ | refine qaj ?_ | refine qaf ?_ | refine qad ?_ | refine SX.block ?_ | refine qaC ?_ | refine qat rfl ?_ | (refine qaw ?_; (refine qac (qal 0 rfl rfl rfl) rfl ?_ ?_ ?_); rfl; rfl) | (refine qam ?_; (refine qac (qah rfl) rfl ?_ ?_ ?_); rfl; rfl) | (refine l_eql ?_; (refine qac (qaP rfl rfl (by omega)) rfl ?_ ?_ ?_); rfl; rfl) | (refine qas ?_; first | ((first | refine qag 0 ?_ rfl rfl rfl rfl rfl rfl ?_ | refine qag 1 ?_ rfl rfl rfl rfl rfl rfl ?_ | refine qag 2 ?_ rfl rfl rfl rfl rfl rfl ?_); rfl; simp only [List.set_cons_zero, List.set_cons_succ]) | ((first | refine qaa 0 ?_ rfl rfl rfl rfl rfl rfl rfl ?_ | refine qaa 1 ?_ rfl rfl rfl rfl rfl rfl rfl ?_ | refine qaa 2 ?_ rfl rfl rfl rfl rfl rfl rfl ?_); rfl; simp only [List.set_cons_zero, List.set_cons_succ]) | ((first | refine qab 0 ?_ rfl rfl rfl rfl rfl rfl rfl ?_ | refine qab 1 ?_ rfl rfl rfl rfl rfl rfl rfl ?_ | refine qab 2 ?_ rfl rfl rfl rfl rfl rfl rfl ?_); rfl; simp only [over, List.set_cons_zero, List.set_cons_succ])) | refine qaz ?_ | refine qar ?_)
    refine qaJ 1 rfl rfl rfl rfl (fun w' hl => ⟨⟨ps, some ⟨gt, 0, none⟩, qc⟩, rfl, hs.drawn (by rw [bare_len]; exact h1), hl.owns, hl.mod, hl.inv⟩)
  repeat (first | refine qan ?_ | refine qaj ?_ | refine qaf ?_ | refine qad ?_ | refine SX.block ?_ | refine qaq rfl ?_ | refine qat rfl ?_ | (refine qam ?_; (refine qac (qah rfl) rfl ?_ ?_ ?_); rfl; rfl) | (refine l_eql ?_; (first | refine qac (qaQ rfl rfl (by omega)) rfl ?_ ?_ ?_ | refine qac (qaP rfl rfl (by omega)) rfl ?_ ?_ ?_); rfl; rfl))
  refine SX.loop3 (fun (q : TreeQ) (_ _ : Unit) => Drawn (bare q.ps) ∧ 1 ≤ q.ps.length ∧ q.ps.length ≤ 14) (fun q _ _ => 14 - q.ps.length) (fun q _ _ => [⟨g3, [.slice q.a q.ps.length q.c], 37⟩, ⟨g2, [.slice none 0 0], 37⟩]) (fun q _ _ => q.os) (fun _ _ _ => []) (fun _ _ _ => [(0, .pointer (some ⟨gc, 0, none⟩)), (2, .pointer (some ⟨g2, 0, none⟩)), (3, .pointer (some ⟨g3, 0, none⟩))]) ⟨ps, some ⟨gt, 0, none⟩, qc⟩ () () ⟨hs.drawn (by rw [bare_len]; exact h1), h1, hl14⟩ ?_ (fun w hl => hl) ?_
  · (repeat (first | exact subF_nil _ | (refine subF_cons rfl ?_) | (refine subF_consv rfl (by rfl) ?_)))
  clear hx hxs hk hkz hs h1 hl14
  rintro q _ _ ⟨hd, h1, h14⟩
  repeat (refine qan ?_)
  refine SX.drawnG (ζ := Int) 7 (fun _ _ => [⟨g3, [.slice q.a q.ps.length q.c], 37⟩, ⟨g2, [.slice none 0 0], 37⟩]) (fun _ _ => q.os) (fun _ _ => []) [(4, fun n v => v = .int .i64 n ∧ 0 ≤ n ∧ n < 2)] 0 (by kernel_rfl) (by kernel_rfl) (by kernel_rfl) ⟨rfl, rfl, rfl⟩ ?_
  repeat (first | (refine SXg.v0 (fun dn x p ha hK => (qav 0 rfl rfl rfl)) rfl (fun _ => rfl) rfl (fun _ _ => ⟨rfl, rfl, rfl⟩) rfl ?_) | (refine SXg.v0 (fun dn x p ha hK => (qae rfl)) rfl (fun _ => rfl) rfl (fun _ _ => ⟨rfl, rfl, rfl⟩) rfl ?_) | (refine SXg.v0 (fun dn x p ha hK => (qak rfl)) rfl (fun _ => rfl) rfl (fun _ _ => ⟨rfl, rfl, rfl⟩) rfl ?_) | (refine SXg.v0 (fun dn x p ha hK => (OpW.len rfl)) rfl (fun _ => rfl) rfl (fun _ _ => ⟨rfl, rfl, rfl⟩) rfl ?_))
  refine SXg.l rfl (fun _ => rfl) rfl (fun dn x p ha hk => ?_) ?_
  · refine qaB (ξ := Int) (v := fun x => .int .i64 x) rfl rfl rfl (fun x => 0 ≤ x ∧ x < 2) (fun w hl => below_d B gc w hl.inv 2 (by decide) (by decide)) (fun n hn => ?_)
    exact qaj (SQ.g n _ rfl (fun w hl => hl) ⟨fun _ => ⟨rfl, hn⟩, trivial⟩)
  refine SXg.v [4] (fun x => .int .i64 (12 + intOf (x 4))) (by kernel_rfl) (fun x y h => by rw [h 4 (by simp)]) (fun dn x p ha hk => ?_) rfl (fun _ => rfl) rfl (fun _ _ => ⟨rfl, rfl, rfl⟩) rfl ?_
  · obtain ⟨x4, h4⟩ : x 4 = .int .i64 p ∧ 0 ≤ p ∧ p < 2 := hk.1 (ha.done 4 (by kernel_rfl))
    simp only [x4, intOf]
    exact OpW.addi rfl rfl (by omega) (by omega)
  refine SXg.v [4] (fun x => .bool (decide ((q.ps.length : Int) < 12 + intOf (x 4)))) (by kernel_rfl) (fun x y h => by rw [h 4 (by simp)]) (fun dn x p ha hk => OpW.lss rfl rfl) rfl (fun _ => rfl) rfl (fun _ _ => ⟨rfl, rfl, rfl⟩) rfl ?_
  refine SXg.nilW (fun xq n hkq => ?_)
  obtain ⟨x4, h4⟩ : xq 4 = .int .i64 n ∧ 0 ≤ n ∧ n < 2 := hkq.1 rfl
  simp only [x4, intOf]
  by_cases hlt : (q.ps.length : Int) < 12 + n
  rotate_left
  · rw [decide_eq_false hlt]
    repeat (first | refine qan ?_ | refine qaj ?_ | refine qaf ?_ | refine qad ?_ | refine qat rfl ?_ | (refine qaw ?_; (refine qac (qal 0 rfl rfl rfl) rfl ?_ ?_ ?_); rfl; rfl) | (refine qas ?_; first | ((first | refine qag 0 ?_ rfl rfl rfl rfl rfl rfl ?_ | refine qag 1 ?_ rfl rfl rfl rfl rfl rfl ?_ | refine qag 2 ?_ rfl rfl rfl rfl rfl rfl ?_); rfl; simp only [List.set_cons_zero, List.set_cons_succ]) | ((first | refine qaa 0 ?_ rfl rfl rfl rfl rfl rfl rfl ?_ | refine qaa 1 ?_ rfl rfl rfl rfl rfl rfl rfl ?_ | refine qaa 2 ?_ rfl rfl rfl rfl rfl rfl rfl ?_); rfl; simp only [List.set_cons_zero, List.set_cons_succ]) | ((first | refine qab 0 ?_ rfl rfl rfl rfl rfl rfl rfl ?_ | refine qab 1 ?_ rfl rfl rfl rfl rfl rfl rfl ?_ | refine qab 2 ?_ rfl rfl rfl rfl rfl rfl rfl ?_); rfl; simp only [over, List.set_cons_zero, List.set_cons_succ])) | refine qaz ?_ | refine SX.exit ?_ | refine qaO ?_ | refine qar ?_ | refine qaK ?_)
    refine qaJ 1 rfl rfl rfl rfl (fun w' hl => ⟨q, rfl, hd, hl.owns, hl.mod, hl.inv⟩)
  rw [decide_eq_true hlt]
  repeat (first | refine qad ?_ | refine SX.block ?_ | refine qaC ?_ | refine qaq rfl ?_)
  refine SX.drawnG (ζ := Nat) 5 (fun d p => [⟨g3, [.slice q.a q.ps.length q.c], 37⟩, ⟨g2, [.slice none 0 0], 37⟩] ++ (bif d 4 then [⟨p, rowP (⟨0, [], newStyle, false, []⟩, ⟨none, 0, none, 0⟩), 86⟩] else [])) (fun _ _ => q.os) (fun _ _ => []) [(4, fun p v => v = .slice (some ⟨p, 0, none⟩) 1 1)] 0 (by kernel_rfl) (by kernel_rfl) (by kernel_rfl) ⟨rfl, rfl, rfl⟩ ?_
  repeat (first | (refine SXg.v0 (fun dn x p ha hK => (qao rfl (fun w hl => sstyleNew_any _))) rfl (fun _ => rfl) rfl (fun _ _ => ⟨rfl, rfl, rfl⟩) rfl ?_) | (refine SXg.v0 (fun dn x p ha hK => ((OpW.build (vals := [(2, .agg newStyle.cells.toArray)]) (cells := rowP (⟨0, [], newStyle, false, []⟩, ⟨none, 0, none, 0⟩)) rfl (by kernel_rfl)))) rfl (fun _ => rfl) rfl (fun _ _ => ⟨rfl, rfl, rfl⟩) rfl ?_) | (refine SXg.v0 (fun dn x p ha hK => (qav 0 rfl rfl rfl)) rfl (fun _ => rfl) rfl (fun _ _ => ⟨rfl, rfl, rfl⟩) rfl ?_) | (refine SXg.v0 (fun dn x p ha hK => (qae rfl)) rfl (fun _ => rfl) rfl (fun _ _ => ⟨rfl, rfl, rfl⟩) rfl ?_))
  refine SXg.l rfl (fun _ => rfl) rfl (fun dn x' p ha hk => ?_) ?_
  · have d4 : dn 4 = false := ha.not
    have u4 : upd dn 4 4 = true := rfl
    simp only [d4, cond_true, cond_false, List.append_nil, List.nil_append]
    refine SXl.litRow1 (sz := 64) (r := rowP (⟨0, [], newStyle, false, []⟩, ⟨none, 0, none, 0⟩)) rfl rfl rfl rfl rfl (by decide) (by decide) (fun g => ?_)
    refine qaj (SQ.g g _ rfl (fun w hl => ?_) ⟨fun _ => rfl, trivial⟩)
    simp only [u4, cond_true, cond_false, List.append_nil, List.nil_append]
    exact hl.blkLast
  refine SXg.tail (fun yq p hkp => ?_)
  have y4 : yq 4 = .slice (some ⟨p, 0, none⟩) 1 1 := hkp.1 rfl
  simp only [y4]
  change SXl _ _ _ _ _ [⟨g3, [.slice q.a q.ps.length q.c], 37⟩, ⟨g2, [.slice none 0 0], 37⟩, ⟨p, rowP (⟨0, [], newStyle, false, []⟩, ⟨none, 0, none, 0⟩), 86⟩] (nodesO q.ps q.a q.c :: partsO q.ps) _ _ _ _
  refine l_append ?_
  refine SXl.append 0 2 rfl rfl rfl rfl rfl rfl rfl (rowP_ones _) (by omega) (by omega) (fun a3 c3 => ?_)
  repeat (first | refine qaj ?_ | (refine qai ?_; (refine qac (qae rfl) rfl ?_ ?_ ?_); rfl; rfl) | (refine qas ?_; first | ((first | refine qag 0 ?_ rfl rfl rfl rfl rfl rfl ?_ | refine qag 1 ?_ rfl rfl rfl rfl rfl rfl ?_ | refine qag 2 ?_ rfl rfl rfl rfl rfl rfl ?_); rfl; simp only [List.set_cons_zero, List.set_cons_succ]) | ((first | refine qaa 0 ?_ rfl rfl rfl rfl rfl rfl rfl ?_ | refine qaa 1 ?_ rfl rfl rfl rfl rfl rfl rfl ?_ | refine qaa 2 ?_ rfl rfl rfl rfl rfl rfl rfl ?_); rfl; simp only [List.set_cons_zero, List.set_cons_succ]) | ((first | refine qab 0 ?_ rfl rfl rfl rfl rfl rfl rfl ?_ | refine qab 1 ?_ rfl rfl rfl rfl rfl rfl rfl ?_ | refine qab 2 ?_ rfl rfl rfl rfl rfl rfl rfl ?_); rfl; simp only [over, List.set_cons_zero, List.set_cons_succ])) | refine qar ?_)
  refine SQ.round3 (⟨q.ps ++ [(⟨0, [], newStyle, false, []⟩, ⟨none, 0, none, 0⟩)], a3, c3⟩ : TreeQ) () () ⟨?_, by simp, by simp; omega⟩ (by simp; omega) ?_ (fun w hl => ?_)
  · show Drawn (bare (q.ps ++ [_]))
    rw [bare, List.map_append]
    refine ⟨by simp, by simp; omega, fun z hz => ?_⟩
    rcases List.mem_append.1 hz with hz | hz
    · exact hd.parts z hz
    · obtain rfl := List.mem_singleton.1 hz
      exact ⟨Nat.zero_le _, Nat.zero_le _⟩
  · (repeat (first | exact subF_nil _ | (refine subF_cons rfl ?_) | (refine subF_consv rfl (by rfl) ?_)))
  · have h2 := (((hl.blkTake 2).ownNil 3 1).ownNil 152 3).treePush (x := (⟨0, [], newStyle, false, []⟩, ⟨none, 0, none, 0⟩))
    show Loc _ _ (⟨_, [.slice a3 (q.ps ++ [_]).length c3], _⟩ :: _) _ _ _
    rw [List.length_append]
    exact h2
end Go.Proofs.Ythffgbhphjkdeaa
namespace Go.Proofs.Ythffgbhphjkdeaa
open Go.RowKit

theorem drawn_put {l : List Node} (h : Drawn l) (k : Nat) (x : Node) (hx : x.kids.length ≤ 15 ∧ x.rules.length ≤ 8) : Drawn (l.set k x) :=
  ⟨by rw [List.length_set]; exact h.pos, by rw [List.length_set]; exact h.len, fun y hy => by
    rcases List.mem_or_eq_of_mem_set hy with hy | rfl
    · exact h.parts y hy
    · exact hx⟩
theorem drawn_at {l : List Node} (h : Drawn l) (n : Int) : (nodeAt l n).kids.length ≤ 15 ∧ (nodeAt l n).rules.length ≤ 8 := by
  unfold nodeAt
  cases hx : l[(n - 1).toNat]? with
  | none => exact ⟨Nat.zero_le _, Nat.zero_le _⟩
  | some x => exact h.parts x (List.mem_of_getElem? hx)
theorem Drawn.style {l : List Node} (h : Drawn l) (n : Int) (s : Style) : Drawn (setStyle l n s).1 := by
  unfold setStyle
  split
  · exact h
  · split
    · exact h
    · exact drawn_put h _ _ (drawn_at h n)
theorem Drawn.table {l : List Node} (h : Drawn l) (n : Int) {r : List Rule} (hr : r.length ≤ 7) : Drawn (setTable l n r).1 := by
  unfold setTable
  split
  · exact h
  · split
    · exact h
    · exact drawn_put h _ _ ⟨(drawn_at h n).1, by show r.length ≤ 8; omega⟩
theorem Drawn.take {l : List Node} (h : Drawn l) (n kid : Int) : Drawn (removeKid l n kid).1 := by
  unfold removeKid
  split
  · exact h
  · split
    · exact h
    · exact drawn_put (drawn_put h _ { nodeAt l n with kids := (nodeAt l n).kids.filter fun k => decide (k ≠ kid) } ⟨Nat.le_trans (List.length_filter_le _ _) (drawn_at h n).1, (drawn_at h n).2⟩) _ { nodeAt l kid with up := 0 } (drawn_at h kid)
theorem setStyle_same {l : List Node} {n : Int} {s : Style} (h : (setStyle l n s).2 ≠ 0) : (setStyle l n s).1 = l := by
  unfold setStyle at h ⊢
  split
  · rfl
  · rename_i h1
    rw [if_neg h1] at h
    split
    · rfl
    · rename_i h2
      rw [if_neg h2] at h
      exact absurd rfl h
theorem setTable_same {l : List Node} {n : Int} {r : List Rule} (h : (setTable l n r).2 ≠ 0) : (setTable l n r).1 = l := by
  unfold setTable at h ⊢
  split
  · rfl
  · rename_i h1
    rw [if_neg h1] at h
    split
    · rfl
    · rename_i h2
      rw [if_neg h2] at h
      exact absurd rfl h
theorem setStyle_done {l : List Node} {n : Int} {s : Style} (h : (setStyle l n s).2 = 0) : treeOk (setStyle l n s).1 = true ∧ ∃ (k : Nat) (x : Node), n = ((k + 1 : Nat) : Int) ∧ k < (setStyle l n s).1.length ∧ (setStyle l n s).1[k]? = some x ∧ x.style = s := by
  unfold setStyle at h ⊢
  split
  · rename_i h1; rw [if_pos h1] at h; exact absurd h (by simp)
  · rename_i h1
    rw [if_neg h1] at h
    split
    · rename_i h2; rw [if_pos h2] at h; exact absurd h (by simp)
    · rename_i h2
      simp only [Bool.or_eq_true, Bool.not_eq_true', not_or, Bool.not_eq_false] at h1 h2
      obtain ⟨hv, hn⟩ := h1
      refine ⟨putStyle_ok hv hn h2, ?_⟩
      obtain ⟨k, x, rfl, hk, hx, hnx⟩ := node_get hn
      refine ⟨k, { x with style := s }, rfl, by simp [putStyle, hk], ?_, rfl⟩
      unfold putStyle
      rw [hnx, show (((k + 1 : Nat) : Int) - 1).toNat = k by omega, List.getElem?_set_self hk]
theorem addNode_code {l : List Node} {s : Style} : (addNode l s).2 = 0 ∨ (addNode l s).2 = (addNode l s).1.length := by
  unfold addNode
  split
  · exact .inr (by simp)
  · exact .inl rfl
end Go.Proofs.Ythffgbhphjkdeaa
namespace Go.Proofs.Ythffgbhphjkdeaa
open Go.RowKit

end Go.Proofs.Ythffgbhphjkdeaa
namespace Go.Proofs.Ythffgbhphjkdeaa
open Go.RowKit

theorem NodeSlice.wide {o : Bool} {R S : Nat → Prop} {w : World} {a : Option Addr} {l : List Node} (h : NodeSlice o R w a l) (hs : ∀ k, k < w.heap.size → R k → S k) : NodeSlice o S w a l := SliceAt.wideBy h hs fun _ _ hx => hx.wide hs
/-- A tree, read from its cells; o: it may be written. -/
def TreeIn (o : Bool) (R : Nat → Prop) (w : World) (cs : List Value) (l : List Node) : Prop :=
  ∃ a c, cs = [.slice a l.length c] ∧ NodeSlice o R w a l ∧ (o = true → Wr 86 64 R w a l.length)
theorem TreeIn.mod {o : Bool} {R S : Nat → Prop} {w w' : World} {cs : List Value} {x : List Node} (h : TreeIn o R w cs x) (hm : Mod S w w') (hs : ∀ k, R k → ¬ S k) : TreeIn o R w' cs x := by
  obtain ⟨a, c, h1, h2, h3⟩ := h
  exact ⟨a, c, h1, NodeSlice.mod h2 hm hs, fun ho => (h3 ho).mod hm hs⟩
theorem TreeIn.keep {o : Bool} {R : Nat → Prop} {w w' : World} {cs : List Value} {x : List Node} (h : TreeIn o R w cs x) (hm : Mod (fun _ => False) w w') : TreeIn o R w' cs x := h.mod hm fun _ _ f => f
theorem TreeIn.wide {o : Bool} {R S : Nat → Prop} {w : World} {cs : List Value} {x : List Node} (h : TreeIn o R w cs x) (hs : ∀ k, k < w.heap.size → R k → S k) : TreeIn o S w cs x := by
  obtain ⟨a, c, h1, h2, h3⟩ := h
  exact ⟨a, c, h1, NodeSlice.wide h2 hs, fun ho => (h3 ho).weaken hs⟩
/-- Lengths that a walk can bear. -/
def treeFits (n : Nat) (l : List Node) : Prop := l.length ≤ n ∧ ∀ x ∈ l, x.fits n
end Go.Proofs.Ythffgbhphjkdeaa
namespace Go.Proofs.Ythffgbhphjkdeaa
open Go.RowKit

theorem Rule.same (x y : Rule) : sameVs x.cells y.cells = decide (x = y) := by
  rw [Bool.eq_iff_iff, sameVs_iff (show x.cells.map kindV = y.cells.map kindV from rfl) (by intro v hv; simp only [Rule.cells, List.mem_cons, List.not_mem_nil, or_false] at hv; rcases hv with rfl|rfl|rfl <;> first | (show 0 < 3; decide) | (show 1 < 3; decide)), decide_eq_true_iff]
  constructor
  · intro h
    simp only [Rule.cells, List.cons.injEq, Value.int.injEq, Value.bool.injEq, true_and, and_true] at h
    cases x
    cases y
    simp_all
  · rintro rfl; rfl
def intAt (l : List Value) (i : Nat) : Int := match l[i]? with
  | some (.int _ n) => n
  | _ => 0
def boolAt (l : List Value) (i : Nat) : Bool := match l[i]? with
  | some (.bool b) => b
  | _ => false
def Style.of (l : List Value) : Style := ⟨intAt l 0, intAt l 1, intAt l 2, intAt l 3, intAt l 4, intAt l 5, boolAt l 6, boolAt l 7, intAt l 8, intAt l 9, intAt l 10, ⟨intAt l 11, intAt l 12⟩, ⟨intAt l 13, intAt l 14⟩, ⟨intAt l 15, intAt l 16⟩, ⟨intAt l 17, intAt l 18⟩, ⟨intAt l 19, intAt l 20⟩, ⟨intAt l 21, intAt l 22⟩, ⟨intAt l 23, intAt l 24⟩, intAt l 25, ⟨⟨intAt l 26, intAt l 27⟩, ⟨intAt l 28, intAt l 29⟩, ⟨intAt l 30, intAt l 31⟩, ⟨intAt l 32, intAt l 33⟩, ⟨intAt l 34, intAt l 35⟩, ⟨intAt l 36, intAt l 37⟩⟩, ⟨⟨intAt l 38, intAt l 39⟩, ⟨intAt l 40, intAt l 41⟩, ⟨intAt l 42, intAt l 43⟩, ⟨intAt l 44, intAt l 45⟩, ⟨intAt l 46, intAt l 47⟩, ⟨intAt l 48, intAt l 49⟩⟩, ⟨intAt l 50, intAt l 51, intAt l 52, intAt l 53⟩, ⟨intAt l 54, intAt l 55, intAt l 56, intAt l 57⟩, intAt l 58, intAt l 59⟩
set_option maxRecDepth 100000 in
theorem Style.of_cells (x : Style) : Style.of x.cells = x := rfl
set_option maxRecDepth 100000 in
theorem Style.kinds (x y : Style) : x.cells.map kindV = y.cells.map kindV := rfl
set_option maxRecDepth 100000 in
theorem Style.kinds_lt (x : Style) : (x.cells.map kindV).all (fun k => decide (k < 3)) = true := rfl
theorem Style.same (x y : Style) : sameVs x.cells y.cells = decide (x = y) := by
  rw [Bool.eq_iff_iff, sameVs_iff (Style.kinds x y) (fun v hv => of_decide_eq_true (List.all_eq_true.1 (Style.kinds_lt x) _ (List.mem_map_of_mem hv))), decide_eq_true_iff]
  exact ⟨fun h => by rw [← Style.of_cells x, h, Style.of_cells], fun h => by rw [h]⟩

theorem Node.eq_iff (x y : Node) : x = y ↔ x.up = y.up ∧ x.kids = y.kids ∧ x.style = y.style ∧ x.measured = y.measured ∧ x.rules = y.rules := by
  cases x; cases y; simp
theorem beq_of {a b : Bool} (h : a = b) : (a == b) = true := by rw [h]; exact BEq.rfl
theorem beq_of_not {a b : Bool} (h : ¬ a = b) : (a == b) = false := by cases a <;> cases b <;> simp_all
end Go.Proofs.Ythffgbhphjkdeaa
namespace Go.Proofs.Ythffgbhphjkdeaa
open Go.RowKit

set_option maxRecDepth 100000 in
theorem lsameInts_any (x y : List Int) (a b : Option Addr) (c c' : Nat) (R S : Nat → Prop) (w : World) (hx : x.length ≤ 1048576) (hy : y.length ≤ 1048576) (h : IntSlice R w a x) (h' : IntSlice S w b y) :
    Calls Try.prog 41 #[.slice a x.length c, .slice b y.length c'] w fun e w' => e = .returned (.bool (decide (x = y))) ∧ Mod (fun _ => False) w w' := by
  refine calls_sx Try.func41 rfl rfl (fun a h1 h2 h3 => ((Fr.nil h1 h2).arg (h3 1 _ rfl)).arg (h3 0 _ rfl)) ?_
  repeat (first | refine qan ?_ | refine qaj ?_ | refine qaf ?_ | refine qad ?_ | (refine qap ?_; (refine qac (qak rfl) rfl ?_ ?_ ?_); rfl; rfl) | (refine qam ?_; (refine qac (qah rfl) rfl ?_ ?_ ?_); rfl; rfl) | (refine l_len ?_; (refine qac (OpW.len rfl) rfl ?_ ?_ ?_); rfl; rfl) | (refine l_neq ?_; (refine qac (OpW.neq rfl rfl) rfl ?_ ?_ ?_); rfl; rfl))
  refine SX.cond rfl (fun hc => ?_) (fun hc => ?_)
  · (try simp only [Bool.not_eq_true', Bool.not_eq_false', decide_eq_true_eq, decide_eq_false_iff_not, Bool.and_eq_true, Bool.or_eq_true, Bool.or_eq_false_iff, Bool.and_eq_false_iff, Int.ofNat_inj, Int.ofNat_lt, Int.ofNat_le] at hc)
    repeat (first | refine qan ?_ | refine qaj ?_ | refine qaf ?_ | refine qad ?_ | (refine qam ?_; (refine qac (qah rfl) rfl ?_ ?_ ?_); rfl; rfl) | refine qaz ?_ | refine qax ?_)
    refine qaA rfl rfl (fun w' hl => ⟨ret_bool (by symm; simp; rintro rfl; exact hc rfl), hl.mod⟩)
  · (try simp only [Bool.not_eq_true', Bool.not_eq_false', decide_eq_true_eq, decide_eq_false_iff_not, Bool.and_eq_true, Bool.or_eq_true, Bool.or_eq_false_iff, Bool.and_eq_false_iff, Int.ofNat_inj, Int.ofNat_lt, Int.ofNat_le] at hc)
    repeat (first | refine qan ?_ | refine qaj ?_ | refine qaf ?_ | refine qad ?_ | refine SX.block ?_ | refine qaC ?_ | (refine qam ?_; (refine qac (qah rfl) rfl ?_ ?_ ?_); rfl; rfl))
    refine SX.loopi (fun k : Nat => k ≤ x.length ∧ SameTo x y k) (fun k => x.length - k) (fun _ => []) (fun _ => []) (fun _ => []) (fun k => [(0, .slice a x.length c), (1, .slice b y.length c'), (5, .int .i64 k)]) 0 ⟨Nat.zero_le _, rfl⟩ ?_ (fun _ hl => hl) ?_
    · (repeat (first | exact subF_nil _ | (refine subF_cons rfl ?_) | (refine subF_consv rfl (by rfl) ?_)))
    · rintro k ⟨hk, hs⟩
      by_cases hlt : k < x.length
      · obtain ⟨b1, o1, u, rfl, _, _, hxk, hc1⟩ := IntSlice.get h hlt
        obtain ⟨b2, o2, v, rfl, _, _, hyk, hc2⟩ := IntSlice.get h' (hc ▸ hlt)
        repeat (first | refine qan ?_ | refine qaj ?_ | refine qaf ?_ | refine qad ?_ | refine SX.block ?_ | refine qaC ?_ | refine qaq rfl ?_ | (refine qap ?_; (refine qac (qak rfl) rfl ?_ ?_ ?_); rfl; rfl) | (refine l_len ?_; (refine qac (OpW.len rfl) rfl ?_ ?_ ?_); rfl; rfl) | (refine l_lss ?_; (refine qac (OpW.lssT rfl rfl (by omega)) rfl ?_ ?_ ?_); rfl; rfl) | refine SX.drawn (by kernel_rfl) (by kernel_rfl) ?_ | refine SXr.nil ?_ | (refine r_load ?_; (refine SXr.v (OpW.loadOld rfl (by assumption) (fun h => h)) rfl ?_ ?_ ?_); rfl; rfl) | (refine r_move ?_; (refine SXr.v (qak rfl) rfl ?_ ?_ ?_); rfl; rfl) | (refine r_neq ?_; (refine SXr.v (OpW.neq rfl rfl) rfl ?_ ?_ ?_); rfl; rfl) | (refine r_indexAddr ?_; (refine SXr.v (OpW.indexAddr1 (by omega) rfl rfl) rfl ?_ ?_ ?_); rfl; rfl))
        refine SX.cond rfl (fun hq => ?_) (fun hq => ?_)
        · (try simp only [Bool.not_eq_true', Bool.not_eq_false', decide_eq_true_eq, decide_eq_false_iff_not, Bool.and_eq_true, Bool.or_eq_true, Bool.or_eq_false_iff, Bool.and_eq_false_iff, Int.ofNat_inj, Int.ofNat_lt, Int.ofNat_le] at hq)
          repeat (first | refine qan ?_ | refine qaj ?_ | refine qaf ?_ | refine qad ?_ | (refine qam ?_; (refine qac (qah rfl) rfl ?_ ?_ ?_); rfl; rfl) | refine qaz ?_ | refine qax ?_ | refine qaD ?_)
          refine qaA rfl rfl (fun w' hl => ⟨ret_bool (by symm; simp; exact ne_at hxk hyk hq), hl.mod⟩)
        · (try simp only [Bool.not_eq_true', Bool.not_eq_false', decide_eq_true_eq, decide_eq_false_iff_not, Bool.and_eq_true, Bool.or_eq_true, Bool.or_eq_false_iff, Bool.and_eq_false_iff, Int.ofNat_inj, Int.ofNat_lt, Int.ofNat_le] at hq)
          repeat (first | refine qaj ?_ | refine qaf ?_ | refine qad ?_ | refine qaC ?_ | (refine qap ?_; (refine qac (qak rfl) rfl ?_ ?_ ?_); rfl; rfl) | (refine qam ?_; (refine qac (qah rfl) rfl ?_ ?_ ?_); rfl; rfl) | (refine l_add ?_; (refine qac (OpW.succ rfl rfl (by omega)) rfl ?_ ?_ ?_); rfl; rfl) | refine qar ?_)
          refine SQ.roundi (k + 1) ⟨by omega, hs.succ hxk (hq ▸ hyk)⟩ (by omega) ?_ (fun _ hl => hl)
          (repeat (first | exact subF_nil _ | (refine subF_cons rfl ?_) | (refine subF_consv rfl (by rfl) ?_)))
      · repeat (first | refine qan ?_ | refine qaj ?_ | refine qaf ?_ | refine qad ?_ | refine qat rfl ?_ | (refine qap ?_; (refine qac (qak rfl) rfl ?_ ?_ ?_); rfl; rfl) | (refine qam ?_; (refine qac (qah rfl) rfl ?_ ?_ ?_); rfl; rfl) | (refine l_len ?_; (refine qac (OpW.len rfl) rfl ?_ ?_ ?_); rfl; rfl) | (refine l_lss ?_; (refine qac (OpW.lssF rfl rfl (by omega)) rfl ?_ ?_ ?_); rfl; rfl) | refine qaz ?_ | refine SX.exit ?_ | refine qaO ?_ | refine qaK ?_)
        refine qaA rfl rfl (fun w' hl => ⟨ret_bool (by symm; simp; exact hs.all (by omega) (by omega)), hl.mod⟩)

end Go.Proofs.Ythffgbhphjkdeaa
namespace Go.Proofs.Ythffgbhphjkdeaa
open Go.RowKit
set_option linter.unusedVariables false
set_option linter.unusedSimpArgs false

set_option maxRecDepth 100000 in
theorem lsameRules_any (l m : List Rule) (a b : Option Addr) (c c' : Nat) (R S : Nat → Prop) (w : World) (hl : l.length ≤ 1048576) (hm : m.length ≤ 1048576) (h : SliceAt (Flat Rule.cells) 3 R w a l) (h' : SliceAt (Flat Rule.cells) 3 S w b m) :
    Calls Try.prog 159 #[.slice a l.length c, .slice b m.length c'] w fun e w' => e = .returned (.bool (decide (l = m))) ∧ Mod (fun _ => False) w w' := by
  refine calls_sx Try.func159 rfl rfl (fun a h1 h2 h3 => ((Fr.nil h1 h2).arg (h3 1 _ rfl)).arg (h3 0 _ rfl)) ?_
  by_cases hlen : l.length = m.length
  · repeat (first | refine qan ?_ | refine qaj ?_ | refine qaf ?_ | refine qad ?_ | refine SX.block ?_ | refine qaC ?_ | refine qat rfl ?_ | (refine qap ?_; (refine qac (qak rfl) rfl ?_ ?_ ?_); rfl; rfl) | (refine qam ?_; (refine qac (qah rfl) rfl ?_ ?_ ?_); rfl; rfl) | (refine l_len ?_; (refine qac (OpW.len rfl) rfl ?_ ?_ ?_); rfl; rfl) | (refine l_neq ?_; (refine qac (OpW.neqF rfl rfl (by omega)) rfl ?_ ?_ ?_); rfl; rfl))
    refine SX.loopi (fun k : Nat => k ≤ l.length ∧ SameTo l m k) (fun k => l.length - k) (fun _ => []) (fun _ => []) (fun _ => []) (fun k => [(0, .slice a l.length c), (1, .slice b m.length c'), (5, .int .i64 k)]) 0 ⟨Nat.zero_le _, rfl⟩ ?_ (fun _ hl => hl) ?_
    · (repeat (first | exact subF_nil _ | (refine subF_cons rfl ?_) | (refine subF_consv rfl (by rfl) ?_)))
    · rintro k ⟨hk, hs⟩
      by_cases hlt : k < l.length
      · obtain ⟨b1, o1, x, r1, rfl, _, _, hxk, hr1, hl1, hc1⟩ := h.get hlt
        obtain rfl : r1 = x.cells := hr1
        have hlt2 : k < m.length := by omega
        obtain ⟨b2, o2, y, r2, rfl, _, _, hyk, hr2, hl2, hc2⟩ := h'.get hlt2
        obtain rfl : r2 = y.cells := hr2
        by_cases hq : x = y
        · repeat (first | refine qan ?_ | refine qaj ?_ | refine qaf ?_ | refine qad ?_ | refine SX.block ?_ | refine qaC ?_ | refine qaq rfl ?_ | refine qat rfl ?_ | (refine qap ?_; (refine qac (qak rfl) rfl ?_ ?_ ?_); rfl; rfl) | (refine qam ?_; (refine qac (qah rfl) rfl ?_ ?_ ?_); rfl; rfl) | (refine l_len ?_; (refine qac (OpW.len rfl) rfl ?_ ?_ ?_); rfl; rfl) | (refine l_add ?_; (refine qac (OpW.succ rfl rfl (by omega)) rfl ?_ ?_ ?_); rfl; rfl) | (refine l_lss ?_; (refine qac (OpW.lssT rfl rfl (by omega)) rfl ?_ ?_ ?_); rfl; rfl) | refine SX.drawn (by kernel_rfl) (by kernel_rfl) ?_ | refine SXr.nil ?_ | (refine r_load ?_; (first | refine SXr.v (qaT rfl hc1 rfl (Nat.succ_pos _) (fun h => h)) rfl ?_ ?_ ?_ | refine SXr.v (qaT rfl hc2 rfl (Nat.succ_pos _) (fun h => h)) rfl ?_ ?_ ?_); rfl; rfl) | (refine r_move ?_; (refine SXr.v (qak rfl) rfl ?_ ?_ ?_); rfl; rfl) | (refine r_neq ?_; (refine SXr.v (OpW.neqS rfl rfl rfl rfl) rfl ?_ ?_ ?_); rfl; rfl) | (refine r_indexAddr ?_; (refine SXr.v (qaF (by omega) rfl rfl) rfl ?_ ?_ ?_); rfl; rfl) | (rw [Rule.same, decide_eq_true hq]) | refine qar ?_)
          refine SQ.roundi (k + 1) ⟨by omega, hs.succ hxk (hq ▸ hyk)⟩ (by omega) ?_ (fun _ hl => hl)
          (repeat (first | exact subF_nil _ | (refine subF_cons rfl ?_) | (refine subF_consv rfl (by rfl) ?_)))
        · repeat (first | refine qan ?_ | refine qaj ?_ | refine qaf ?_ | refine qad ?_ | refine SX.block ?_ | refine qaC ?_ | refine qaq rfl ?_ | (refine qap ?_; (refine qac (qak rfl) rfl ?_ ?_ ?_); rfl; rfl) | (refine qam ?_; (refine qac (qah rfl) rfl ?_ ?_ ?_); rfl; rfl) | (refine l_len ?_; (refine qac (OpW.len rfl) rfl ?_ ?_ ?_); rfl; rfl) | (refine l_lss ?_; (refine qac (OpW.lssT rfl rfl (by omega)) rfl ?_ ?_ ?_); rfl; rfl) | refine SX.drawn (by kernel_rfl) (by kernel_rfl) ?_ | refine SXr.nil ?_ | (refine r_load ?_; (first | refine SXr.v (qaT rfl hc1 rfl (Nat.succ_pos _) (fun h => h)) rfl ?_ ?_ ?_ | refine SXr.v (qaT rfl hc2 rfl (Nat.succ_pos _) (fun h => h)) rfl ?_ ?_ ?_); rfl; rfl) | (refine r_move ?_; (refine SXr.v (qak rfl) rfl ?_ ?_ ?_); rfl; rfl) | (refine r_neq ?_; (refine SXr.v (OpW.neqS rfl rfl rfl rfl) rfl ?_ ?_ ?_); rfl; rfl) | (refine r_indexAddr ?_; (refine SXr.v (qaF (by omega) rfl rfl) rfl ?_ ?_ ?_); rfl; rfl) | (rw [Rule.same, decide_eq_false hq]) | refine qaz ?_ | refine qax ?_ | refine qaD ?_)
          refine qaA rfl rfl (fun w' hl => ⟨ret_bool (by symm; simp; exact ne_at hxk hyk hq), hl.mod⟩)
      · repeat (first | refine qan ?_ | refine qaj ?_ | refine qaf ?_ | refine qad ?_ | refine qat rfl ?_ | (refine qap ?_; (refine qac (qak rfl) rfl ?_ ?_ ?_); rfl; rfl) | (refine qam ?_; (refine qac (qah rfl) rfl ?_ ?_ ?_); rfl; rfl) | (refine l_len ?_; (refine qac (OpW.len rfl) rfl ?_ ?_ ?_); rfl; rfl) | (refine l_lss ?_; (refine qac (OpW.lssF rfl rfl (by omega)) rfl ?_ ?_ ?_); rfl; rfl) | refine qaz ?_ | refine SX.exit ?_ | refine qaO ?_ | refine qaK ?_)
        refine qaA rfl rfl (fun w' hl => ⟨ret_bool (by symm; simp; exact hs.all (by omega) (by omega)), hl.mod⟩)
  · repeat (first | refine qan ?_ | refine qaj ?_ | refine qaf ?_ | refine qad ?_ | refine qaq rfl ?_ | (refine qap ?_; (refine qac (qak rfl) rfl ?_ ?_ ?_); rfl; rfl) | (refine qam ?_; (refine qac (qah rfl) rfl ?_ ?_ ?_); rfl; rfl) | (refine l_len ?_; (refine qac (OpW.len rfl) rfl ?_ ?_ ?_); rfl; rfl) | (refine l_neq ?_; (refine qac (OpW.neqT rfl rfl (by omega)) rfl ?_ ?_ ?_); rfl; rfl) | refine qaz ?_ | refine qax ?_)
    refine qaA rfl rfl (fun w' hl => ⟨ret_bool (by symm; simp; rintro rfl; exact hlen rfl), hl.mod⟩)

set_option maxRecDepth 100000 in
theorem lsameTable_any (l m : List Rule) (a b : Option Addr) (c c' : Nat) (R S : Nat → Prop) (w : World) (hl : l.length ≤ 1048576) (hm : m.length ≤ 1048576) (h : SliceAt (Flat Rule.cells) 3 R w a l) (h' : SliceAt (Flat Rule.cells) 3 S w b m) :
    Calls Try.prog 140 #[.agg #[.slice a l.length c], .agg #[.slice b m.length c']] w fun e w' => e = .returned (.bool (decide (l = m))) ∧ Mod (fun _ => False) w w' := by
  have hC := fun w' (hm0 : Mod (fun _ => False) w w') => lsameRules_any l m a b c c' R S w' hl hm (h.flatKeep hm0) (h'.flatKeep hm0)
  refine calls_sx Try.func140 rfl rfl (fun a h1 h2 h3 => ((Fr.nil h1 h2).arg (h3 1 _ rfl)).arg (h3 0 _ rfl)) ?_
  repeat (first | refine qan ?_ | refine qaj ?_ | refine qaf ?_ | refine qad ?_ | (refine qau ?_; (refine qac (qao rfl (fun w hl => hC _ hl.mod)) rfl ?_ ?_ ?_); rfl; rfl) | (refine qaw ?_; (first | refine qac (qav 0 rfl rfl rfl) rfl ?_ ?_ ?_ | refine qac (qav 1 rfl rfl rfl) rfl ?_ ?_ ?_); rfl; rfl) | (refine qai ?_; (refine qac (qae rfl) rfl ?_ ?_ ?_); rfl; rfl) | (refine qam ?_; (refine qac (qah rfl) rfl ?_ ?_ ?_); rfl; rfl) | (refine l_box ?_; refine qaM ?_ ?_ rfl rfl (fun g => ?_); rfl; rfl) | refine qaz ?_)
  refine qaA rfl rfl (fun w' hl => ⟨rfl, hl.mod⟩)

set_option maxRecDepth 100000 in
set_option maxHeartbeats 4000000 in
theorem lsameNode_any (x y : Node) (ka ra ka' ra' : Option Addr) (kc rc kc' rc' : Nat) (R S R' S' : Nat → Prop) (w : World) (hfx : x.fits 1048576) (hfy : y.fits 1048576)
    (hk1 : IntSlice R w ka x.kids) (ht1 : SliceAt (Flat Rule.cells) 3 R' w ra x.rules) (hk2 : IntSlice S w ka' y.kids) (ht2 : SliceAt (Flat Rule.cells) 3 S' w ra' y.rules) :
    Calls Try.prog 115 #[.agg (nodeRow x.up ka x.kids.length kc x.style x.measured ra x.rules.length rc).toArray, .agg (nodeRow y.up ka' y.kids.length kc' y.style y.measured ra' y.rules.length rc').toArray] w fun e w' => e = .returned (.bool (decide (x = y))) ∧ Mod (fun _ => False) w w' := by
  unfold Node.fits at hfx hfy
  have hC := fun w' (hm0 : Mod (fun _ => False) w w') => lsameInts_any x.kids y.kids ka ka' kc kc' R S w' hfx.1 hfy.1 (hk1.flatKeep hm0) (hk2.flatKeep hm0)
  have hD := fun w' (hm0 : Mod (fun _ => False) w w') => lsameTable_any x.rules y.rules ra ra' rc rc' R' S' w' hfx.2 hfy.2 (ht1.flatKeep hm0) (ht2.flatKeep hm0)
  refine calls_sx Try.func115 rfl rfl (fun a h1 h2 h3 => ((Fr.nil h1 h2).arg (h3 1 _ rfl)).arg (h3 0 _ rfl)) ?_
  by_cases e1 : x.up = y.up
  rotate_left
  · repeat (first | refine qan ?_ | refine qaj ?_ | refine qaf ?_ | refine qad ?_ | (refine qaS rfl rfl rfl ?_) | (refine qaw ?_; (first | refine qac (qav 0 rfl rfl rfl) rfl ?_ ?_ ?_ | refine qac (qav 1 rfl rfl rfl) rfl ?_ ?_ ?_); rfl; rfl) | (refine qai ?_; (refine qac (qae rfl) rfl ?_ ?_ ?_); rfl; rfl) | (refine qap ?_; (refine qac (qak rfl) rfl ?_ ?_ ?_); rfl; rfl) | (refine qam ?_; (refine qac (qah rfl) rfl ?_ ?_ ?_); rfl; rfl) | (refine l_eql ?_; (refine qac (qaP rfl rfl (by omega)) rfl ?_ ?_ ?_); rfl; rfl) | (refine qaG ?_; (refine qac (qay rfl rfl rfl) rfl ?_ ?_ ?_); rfl; rfl) | (refine l_box ?_; refine qaM ?_ ?_ rfl rfl (fun g => ?_); rfl; rfl) | refine qaz ?_)
    refine qaA rfl rfl (fun w' hl => ⟨ret_bool (decide_eq_false (fun e => e1 (by rw [e]))).symm, hl.mod⟩)
  by_cases e2 : x.kids = y.kids
  rotate_left
  · repeat (first | refine qan ?_ | refine qaj ?_ | refine qaf ?_ | refine qad ?_ | (refine qaS rfl rfl rfl ?_) | (refine qaw ?_; (first | refine qac (qav 0 rfl rfl rfl) rfl ?_ ?_ ?_ | refine qac (qav 1 rfl rfl rfl) rfl ?_ ?_ ?_); rfl; rfl) | (refine qau ?_; (refine qac (qao rfl (fun w hl => hC _ hl.mod)) rfl ?_ ?_ ?_); rfl; rfl) | (refine qai ?_; (refine qac (qae rfl) rfl ?_ ?_ ?_); rfl; rfl) | (refine qap ?_; (refine qac (qak rfl) rfl ?_ ?_ ?_); rfl; rfl) | (refine qam ?_; (refine qac (qah rfl) rfl ?_ ?_ ?_); rfl; rfl) | (refine l_eql ?_; (refine qac (qaQ rfl rfl (by omega)) rfl ?_ ?_ ?_); rfl; rfl) | (refine qaG ?_; (refine qac (qay rfl rfl rfl) rfl ?_ ?_ ?_); rfl; rfl) | (refine l_box ?_; refine qaM ?_ ?_ rfl rfl (fun g => ?_); rfl; rfl) | (rw [decide_eq_false e2]) | refine qaz ?_)
    refine qaA rfl rfl (fun w' hl => ⟨ret_bool (decide_eq_false (fun e => e2 (by rw [e]))).symm, hl.mod⟩)
  by_cases e3 : x.style = y.style
  rotate_left
  · repeat (first | refine qan ?_ | refine qaj ?_ | refine qaf ?_ | refine qad ?_ | (refine qaS rfl rfl rfl ?_) | (refine qaw ?_; (first | refine qac (qaE 1 (r := x.style.cells) rfl rfl rfl (nodeRow_style _ _ _ _ _ _ _ _ _)) rfl ?_ ?_ ?_ | refine qac (qaE 0 (r := y.style.cells) rfl rfl rfl (nodeRow_style _ _ _ _ _ _ _ _ _)) rfl ?_ ?_ ?_ | refine qac (qav 0 rfl rfl rfl) rfl ?_ ?_ ?_ | refine qac (qav 1 rfl rfl rfl) rfl ?_ ?_ ?_); rfl; rfl) | (refine qau ?_; (refine qac (qao rfl (fun w hl => hC _ hl.mod)) rfl ?_ ?_ ?_); rfl; rfl) | (refine qai ?_; (refine qac (qae rfl) rfl ?_ ?_ ?_); rfl; rfl) | (refine qap ?_; (refine qac (qak rfl) rfl ?_ ?_ ?_); rfl; rfl) | (refine qam ?_; (refine qac (qah rfl) rfl ?_ ?_ ?_); rfl; rfl) | (refine l_eql ?_; (first | refine qac (qaQ rfl rfl (by omega)) rfl ?_ ?_ ?_ | refine qac (OpW.eqlS rfl rfl rfl rfl) rfl ?_ ?_ ?_); rfl; rfl) | (refine qaG ?_; (refine qac (qay rfl rfl rfl) rfl ?_ ?_ ?_); rfl; rfl) | (refine l_box ?_; refine qaM ?_ ?_ rfl rfl (fun g => ?_); rfl; rfl) | (rw [decide_eq_true e2]) | (rw [Style.same, decide_eq_false e3]) | refine qaz ?_)
    refine qaA rfl rfl (fun w' hl => ⟨ret_bool (decide_eq_false (fun e => e3 (by rw [e]))).symm, hl.mod⟩)
  by_cases e4 : x.measured = y.measured
  rotate_left
  · repeat (first | refine qan ?_ | refine qaj ?_ | refine qaf ?_ | refine qad ?_ | (refine qaS rfl rfl rfl ?_) | (refine qaw ?_; (first | refine qac (qaE 1 (r := x.style.cells) rfl rfl rfl (nodeRow_style _ _ _ _ _ _ _ _ _)) rfl ?_ ?_ ?_ | refine qac (qaE 0 (r := y.style.cells) rfl rfl rfl (nodeRow_style _ _ _ _ _ _ _ _ _)) rfl ?_ ?_ ?_ | refine qac (qav 0 rfl rfl rfl) rfl ?_ ?_ ?_ | refine qac (qav 1 rfl rfl rfl) rfl ?_ ?_ ?_); rfl; rfl) | (refine qau ?_; (refine qac (qao rfl (fun w hl => hC _ hl.mod)) rfl ?_ ?_ ?_); rfl; rfl) | (refine qai ?_; (refine qac (qae rfl) rfl ?_ ?_ ?_); rfl; rfl) | (refine qap ?_; (refine qac (qak rfl) rfl ?_ ?_ ?_); rfl; rfl) | (refine qam ?_; (refine qac (qah rfl) rfl ?_ ?_ ?_); rfl; rfl) | (refine l_eql ?_; (first | refine qac (qaQ rfl rfl (by omega)) rfl ?_ ?_ ?_ | refine qac (OpW.eqlb rfl rfl) rfl ?_ ?_ ?_ | refine qac (OpW.eqlS rfl rfl rfl rfl) rfl ?_ ?_ ?_); rfl; rfl) | (refine qaG ?_; (refine qac (qay rfl rfl rfl) rfl ?_ ?_ ?_); rfl; rfl) | (refine l_box ?_; refine qaM ?_ ?_ rfl rfl (fun g => ?_); rfl; rfl) | (rw [decide_eq_true e2]) | (rw [Style.same, decide_eq_true e3]) | (rw [beq_of_not e4]) | refine qaz ?_)
    refine qaA rfl rfl (fun w' hl => ⟨ret_bool (decide_eq_false (fun e => e4 (by rw [e]))).symm, hl.mod⟩)
  by_cases e5 : x.rules = y.rules
  rotate_left
  · repeat (first | refine qan ?_ | refine qaj ?_ | refine qaf ?_ | refine qad ?_ | (refine qaw ?_; (first | refine qac (qaE 1 (r := x.style.cells) rfl rfl rfl (nodeRow_style _ _ _ _ _ _ _ _ _)) rfl ?_ ?_ ?_ | refine qac (qaE 0 (r := y.style.cells) rfl rfl rfl (nodeRow_style _ _ _ _ _ _ _ _ _)) rfl ?_ ?_ ?_ | refine qac (qav 0 rfl rfl rfl) rfl ?_ ?_ ?_ | refine qac (qav 1 rfl rfl rfl) rfl ?_ ?_ ?_ | refine qac (qaE 0 rfl rfl rfl rfl) rfl ?_ ?_ ?_ | refine qac (qaE 1 rfl rfl rfl rfl) rfl ?_ ?_ ?_); rfl; rfl) | (refine qau ?_; (first | refine qac (qao rfl (fun w hl => hC _ hl.mod)) rfl ?_ ?_ ?_ | refine qac (qao rfl (fun w hl => hD _ hl.mod)) rfl ?_ ?_ ?_); rfl; rfl) | (refine qai ?_; (refine qac (qae rfl) rfl ?_ ?_ ?_); rfl; rfl) | (refine qap ?_; (refine qac (qak rfl) rfl ?_ ?_ ?_); rfl; rfl) | (refine qam ?_; (refine qac (qah rfl) rfl ?_ ?_ ?_); rfl; rfl) | (refine l_eql ?_; (first | refine qac (qaQ rfl rfl (by omega)) rfl ?_ ?_ ?_ | refine qac (OpW.eqlb rfl rfl) rfl ?_ ?_ ?_ | refine qac (OpW.eqlS rfl rfl rfl rfl) rfl ?_ ?_ ?_); rfl; rfl) | (refine qaG ?_; (refine qac (qay rfl rfl rfl) rfl ?_ ?_ ?_); rfl; rfl) | (refine l_box ?_; refine qaM ?_ ?_ rfl rfl (fun g => ?_); rfl; rfl) | (rw [decide_eq_true e2]) | (rw [Style.same, decide_eq_true e3]) | (rw [beq_of e4]) | (rw [decide_eq_false e5]) | refine qaz ?_)
    refine qaA rfl rfl (fun w' hl => ⟨ret_bool (decide_eq_false (fun e => e5 (by rw [e]))).symm, hl.mod⟩)
  repeat (first | refine qan ?_ | refine qaj ?_ | refine qaf ?_ | refine qad ?_ | (refine qaw ?_; (first | refine qac (qaE 1 (r := x.style.cells) rfl rfl rfl (nodeRow_style _ _ _ _ _ _ _ _ _)) rfl ?_ ?_ ?_ | refine qac (qaE 0 (r := y.style.cells) rfl rfl rfl (nodeRow_style _ _ _ _ _ _ _ _ _)) rfl ?_ ?_ ?_ | refine qac (qav 0 rfl rfl rfl) rfl ?_ ?_ ?_ | refine qac (qav 1 rfl rfl rfl) rfl ?_ ?_ ?_ | refine qac (qaE 0 rfl rfl rfl rfl) rfl ?_ ?_ ?_ | refine qac (qaE 1 rfl rfl rfl rfl) rfl ?_ ?_ ?_); rfl; rfl) | (refine qau ?_; (first | refine qac (qao rfl (fun w hl => hC _ hl.mod)) rfl ?_ ?_ ?_ | refine qac (qao rfl (fun w hl => hD _ hl.mod)) rfl ?_ ?_ ?_); rfl; rfl) | (refine qai ?_; (refine qac (qae rfl) rfl ?_ ?_ ?_); rfl; rfl) | (refine qap ?_; (refine qac (qak rfl) rfl ?_ ?_ ?_); rfl; rfl) | (refine qam ?_; (refine qac (qah rfl) rfl ?_ ?_ ?_); rfl; rfl) | (refine l_eql ?_; (first | refine qac (qaQ rfl rfl (by omega)) rfl ?_ ?_ ?_ | refine qac (OpW.eqlb rfl rfl) rfl ?_ ?_ ?_ | refine qac (OpW.eqlS rfl rfl rfl rfl) rfl ?_ ?_ ?_); rfl; rfl) | (refine qaG ?_; (refine qac (qay rfl rfl rfl) rfl ?_ ?_ ?_); rfl; rfl) | (refine l_box ?_; refine qaM ?_ ?_ rfl rfl (fun g => ?_); rfl; rfl) | (rw [decide_eq_true e2]) | (rw [Style.same, decide_eq_true e3]) | (rw [beq_of e4]) | (rw [decide_eq_true e5]) | refine qaz ?_)
  refine qaA rfl rfl (fun w' hl => ⟨ret_bool (decide_eq_true ((Node.eq_iff x y).2 ⟨e1, e2, e3, e4, e5⟩)).symm, hl.mod⟩)

set_option maxRecDepth 100000 in
set_option maxHeartbeats 4000000 in
theorem lsameNodes_any (l m : List Node) (o o' : Bool) (a b : Option Addr) (c c' : Nat) (R S : Nat → Prop) (w : World) (hfl : treeFits 1048576 l) (hfm : treeFits 1048576 m) (h : NodeSlice o R w a l) (h' : NodeSlice o' S w b m) :
    Calls Try.prog 81 #[.slice a l.length c, .slice b m.length c'] w fun e w' => e = .returned (.bool (decide (l = m))) ∧ Mod (fun _ => False) w w' := by
  obtain ⟨hl, hfl⟩ := hfl
  obtain ⟨hm, hfm⟩ := hfm
  refine calls_sx Try.func81 rfl rfl (fun a h1 h2 h3 => ((Fr.nil h1 h2).arg (h3 1 _ rfl)).arg (h3 0 _ rfl)) ?_
  by_cases hlen : l.length = m.length
  · repeat (first | refine qan ?_ | refine qaj ?_ | refine qaf ?_ | refine qad ?_ | refine SX.block ?_ | refine qaC ?_ | refine qat rfl ?_ | (refine qap ?_; (refine qac (qak rfl) rfl ?_ ?_ ?_); rfl; rfl) | (refine qam ?_; (refine qac (qah rfl) rfl ?_ ?_ ?_); rfl; rfl) | (refine l_len ?_; (refine qac (OpW.len rfl) rfl ?_ ?_ ?_); rfl; rfl) | (refine l_neq ?_; (refine qac (OpW.neqF rfl rfl (by omega)) rfl ?_ ?_ ?_); rfl; rfl))
    refine SX.loopi (fun k : Nat => k ≤ l.length ∧ SameTo l m k) (fun k => l.length - k) (fun _ => []) (fun _ => []) (fun _ => []) (fun k => [(0, .slice a l.length c), (1, .slice b m.length c'), (5, .int .i64 k)]) 0 ⟨Nat.zero_le _, rfl⟩ ?_ (fun _ hl => hl) ?_
    · (repeat (first | exact subF_nil _ | (refine subF_cons rfl ?_) | (refine subF_consv rfl (by rfl) ?_)))
    · rintro k ⟨hk, hs⟩
      by_cases hlt : k < l.length
      · obtain ⟨b1, o1, x, r1, rfl, _, _, hxk, hr1, hl1, hc1⟩ := h.get hlt
        have hlt2 : k < m.length := by omega
        obtain ⟨b2, o2, y, r2, rfl, _, _, hyk, hr2, hl2, hc2⟩ := h'.get hlt2
        obtain ⟨ka, kc, ra, rc, rfl, hk1, ht1, _⟩ := hr1
        obtain ⟨ka', kc', ra', rc', rfl, hk2, ht2, _⟩ := hr2
        have hfx := hfl x (List.mem_of_getElem? hxk.out)
        have hfy := hfm y (List.mem_of_getElem? hyk.out)
        have hC := fun w' (hm0 : Mod (fun _ => False) w w') => lsameNode_any x y ka ra ka' ra' kc rc kc' rc' _ _ _ _ w' hfx hfy (hk1.flatKeep hm0) (ht1.flatKeep hm0) (hk2.flatKeep hm0) (ht2.flatKeep hm0)
        by_cases hq : x = y
        · repeat (first | refine qan ?_ | refine qaj ?_ | refine qaf ?_ | refine qad ?_ | refine SX.block ?_ | refine qaC ?_ | refine qaq rfl ?_ | refine qat rfl ?_ | (refine qap ?_; (refine qac (qak rfl) rfl ?_ ?_ ?_); rfl; rfl) | (refine qam ?_; (refine qac (qah rfl) rfl ?_ ?_ ?_); rfl; rfl) | (refine l_len ?_; (refine qac (OpW.len rfl) rfl ?_ ?_ ?_); rfl; rfl) | (refine l_add ?_; (refine qac (OpW.succ rfl rfl (by omega)) rfl ?_ ?_ ?_); rfl; rfl) | (refine l_lss ?_; (refine qac (OpW.lssT rfl rfl (by omega)) rfl ?_ ?_ ?_); rfl; rfl) | refine SX.drawn (by kernel_rfl) (by kernel_rfl) ?_ | refine SXr.nil ?_ | (refine r_load ?_; (first | refine SXr.v (qaT rfl hc1 (nodeRow_len _ _ _ _ _ _ _ _ _) (Nat.succ_pos _) (fun h => h)) rfl ?_ ?_ ?_ | refine SXr.v (qaT rfl hc2 (nodeRow_len _ _ _ _ _ _ _ _ _) (Nat.succ_pos _) (fun h => h)) rfl ?_ ?_ ?_); rfl; rfl) | (refine r_call ?_; (refine SXr.v (qao rfl (fun w hl => hC _ hl.mod)) rfl ?_ ?_ ?_); rfl; rfl) | (refine r_move ?_; (refine SXr.v (qak rfl) rfl ?_ ?_ ?_); rfl; rfl) | (refine r_not ?_; (refine SXr.v (OpW.not rfl) rfl ?_ ?_ ?_); rfl; rfl) | (refine r_indexAddr ?_; (refine SXr.v (qaF (by omega) rfl rfl) rfl ?_ ?_ ?_); rfl; rfl) | (rw [decide_eq_true hq]) | refine qar ?_)
          refine SQ.roundi (k + 1) ⟨by omega, hs.succ hxk (hq ▸ hyk)⟩ (by omega) ?_ (fun _ hl => hl)
          (repeat (first | exact subF_nil _ | (refine subF_cons rfl ?_) | (refine subF_consv rfl (by rfl) ?_)))
        · repeat (first | refine qan ?_ | refine qaj ?_ | refine qaf ?_ | refine qad ?_ | refine SX.block ?_ | refine qaC ?_ | refine qaq rfl ?_ | (refine qap ?_; (refine qac (qak rfl) rfl ?_ ?_ ?_); rfl; rfl) | (refine qam ?_; (refine qac (qah rfl) rfl ?_ ?_ ?_); rfl; rfl) | (refine l_len ?_; (refine qac (OpW.len rfl) rfl ?_ ?_ ?_); rfl; rfl) | (refine l_lss ?_; (refine qac (OpW.lssT rfl rfl (by omega)) rfl ?_ ?_ ?_); rfl; rfl) | refine SX.drawn (by kernel_rfl) (by kernel_rfl) ?_ | refine SXr.nil ?_ | (refine r_load ?_; (first | refine SXr.v (qaT rfl hc1 (nodeRow_len _ _ _ _ _ _ _ _ _) (Nat.succ_pos _) (fun h => h)) rfl ?_ ?_ ?_ | refine SXr.v (qaT rfl hc2 (nodeRow_len _ _ _ _ _ _ _ _ _) (Nat.succ_pos _) (fun h => h)) rfl ?_ ?_ ?_); rfl; rfl) | (refine r_call ?_; (refine SXr.v (qao rfl (fun w hl => hC _ hl.mod)) rfl ?_ ?_ ?_); rfl; rfl) | (refine r_move ?_; (refine SXr.v (qak rfl) rfl ?_ ?_ ?_); rfl; rfl) | (refine r_not ?_; (refine SXr.v (OpW.not rfl) rfl ?_ ?_ ?_); rfl; rfl) | (refine r_indexAddr ?_; (refine SXr.v (qaF (by omega) rfl rfl) rfl ?_ ?_ ?_); rfl; rfl) | (rw [decide_eq_false hq]) | refine qaz ?_ | refine qax ?_ | refine qaD ?_)
          refine qaA rfl rfl (fun w' hl => ⟨ret_bool (by symm; simp; exact ne_at hxk hyk hq), hl.mod⟩)
      · repeat (first | refine qan ?_ | refine qaj ?_ | refine qaf ?_ | refine qad ?_ | refine qat rfl ?_ | (refine qap ?_; (refine qac (qak rfl) rfl ?_ ?_ ?_); rfl; rfl) | (refine qam ?_; (refine qac (qah rfl) rfl ?_ ?_ ?_); rfl; rfl) | (refine l_len ?_; (refine qac (OpW.len rfl) rfl ?_ ?_ ?_); rfl; rfl) | (refine l_lss ?_; (refine qac (OpW.lssF rfl rfl (by omega)) rfl ?_ ?_ ?_); rfl; rfl) | refine qaz ?_ | refine SX.exit ?_ | refine qaO ?_ | refine qaK ?_)
        refine qaA rfl rfl (fun w' hl => ⟨ret_bool (by symm; simp; exact hs.all (by omega) (by omega)), hl.mod⟩)
  · repeat (first | refine qan ?_ | refine qaj ?_ | refine qaf ?_ | refine qad ?_ | refine qaq rfl ?_ | (refine qap ?_; (refine qac (qak rfl) rfl ?_ ?_ ?_); rfl; rfl) | (refine qam ?_; (refine qac (qah rfl) rfl ?_ ?_ ?_); rfl; rfl) | (refine l_len ?_; (refine qac (OpW.len rfl) rfl ?_ ?_ ?_); rfl; rfl) | (refine l_neq ?_; (refine qac (OpW.neqT rfl rfl (by omega)) rfl ?_ ?_ ?_); rfl; rfl) | refine qaz ?_ | refine qax ?_)
    refine qaA rfl rfl (fun w' hl => ⟨ret_bool (by symm; simp; rintro rfl; exact hlen rfl), hl.mod⟩)

set_option maxRecDepth 100000 in
theorem lsameTree_any (l m : List Node) (o o' : Bool) (a b : Option Addr) (c c' : Nat) (R S : Nat → Prop) (w : World) (hfl : treeFits 1048576 l) (hfm : treeFits 1048576 m) (h : NodeSlice o R w a l) (h' : NodeSlice o' S w b m) :
    Calls Try.prog 21 #[.agg #[.slice a l.length c], .agg #[.slice b m.length c']] w fun e w' => e = .returned (.bool (decide (l = m))) ∧ Mod (fun _ => False) w w' := by
  have hC := fun w' (hm0 : Mod (fun _ => False) w w') => lsameNodes_any l m o o' a b c c' R S w' hfl hfm (h.keep hm0) (h'.keep hm0)
  refine calls_sx Try.func21 rfl rfl (fun a h1 h2 h3 => ((Fr.nil h1 h2).arg (h3 1 _ rfl)).arg (h3 0 _ rfl)) ?_
  repeat (first | refine qan ?_ | refine qaj ?_ | refine qaf ?_ | refine qad ?_ | (refine qau ?_; (refine qac (qao rfl (fun w hl => hC _ hl.mod)) rfl ?_ ?_ ?_); rfl; rfl) | (refine qaw ?_; (first | refine qac (qav 0 rfl rfl rfl) rfl ?_ ?_ ?_ | refine qac (qav 1 rfl rfl rfl) rfl ?_ ?_ ?_); rfl; rfl) | (refine qai ?_; (refine qac (qae rfl) rfl ?_ ?_ ?_); rfl; rfl) | (refine qam ?_; (refine qac (qah rfl) rfl ?_ ?_ ?_); rfl; rfl) | (refine l_box ?_; refine qaM ?_ ?_ rfl rfl (fun g => ?_); rfl; rfl) | refine qaz ?_)
  refine qaA rfl rfl (fun w' hl => ⟨rfl, hl.mod⟩)
end Go.Proofs.Ythffgbhphjkdeaa
namespace Go.Proofs.Ythffgbhphjkdeaa
open Go.RowKit
set_option linter.unusedVariables false
set_option linter.unusedSimpArgs false

set_option maxRecDepth 100000 in
set_option maxHeartbeats 16000000 in
theorem treeOk_any (l : List Node) (o : Bool) (a : Option Addr) (c : Nat) (R : Nat → Prop) (w : World) (hlen : l.length ≤ 1048576) (hfit : ∀ x ∈ l, x.fits 1048576) (h : NodeSlice o R w a l) :
    Calls Try.prog 22 #[.agg #[.slice a l.length c]] w fun e w' => e = .returned (.bool (treeOk l)) ∧ Mod (fun _ => False) w w' := by
  refine calls_sx Try.func22 rfl rfl (fun a h1 h2 h3 => ((Fr.nil h1 h2).arg (h3 0 _ rfl))) ?_
  by_cases hn : l.length ≤ 12
  rotate_left
  · repeat (first | refine qan ?_ | refine qaj ?_ | refine qaf ?_ | refine qad ?_ | refine qaq rfl ?_ | (refine qaw ?_; (refine qac (qav 0 rfl rfl rfl) rfl ?_ ?_ ?_); rfl; rfl) | (refine qai ?_; (refine qac (qae rfl) rfl ?_ ?_ ?_); rfl; rfl) | (refine qam ?_; (refine qac (qah rfl) rfl ?_ ?_ ?_); rfl; rfl) | (refine l_len ?_; (refine qac (OpW.len rfl) rfl ?_ ?_ ?_); rfl; rfl) | (refine l_gtr ?_; (refine qac (OpW.gtrT rfl rfl (by omega)) rfl ?_ ?_ ?_); rfl; rfl) | (refine l_box ?_; refine qaM ?_ ?_ rfl rfl (fun g => ?_); rfl; rfl) | refine qaz ?_ | refine qax ?_)
    refine qaA rfl rfl (fun w' hl => ⟨by rw [treeOk_long hn], hl.mod⟩)
  repeat (first | refine qan ?_ | refine qaj ?_ | refine qaf ?_ | refine qad ?_ | refine SX.block ?_ | refine qaC ?_ | refine qat rfl ?_ | (refine qaw ?_; (refine qac (qav 0 rfl rfl rfl) rfl ?_ ?_ ?_); rfl; rfl) | (refine qai ?_; (refine qac (qae rfl) rfl ?_ ?_ ?_); rfl; rfl) | (refine qap ?_; (refine qac (qak rfl) rfl ?_ ?_ ?_); rfl; rfl) | (refine qam ?_; (refine qac (qah rfl) rfl ?_ ?_ ?_); rfl; rfl) | (refine l_len ?_; (refine qac (OpW.len rfl) rfl ?_ ?_ ?_); rfl; rfl) | (refine l_gtr ?_; (refine qac (OpW.gtrF rfl rfl (by omega)) rfl ?_ ?_ ?_); rfl; rfl) | (refine l_box ?_; refine qaM ?_ ?_ rfl rfl (fun g => ?_); rfl; rfl))
  revert g; intro gt
  refine SX.loopi (fun k : Nat => k ≤ l.length ∧ ∀ i x, i < k → l[i]? = some x → nodeOk l i x = true) (fun k => l.length - k) (fun _ => [⟨gt, [.slice a l.length c], 37⟩]) (fun _ => []) (fun _ => []) (fun k => [(1, .pointer (some ⟨gt, 0, none⟩)), (16, .slice a l.length c), (17, .int .i64 l.length), (18, .int .i64 k)]) 0 ⟨Nat.zero_le _, fun i x h => absurd h (Nat.not_lt_zero _)⟩ ?_ (fun _ hl => hl) ?_
  · (repeat (first | exact subF_nil _ | (refine subF_cons rfl ?_) | (refine subF_consv rfl (by rfl) ?_)))
  rintro k ⟨hk, hs⟩
  by_cases hlt : k < l.length
  rotate_left
  · repeat (first | refine qan ?_ | refine qaj ?_ | refine qaf ?_ | refine qad ?_ | refine qat rfl ?_ | (refine qam ?_; (refine qac (qah rfl) rfl ?_ ?_ ?_); rfl; rfl) | (refine l_lss ?_; (refine qac (OpW.lssF rfl rfl (by omega)) rfl ?_ ?_ ?_); rfl; rfl) | refine qaz ?_ | refine SX.exit ?_ | refine qaO ?_ | refine qaK ?_)
    refine qaA rfl rfl (fun w' hl => ⟨by rw [treeOk_all hn hs (by omega)], hl.mod⟩)
  obtain ⟨b1, o1, ⟨up, kids, st, me, ru⟩, r1, rfl, hR1, hb1, hxk, hr1, hl1, hc1⟩ := h.get hlt
  obtain ⟨ka, kc, ra, rc, rfl, hk1, ht1, _⟩ := hr1
  replace hxk := hxk.out
  have hfx := hfit _ (List.mem_of_getElem? hxk)
  have hf1 : kids.length ≤ 1048576 := hfx.1
  have hf2 : ru.length ≤ 1048576 := hfx.2
  clear hfx
  simp only at hc1 hk1 ht1
  cases q1 : styleOk st
  · have hv := nodeOk_s (l := l) (i := k) (x := ⟨up, kids, st, me, ru⟩) q1
    repeat (first | refine qan ?_ | refine qaj ?_ | refine qaf ?_ | refine qad ?_ | refine SX.block ?_ | refine qaC ?_ | refine qaq rfl ?_ | (refine qaS rfl rfl rfl ?_) | (refine qaw ?_; (first | refine qac (qaT rfl hc1 (nodeRow_len _ _ _ _ _ _ _ _ _) (Nat.succ_pos _) (fun h => h)) rfl ?_ ?_ ?_ | refine qac (qaE (cells := nodeRow up ka kids.length kc st me ra ru.length rc) 0 rfl rfl rfl (nodeRow_style _ _ _ _ _ _ _ _ _)) rfl ?_ ?_ ?_ | refine qac (qal 1 rfl rfl rfl) rfl ?_ ?_ ?_); rfl; rfl) | (refine qau ?_; (refine qac (qao rfl (fun w hl => styleC_any _ _)) rfl ?_ ?_ ?_); rfl; rfl) | (refine qai ?_; (refine qac (qae rfl) rfl ?_ ?_ ?_); rfl; rfl) | (refine qap ?_; (refine qac (qak rfl) rfl ?_ ?_ ?_); rfl; rfl) | (refine qam ?_; (refine qac (qah rfl) rfl ?_ ?_ ?_); rfl; rfl) | (refine l_add ?_; (refine qac (OpW.succ rfl rfl (by omega)) rfl ?_ ?_ ?_); rfl; rfl) | (refine l_lss ?_; (refine qac (OpW.lssT rfl rfl (by omega)) rfl ?_ ?_ ?_); rfl; rfl) | (refine l_not ?_; (refine qac (OpW.not rfl) rfl ?_ ?_ ?_); rfl; rfl) | (refine qaG ?_; (refine qac (qay rfl rfl rfl) rfl ?_ ?_ ?_); rfl; rfl) | (refine qaI ?_; (refine qac (qaF (by omega) rfl rfl) rfl ?_ ?_ ?_); rfl; rfl) | (refine qaH ?_; refine SXl.alloc ?_ ?_ (fun g => ?_); rfl; rfl) | (refine qas ?_; first | ((first | refine qaa 0 ?_ rfl rfl rfl rfl rfl rfl rfl ?_ | refine qaa 1 ?_ rfl rfl rfl rfl rfl rfl rfl ?_ | refine qaa 2 ?_ rfl rfl rfl rfl rfl rfl rfl ?_); rfl; simp only [List.set_cons_zero, List.set_cons_succ]) | ((first | refine qab 0 ?_ rfl rfl rfl rfl rfl rfl rfl ?_ | refine qab 1 ?_ rfl rfl rfl rfl rfl rfl rfl ?_ | refine qab 2 ?_ rfl rfl rfl rfl rfl rfl rfl ?_); rfl; simp only [over, List.set_cons_zero, List.set_cons_succ])) | (rw [q1]) | refine qaz ?_ | refine qax ?_ | refine qaD ?_)
    refine qaA rfl rfl (fun w' hl => ⟨by rw [treeOk_no hxk (hv)], hl.mod⟩)
  cases q2 : inB (depthF l (l.length + 1) ((k + 1 : Nat) : Int) (0 : Nat)) 1 4
  · have hv := nodeOk_d (x := ⟨up, kids, st, me, ru⟩) q2
    repeat (first | refine qan ?_ | refine qaj ?_ | refine qaf ?_ | refine qad ?_ | refine SX.block ?_ | refine qaC ?_ | refine qaq rfl ?_ | (refine qaw ?_; (first | refine qac (qaT rfl hc1 (nodeRow_len _ _ _ _ _ _ _ _ _) (Nat.succ_pos _) (fun h => h)) rfl ?_ ?_ ?_ | refine qac (qaE (cells := nodeRow up ka kids.length kc st me ra ru.length rc) 0 rfl rfl rfl (nodeRow_style _ _ _ _ _ _ _ _ _)) rfl ?_ ?_ ?_ | refine qac (qal 1 rfl rfl rfl) rfl ?_ ?_ ?_); rfl; rfl) | (refine qau ?_; (first | refine qac (qao rfl (fun w hl => styleC_any _ _)) rfl ?_ ?_ ?_ | refine qac (qao rfl (fun w hl => depthOf_any l _ o _ c R _ (by omega) (h.keep hl.mod))) rfl ?_ ?_ ?_ | refine qac (qaN rfl (fun w _ => in_any _ _ _ _)) rfl ?_ ?_ ?_); rfl; rfl) | (refine qai ?_; (refine qac (qae rfl) rfl ?_ ?_ ?_); rfl; rfl) | (refine qap ?_; (refine qac (qak rfl) rfl ?_ ?_ ?_); rfl; rfl) | (refine qam ?_; (refine qac (qah rfl) rfl ?_ ?_ ?_); rfl; rfl) | (refine l_add ?_; (refine qac (OpW.succ rfl rfl (by omega)) rfl ?_ ?_ ?_); rfl; rfl) | (refine l_lss ?_; (refine qac (OpW.lssT rfl rfl (by omega)) rfl ?_ ?_ ?_); rfl; rfl) | (refine l_not ?_; (refine qac (OpW.not rfl) rfl ?_ ?_ ?_); rfl; rfl) | (refine qaG ?_; (refine qac (qay rfl rfl rfl) rfl ?_ ?_ ?_); rfl; rfl) | (refine qaI ?_; (refine qac (qaF (by omega) rfl rfl) rfl ?_ ?_ ?_); rfl; rfl) | (refine qaH ?_; refine SXl.alloc ?_ ?_ (fun g => ?_); rfl; rfl) | (refine qas ?_; first | ((first | refine qaa 0 ?_ rfl rfl rfl rfl rfl rfl rfl ?_ | refine qaa 1 ?_ rfl rfl rfl rfl rfl rfl rfl ?_ | refine qaa 2 ?_ rfl rfl rfl rfl rfl rfl rfl ?_); rfl; simp only [List.set_cons_zero, List.set_cons_succ]) | ((first | refine qab 0 ?_ rfl rfl rfl rfl rfl rfl rfl ?_ | refine qab 1 ?_ rfl rfl rfl rfl rfl rfl rfl ?_ | refine qab 2 ?_ rfl rfl rfl rfl rfl rfl rfl ?_); rfl; simp only [over, List.set_cons_zero, List.set_cons_succ])) | ((first | rw [q1] | rw [q2])) | refine qaz ?_ | refine qax ?_ | refine qaD ?_)
    refine qaA rfl rfl (fun w' hl => ⟨by rw [treeOk_no hxk (hv)], hl.mod⟩)
  repeat (first | refine qan ?_ | refine qaj ?_ | refine qaf ?_ | refine qad ?_ | refine SX.block ?_ | refine qaC ?_ | refine qaq rfl ?_ | refine qat rfl ?_ | (refine qaw ?_; (first | refine qac (qaT rfl hc1 (nodeRow_len _ _ _ _ _ _ _ _ _) (Nat.succ_pos _) (fun h => h)) rfl ?_ ?_ ?_ | refine qac (qaE (cells := nodeRow up ka kids.length kc st me ra ru.length rc) 0 rfl rfl rfl (nodeRow_style _ _ _ _ _ _ _ _ _)) rfl ?_ ?_ ?_ | refine qac (qav 0 rfl rfl rfl) rfl ?_ ?_ ?_ | refine qac (qal 1 rfl rfl rfl) rfl ?_ ?_ ?_); rfl; rfl) | (refine qau ?_; (first | refine qac (qao rfl (fun w hl => styleC_any _ _)) rfl ?_ ?_ ?_ | refine qac (qao rfl (fun w hl => depthOf_any l _ o _ c R _ (by omega) (h.keep hl.mod))) rfl ?_ ?_ ?_ | refine qac (qaN rfl (fun w _ => in_any _ _ _ _)) rfl ?_ ?_ ?_); rfl; rfl) | (refine qai ?_; (refine qac (qae rfl) rfl ?_ ?_ ?_); rfl; rfl) | (refine qap ?_; (refine qac (qak rfl) rfl ?_ ?_ ?_); rfl; rfl) | (refine qam ?_; (refine qac (qah rfl) rfl ?_ ?_ ?_); rfl; rfl) | (refine l_len ?_; (refine qac (OpW.len rfl) rfl ?_ ?_ ?_); rfl; rfl) | (refine l_add ?_; (refine qac (OpW.succ rfl rfl (by omega)) rfl ?_ ?_ ?_); rfl; rfl) | (refine l_lss ?_; (refine qac (OpW.lssT rfl rfl (by omega)) rfl ?_ ?_ ?_); rfl; rfl) | (refine l_not ?_; (refine qac (OpW.not rfl) rfl ?_ ?_ ?_); rfl; rfl) | (refine qaG ?_; (refine qac (qay rfl rfl rfl) rfl ?_ ?_ ?_); rfl; rfl) | (refine qaI ?_; (refine qac (qaF (by omega) rfl rfl) rfl ?_ ?_ ?_); rfl; rfl) | (refine qaH ?_; refine SXl.alloc ?_ ?_ (fun g => ?_); rfl; rfl) | (refine qas ?_; first | ((first | refine qaa 0 ?_ rfl rfl rfl rfl rfl rfl rfl ?_ | refine qaa 1 ?_ rfl rfl rfl rfl rfl rfl rfl ?_ | refine qaa 2 ?_ rfl rfl rfl rfl rfl rfl rfl ?_); rfl; simp only [List.set_cons_zero, List.set_cons_succ]) | ((first | refine qab 0 ?_ rfl rfl rfl rfl rfl rfl rfl ?_ | refine qab 1 ?_ rfl rfl rfl rfl rfl rfl rfl ?_ | refine qab 2 ?_ rfl rfl rfl rfl rfl rfl rfl ?_); rfl; simp only [over, List.set_cons_zero, List.set_cons_succ])) | ((first | rw [q1] | rw [q2])))
  refine SX.loopi (fun j : Nat => j ≤ kids.length ∧ ∀ i y, i < j → kids[i]? = some y → kidOk l k y = true) (fun j => kids.length - j) (fun _ => [⟨g, nodeRow up ka kids.length kc st me ra ru.length rc, 86⟩, ⟨gt, [.slice (some ⟨b1, o1, none⟩) l.length c], 37⟩]) (fun _ => []) (fun _ => []) (fun j => [(1, .pointer (some ⟨gt, 0, none⟩)), (4, .pointer (some ⟨g, 0, none⟩)), (5, .int .i64 ((k + 1 : Nat) : Int)), (16, .slice (some ⟨b1, o1, none⟩) l.length c), (17, .int .i64 l.length), (18, .int .i64 k), (37, .slice ka kids.length kc), (38, .int .i64 kids.length), (39, .int .i64 j)]) 0 ⟨Nat.zero_le _, fun i x h => absurd h (Nat.not_lt_zero _)⟩ ?_ (fun _ hl => hl) ?_
  · (repeat (first | exact subF_nil _ | (refine subF_cons rfl ?_) | (refine subF_consv rfl (by rfl) ?_)))
  rintro j ⟨hj, hks⟩
  by_cases hjl : j < kids.length
  · obtain ⟨b3, o3, y, e3, hR3, hb3, hyk, hc3⟩ := IntSlice.get hk1 hjl
    subst e3
    replace hyk := hyk.out
    cases p1 : inB y 1 l.length
    · have hv := nodeOk_k (l := l) (i := k) (x := ⟨up, kids, st, me, ru⟩) hyk (by simp [kidOk, p1])
      repeat (first | refine qan ?_ | refine qaj ?_ | refine qaf ?_ | refine qad ?_ | refine SX.block ?_ | refine qaC ?_ | refine qaq rfl ?_ | (refine qaS rfl rfl rfl ?_) | (refine qau ?_; (refine qac (qao rfl (fun w hl => isNode_any _ _ _ _ _)) rfl ?_ ?_ ?_); rfl; rfl) | (refine qaw ?_; (first | refine qac (OpW.loadOld rfl (by assumption) (fun h => h)) rfl ?_ ?_ ?_ | refine qac (qal 1 rfl rfl rfl) rfl ?_ ?_ ?_); rfl; rfl) | (refine qap ?_; (refine qac (qak rfl) rfl ?_ ?_ ?_); rfl; rfl) | (refine qam ?_; (refine qac (qah rfl) rfl ?_ ?_ ?_); rfl; rfl) | (refine l_lss ?_; (refine qac (OpW.lssT rfl rfl (by omega)) rfl ?_ ?_ ?_); rfl; rfl) | (refine l_not ?_; (refine qac (OpW.not rfl) rfl ?_ ?_ ?_); rfl; rfl) | (refine qaG ?_; (refine qac (qay rfl rfl rfl) rfl ?_ ?_ ?_); rfl; rfl) | (refine qaI ?_; (refine qac (OpW.indexAddr1 (by omega) rfl rfl) rfl ?_ ?_ ?_); rfl; rfl) | (rw [p1]) | refine qaz ?_ | refine qax ?_ | refine qaD ?_)
      refine qaA rfl rfl (fun w' hl => ⟨by rw [treeOk_no hxk (hv)], hl.mod⟩)
    obtain ⟨ky, rfl, hky⟩ := inB_node p1
    obtain ⟨b2, o2, z, r2, e2, hR2, hb2, hzk, hr2, hl2, hc2⟩ := h.get hky
    obtain ⟨rfl, rfl⟩ : b1 = b2 ∧ o1 = o2 := by simpa using e2
    obtain ⟨kb, kd, rb, rd, rfl, _, _, _⟩ := hr2
    have hkid : kidOk l k ((ky + 1 : Nat) : Int) = decide (z.up = ((k + 1 : Nat) : Int)) := kidOk_at p1 hzk.out
    by_cases p2 : z.up = ((k + 1 : Nat) : Int)
    · repeat (first | refine qan ?_ | refine qaj ?_ | refine qaf ?_ | refine qad ?_ | refine SX.block ?_ | refine qaC ?_ | refine qaq rfl ?_ | refine qat rfl ?_ | (refine qau ?_; (first | refine qac (qao rfl (fun w hl => isNode_any _ _ _ _ _)) rfl ?_ ?_ ?_ | refine qac (qao rfl (fun w hl => node_any _ _ _ _ ky _ _ _ _ _ _ _ _ _ w (by omega) hky (fun j v hv => hl.old (hc2 j v hv) (fun h => h)))) rfl ?_ ?_ ?_); rfl; rfl) | (refine l_field ?_; (refine qac (OpW.field rfl (nodeRow_a0 _ _ _ _ _ _ _ _ _)) rfl ?_ ?_ ?_); rfl; rfl) | (refine qaw ?_; (first | refine qac (OpW.loadOld rfl (by assumption) (fun h => h)) rfl ?_ ?_ ?_ | refine qac (qal 1 rfl rfl rfl) rfl ?_ ?_ ?_); rfl; rfl) | (refine qap ?_; (refine qac (qak rfl) rfl ?_ ?_ ?_); rfl; rfl) | (refine qam ?_; (refine qac (qah rfl) rfl ?_ ?_ ?_); rfl; rfl) | (refine l_add ?_; (refine qac (OpW.succ rfl rfl (by omega)) rfl ?_ ?_ ?_); rfl; rfl) | (refine l_lss ?_; (refine qac (OpW.lssT rfl rfl (by omega)) rfl ?_ ?_ ?_); rfl; rfl) | (refine l_neq ?_; (refine qac (OpW.neqF rfl rfl (by omega)) rfl ?_ ?_ ?_); rfl; rfl) | (refine l_not ?_; (refine qac (OpW.not rfl) rfl ?_ ?_ ?_); rfl; rfl) | (refine qaG ?_; (refine qac (qay rfl rfl rfl) rfl ?_ ?_ ?_); rfl; rfl) | (refine qaI ?_; (refine qac (OpW.indexAddr1 (by omega) rfl rfl) rfl ?_ ?_ ?_); rfl; rfl) | (rw [p1]) | refine qar ?_)
      refine SQ.roundi (j + 1) ⟨by omega, pto_succ hks hyk (by rw [hkid]; exact decide_eq_true p2)⟩ (by omega) ?_ (fun _ hl => hl)
      (repeat (first | exact subF_nil _ | (refine subF_cons rfl ?_) | (refine subF_consv rfl (by rfl) ?_)))
    · have hv := nodeOk_k (l := l) (i := k) (x := ⟨up, kids, st, me, ru⟩) hyk (by rw [hkid]; exact decide_eq_false p2)
      repeat (first | refine qan ?_ | refine qaj ?_ | refine qaf ?_ | refine qad ?_ | refine SX.block ?_ | refine qaC ?_ | refine qaq rfl ?_ | (refine qau ?_; (first | refine qac (qao rfl (fun w hl => isNode_any _ _ _ _ _)) rfl ?_ ?_ ?_ | refine qac (qao rfl (fun w hl => node_any _ _ _ _ ky _ _ _ _ _ _ _ _ _ w (by omega) hky (fun j v hv => hl.old (hc2 j v hv) (fun h => h)))) rfl ?_ ?_ ?_); rfl; rfl) | (refine l_field ?_; (refine qac (OpW.field rfl (nodeRow_a0 _ _ _ _ _ _ _ _ _)) rfl ?_ ?_ ?_); rfl; rfl) | (refine qaw ?_; (first | refine qac (OpW.loadOld rfl (by assumption) (fun h => h)) rfl ?_ ?_ ?_ | refine qac (qal 1 rfl rfl rfl) rfl ?_ ?_ ?_); rfl; rfl) | (refine qap ?_; (refine qac (qak rfl) rfl ?_ ?_ ?_); rfl; rfl) | (refine qam ?_; (refine qac (qah rfl) rfl ?_ ?_ ?_); rfl; rfl) | (refine l_lss ?_; (refine qac (OpW.lssT rfl rfl (by omega)) rfl ?_ ?_ ?_); rfl; rfl) | (refine l_neq ?_; (refine qac (OpW.neqT rfl rfl (by omega)) rfl ?_ ?_ ?_); rfl; rfl) | (refine l_not ?_; (refine qac (OpW.not rfl) rfl ?_ ?_ ?_); rfl; rfl) | (refine qaG ?_; (refine qac (qay rfl rfl rfl) rfl ?_ ?_ ?_); rfl; rfl) | (refine qaI ?_; (refine qac (OpW.indexAddr1 (by omega) rfl rfl) rfl ?_ ?_ ?_); rfl; rfl) | (rw [p1]) | refine qaz ?_ | refine qax ?_ | refine qaD ?_)
      refine qaA rfl rfl (fun w' hl => ⟨by rw [treeOk_no hxk (hv)], hl.mod⟩)
  have hka := all_ints (p := kidOk l k) hks (by omega)
  by_cases u0 : up = 0
  · subst u0
    have hup : upOk l k ⟨0, kids, st, me, ru⟩ = true := rfl
    cases me
    · by_cases r0 : ru.length = 0
      · repeat (first | refine qan ?_ | refine qaj ?_ | refine qaf ?_ | refine qad ?_ | refine qaC ?_ | refine qat rfl ?_ | (refine qaS rfl rfl rfl ?_) | (refine qaw ?_; (refine qac (qav 0 rfl rfl rfl) rfl ?_ ?_ ?_); rfl; rfl) | (refine qai ?_; (refine qac (qae rfl) rfl ?_ ?_ ?_); rfl; rfl) | (refine qap ?_; (refine qac (qak rfl) rfl ?_ ?_ ?_); rfl; rfl) | (refine l_len ?_; (refine qac (OpW.len rfl) rfl ?_ ?_ ?_); rfl; rfl) | (refine l_add ?_; (refine qac (OpW.succ rfl rfl (by omega)) rfl ?_ ?_ ?_); rfl; rfl) | (refine l_gtr ?_; (refine qac (OpW.gtrF rfl rfl (by omega)) rfl ?_ ?_ ?_); rfl; rfl) | (refine l_lss ?_; (refine qac (OpW.lssF rfl rfl (by omega)) rfl ?_ ?_ ?_); rfl; rfl) | (refine l_neq ?_; (refine qac (OpW.neqF rfl rfl (by omega)) rfl ?_ ?_ ?_); rfl; rfl) | (refine l_not ?_; (refine qac (OpW.not rfl) rfl ?_ ?_ ?_); rfl; rfl) | (refine qaG ?_; (refine qac (qay rfl rfl rfl) rfl ?_ ?_ ?_); rfl; rfl) | refine SX.exit ?_ | refine qaO ?_ | refine qar ?_ | refine qaK ?_)
        refine SQ.roundi (k + 1) ⟨by omega, pto_succ hs hxk (nodeOk_y q1 q2 hka hup (by simp [tabOk, r0]))⟩ (by omega) ?_ (fun _ hl => hl.drop1)
        (repeat (first | exact subF_nil _ | (refine subF_cons rfl ?_) | (refine subF_consv rfl (by rfl) ?_)))
      · have hv := nodeOk_t (l := l) (i := k) (x := ⟨0, kids, st, false, ru⟩) (by simp [tabOk]; intro e; exact r0 (by rw [e]; rfl))
        repeat (first | refine qan ?_ | refine qaj ?_ | refine qaf ?_ | refine qad ?_ | refine qaC ?_ | refine qaq rfl ?_ | refine qat rfl ?_ | (refine qaS rfl rfl rfl ?_) | (refine qaw ?_; (refine qac (qav 0 rfl rfl rfl) rfl ?_ ?_ ?_); rfl; rfl) | (refine qai ?_; (refine qac (qae rfl) rfl ?_ ?_ ?_); rfl; rfl) | (refine qap ?_; (refine qac (qak rfl) rfl ?_ ?_ ?_); rfl; rfl) | (refine qam ?_; (refine qac (qah rfl) rfl ?_ ?_ ?_); rfl; rfl) | (refine l_len ?_; (refine qac (OpW.len rfl) rfl ?_ ?_ ?_); rfl; rfl) | (refine l_gtr ?_; (refine qac (OpW.gtrT rfl rfl (by omega)) rfl ?_ ?_ ?_); rfl; rfl) | (refine l_lss ?_; (refine qac (OpW.lssF rfl rfl (by omega)) rfl ?_ ?_ ?_); rfl; rfl) | (refine l_neq ?_; (refine qac (OpW.neqF rfl rfl (by omega)) rfl ?_ ?_ ?_); rfl; rfl) | (refine l_not ?_; (refine qac (OpW.not rfl) rfl ?_ ?_ ?_); rfl; rfl) | (refine qaG ?_; (refine qac (qay rfl rfl rfl) rfl ?_ ?_ ?_); rfl; rfl) | refine qaz ?_ | refine SX.exit ?_ | refine qax ?_ | refine qaO ?_ | refine qaD ?_ | refine qaK ?_)
        refine qaA rfl rfl (fun w' hl => ⟨by rw [treeOk_no hxk (hv)], hl.mod⟩)
    · cases tq : tableOk ru
      · have hv := nodeOk_t (l := l) (i := k) (x := ⟨0, kids, st, true, ru⟩) (by simp [tabOk, tq])
        repeat (first | refine qan ?_ | refine qaj ?_ | refine qaf ?_ | refine qad ?_ | refine qaC ?_ | refine qaq rfl ?_ | refine qat rfl ?_ | (refine qaS rfl rfl rfl ?_) | (refine qaw ?_; (first | refine qac (qaE (cells := nodeRow _ _ _ _ _ _ _ _ _) 0 rfl rfl rfl (nodeRow_tab _ _ _ _ _ _ _ _ _)) rfl ?_ ?_ ?_ | refine qac (qav 0 rfl rfl rfl) rfl ?_ ?_ ?_); rfl; rfl) | (refine qau ?_; (refine qac (qao rfl (fun w hl => tableOk_any ru ra rc R _ hf2 (ht1.flatKeep hl.mod))) rfl ?_ ?_ ?_); rfl; rfl) | (refine qai ?_; (refine qac (qae rfl) rfl ?_ ?_ ?_); rfl; rfl) | (refine qap ?_; (refine qac (qak rfl) rfl ?_ ?_ ?_); rfl; rfl) | (refine qam ?_; (refine qac (qah rfl) rfl ?_ ?_ ?_); rfl; rfl) | (refine l_lss ?_; (refine qac (OpW.lssF rfl rfl (by omega)) rfl ?_ ?_ ?_); rfl; rfl) | (refine l_neq ?_; (refine qac (OpW.neqF rfl rfl (by omega)) rfl ?_ ?_ ?_); rfl; rfl) | (refine l_not ?_; (refine qac (OpW.not rfl) rfl ?_ ?_ ?_); rfl; rfl) | (refine qaG ?_; (refine qac (qay rfl rfl rfl) rfl ?_ ?_ ?_); rfl; rfl) | (rw [tq]) | refine qaz ?_ | refine SX.exit ?_ | refine qax ?_ | refine qaO ?_ | refine qaD ?_ | refine qaK ?_)
        refine qaA rfl rfl (fun w' hl => ⟨by rw [treeOk_no hxk (hv)], hl.mod⟩)
      by_cases k0 : kids.length = 0
      · repeat (first | refine qan ?_ | refine qaj ?_ | refine qaf ?_ | refine qad ?_ | refine qaC ?_ | refine qat rfl ?_ | (refine qaS rfl rfl rfl ?_) | (refine qaw ?_; (first | refine qac (qaE (cells := nodeRow _ _ _ _ _ _ _ _ _) 0 rfl rfl rfl (nodeRow_tab _ _ _ _ _ _ _ _ _)) rfl ?_ ?_ ?_ | refine qac (qav 0 rfl rfl rfl) rfl ?_ ?_ ?_); rfl; rfl) | (refine qau ?_; (refine qac (qao rfl (fun w hl => tableOk_any ru ra rc R _ hf2 (ht1.flatKeep hl.mod))) rfl ?_ ?_ ?_); rfl; rfl) | (refine qai ?_; (refine qac (qae rfl) rfl ?_ ?_ ?_); rfl; rfl) | (refine qap ?_; (refine qac (qak rfl) rfl ?_ ?_ ?_); rfl; rfl) | (refine l_len ?_; (refine qac (OpW.len rfl) rfl ?_ ?_ ?_); rfl; rfl) | (refine l_add ?_; (refine qac (OpW.succ rfl rfl (by omega)) rfl ?_ ?_ ?_); rfl; rfl) | (refine l_gtr ?_; (refine qac (OpW.gtrF rfl rfl (by omega)) rfl ?_ ?_ ?_); rfl; rfl) | (refine l_lss ?_; (refine qac (OpW.lssF rfl rfl (by omega)) rfl ?_ ?_ ?_); rfl; rfl) | (refine l_neq ?_; (refine qac (OpW.neqF rfl rfl (by omega)) rfl ?_ ?_ ?_); rfl; rfl) | (refine l_not ?_; (refine qac (OpW.not rfl) rfl ?_ ?_ ?_); rfl; rfl) | (refine qaG ?_; (refine qac (qay rfl rfl rfl) rfl ?_ ?_ ?_); rfl; rfl) | (rw [tq]) | refine SX.exit ?_ | refine qaO ?_ | refine qar ?_ | refine qaK ?_)
        refine SQ.roundi (k + 1) ⟨by omega, pto_succ hs hxk (nodeOk_y q1 q2 hka hup (by simp [tabOk, tq, k0]))⟩ (by omega) ?_ (fun _ hl => hl.drop1)
        (repeat (first | exact subF_nil _ | (refine subF_cons rfl ?_) | (refine subF_consv rfl (by rfl) ?_)))
      · have hv := nodeOk_t (l := l) (i := k) (x := ⟨0, kids, st, true, ru⟩) (by simp [tabOk, tq]; intro e; exact k0 (by rw [e]; rfl))
        repeat (first | refine qan ?_ | refine qaj ?_ | refine qaf ?_ | refine qad ?_ | refine qaC ?_ | refine qaq rfl ?_ | refine qat rfl ?_ | (refine qaS rfl rfl rfl ?_) | (refine qaw ?_; (first | refine qac (qaE (cells := nodeRow _ _ _ _ _ _ _ _ _) 0 rfl rfl rfl (nodeRow_tab _ _ _ _ _ _ _ _ _)) rfl ?_ ?_ ?_ | refine qac (qav 0 rfl rfl rfl) rfl ?_ ?_ ?_); rfl; rfl) | (refine qau ?_; (refine qac (qao rfl (fun w hl => tableOk_any ru ra rc R _ hf2 (ht1.flatKeep hl.mod))) rfl ?_ ?_ ?_); rfl; rfl) | (refine qai ?_; (refine qac (qae rfl) rfl ?_ ?_ ?_); rfl; rfl) | (refine qap ?_; (refine qac (qak rfl) rfl ?_ ?_ ?_); rfl; rfl) | (refine qam ?_; (refine qac (qah rfl) rfl ?_ ?_ ?_); rfl; rfl) | (refine l_len ?_; (refine qac (OpW.len rfl) rfl ?_ ?_ ?_); rfl; rfl) | (refine l_gtr ?_; (refine qac (OpW.gtrT rfl rfl (by omega)) rfl ?_ ?_ ?_); rfl; rfl) | (refine l_lss ?_; (refine qac (OpW.lssF rfl rfl (by omega)) rfl ?_ ?_ ?_); rfl; rfl) | (refine l_neq ?_; (refine qac (OpW.neqF rfl rfl (by omega)) rfl ?_ ?_ ?_); rfl; rfl) | (refine l_not ?_; (refine qac (OpW.not rfl) rfl ?_ ?_ ?_); rfl; rfl) | (refine qaG ?_; (refine qac (qay rfl rfl rfl) rfl ?_ ?_ ?_); rfl; rfl) | (rw [tq]) | refine qaz ?_ | refine SX.exit ?_ | refine qax ?_ | refine qaO ?_ | refine qaD ?_ | refine qaK ?_)
        refine qaA rfl rfl (fun w' hl => ⟨by rw [treeOk_no hxk (hv)], hl.mod⟩)
  have hu0 : up ≠ 0 := u0
  obtain ⟨ku, rfl, hku⟩ := depth_up hxk q2 u0
  obtain ⟨b5, o5, z, r5, e5, hR5, hb5, hzk, hr5, hl5, hc5⟩ := h.get hku
  obtain ⟨rfl, rfl⟩ : b1 = b5 ∧ o1 = o5 := by simpa using e5
  obtain ⟨kb, kd, rb, rd, rfl, hk5, _, _⟩ := hr5
  have hfz : z.kids.length ≤ 1048576 := (hfit _ (List.mem_of_getElem? hzk.out)).1
  have hup := upOk_at (l := l) (i := k) (x := ⟨((ku + 1 : Nat) : Int), kids, st, me, ru⟩) rfl hzk.out
  repeat (first | refine qan ?_ | refine qaj ?_ | refine qaf ?_ | refine qad ?_ | refine SX.block ?_ | refine qaq rfl ?_ | refine qat rfl ?_ | (refine qau ?_; (refine qac (qao rfl (fun w hl => node_any _ _ _ _ ku _ _ _ _ _ _ _ _ _ w (by omega) hku (fun j v hv => hl.old (hc5 j v hv) (fun h => h)))) rfl ?_ ?_ ?_); rfl; rfl) | (refine l_field ?_; (refine qac (OpW.field rfl (nodeRow_a1 _ _ _ _ _ _ _ _ _)) rfl ?_ ?_ ?_); rfl; rfl) | (refine qaw ?_; (first | refine qac (qav 0 rfl rfl rfl) rfl ?_ ?_ ?_ | refine qac (qal 1 rfl rfl rfl) rfl ?_ ?_ ?_); rfl; rfl) | (refine qai ?_; (refine qac (qae rfl) rfl ?_ ?_ ?_); rfl; rfl) | (refine qap ?_; (refine qac (qak rfl) rfl ?_ ?_ ?_); rfl; rfl) | (refine qam ?_; (refine qac (qah rfl) rfl ?_ ?_ ?_); rfl; rfl) | (refine l_len ?_; (refine qac (OpW.len rfl) rfl ?_ ?_ ?_); rfl; rfl) | (refine l_lss ?_; (refine qac (OpW.lssF rfl rfl (by omega)) rfl ?_ ?_ ?_); rfl; rfl) | (refine l_neq ?_; (refine qac (OpW.neqT rfl rfl (by omega)) rfl ?_ ?_ ?_); rfl; rfl) | refine SX.exit ?_ | refine qaO ?_ | refine qaK ?_)
  refine SX.loopi (fun j : Nat => j ≤ z.kids.length) (fun j => z.kids.length - j) (fun _ => [⟨g, nodeRow ((ku + 1 : Nat) : Int) ka kids.length kc st me ra ru.length rc, 86⟩, ⟨gt, [.slice (some ⟨b1, o1, none⟩) l.length c], 37⟩]) (fun _ => []) (fun _ => []) (fun j => [(1, .pointer (some ⟨gt, 0, none⟩)), (4, .pointer (some ⟨g, 0, none⟩)), (5, .int .i64 ((k + 1 : Nat) : Int)), (16, .slice (some ⟨b1, o1, none⟩) l.length c), (17, .int .i64 l.length), (18, .int .i64 k), (8, .int .i64 (hasTo z.kids ((k + 1 : Nat) : Int) j : Nat)), (63, .slice kb z.kids.length kd), (64, .int .i64 z.kids.length), (65, .int .i64 j)]) 0 (Nat.zero_le _) ?_ (fun _ hl => hl) ?_
  · (repeat (first | exact subF_nil _ | (refine subF_cons rfl ?_) | (refine subF_consv rfl (by rfl) ?_)))
  intro j hj
  have hle := hasTo_le z.kids ((k + 1 : Nat) : Int) j
  by_cases hjl : j < z.kids.length
  · obtain ⟨b6, o6, y, rfl, _, _, hyk, hc6⟩ := IntSlice.get hk5 hjl
    have hsu := hasTo_succ (n := ((k + 1 : Nat) : Int)) hyk.out
    by_cases e : y = ((k + 1 : Nat) : Int)
    · rw [if_pos e] at hsu
      repeat (first | refine qan ?_ | refine qaj ?_ | refine qaf ?_ | refine qad ?_ | refine SX.block ?_ | refine qaC ?_ | refine qaq rfl ?_ | (refine qaw ?_; (refine qac (OpW.loadOld rfl (by assumption) (fun h => h)) rfl ?_ ?_ ?_); rfl; rfl) | (refine qap ?_; (refine qac (qak rfl) rfl ?_ ?_ ?_); rfl; rfl) | (refine qam ?_; (refine qac (qah rfl) rfl ?_ ?_ ?_); rfl; rfl) | (refine l_add ?_; (refine qac (OpW.succ rfl rfl (by omega)) rfl ?_ ?_ ?_); rfl; rfl) | (refine l_eql ?_; (refine qac (qaQ rfl rfl (by omega)) rfl ?_ ?_ ?_); rfl; rfl) | (refine l_lss ?_; (refine qac (OpW.lssT rfl rfl (by omega)) rfl ?_ ?_ ?_); rfl; rfl) | (refine qaI ?_; (refine qac (OpW.indexAddr1 (by omega) rfl rfl) rfl ?_ ?_ ?_); rfl; rfl) | refine qar ?_)
      refine SQ.roundi (j + 1) (by omega) (by omega) ?_ (fun _ hl => hl)
      (repeat (first | exact subF_nil _ | (refine subF_cons rfl ?_) | (refine subF_consv rfl (by rw [hsu]) ?_)))
    · rw [if_neg e] at hsu
      repeat (first | refine qan ?_ | refine qaj ?_ | refine qaf ?_ | refine qad ?_ | refine SX.block ?_ | refine qaC ?_ | refine qaq rfl ?_ | refine qat rfl ?_ | (refine qaw ?_; (refine qac (OpW.loadOld rfl (by assumption) (fun h => h)) rfl ?_ ?_ ?_); rfl; rfl) | (refine qap ?_; (refine qac (qak rfl) rfl ?_ ?_ ?_); rfl; rfl) | (refine qam ?_; (refine qac (qah rfl) rfl ?_ ?_ ?_); rfl; rfl) | (refine l_add ?_; (refine qac (OpW.succ rfl rfl (by omega)) rfl ?_ ?_ ?_); rfl; rfl) | (refine l_eql ?_; (refine qac (qaP rfl rfl (by omega)) rfl ?_ ?_ ?_); rfl; rfl) | (refine l_lss ?_; (refine qac (OpW.lssT rfl rfl (by omega)) rfl ?_ ?_ ?_); rfl; rfl) | (refine qaI ?_; (refine qac (OpW.indexAddr1 (by omega) rfl rfl) rfl ?_ ?_ ?_); rfl; rfl) | refine qar ?_)
      refine SQ.roundi (j + 1) (by omega) (by omega) ?_ (fun _ hl => hl)
      (repeat (first | exact subF_nil _ | (refine subF_cons rfl ?_) | (refine subF_consv rfl (by rw [hsu]; rfl) ?_)))
  have hjz : j = z.kids.length := by omega
  have hall := hasTo_all (n := ((k + 1 : Nat) : Int)) (show z.kids.length ≤ j by omega)
  by_cases c1 : z.kids.count ((k + 1 : Nat) : Int) = 1
  rotate_left
  · rw [decide_eq_false c1] at hup
    have hv := nodeOk_u hup
    repeat (first | refine qan ?_ | refine qaj ?_ | refine qaf ?_ | refine qad ?_ | refine qaq rfl ?_ | refine qat rfl ?_ | (refine qap ?_; (refine qac (qak rfl) rfl ?_ ?_ ?_); rfl; rfl) | (refine qam ?_; (refine qac (qah rfl) rfl ?_ ?_ ?_); rfl; rfl) | (refine l_lss ?_; (refine qac (OpW.lssF rfl rfl (by omega)) rfl ?_ ?_ ?_); rfl; rfl) | (refine l_neq ?_; (refine qac (OpW.neqT rfl rfl (by omega)) rfl ?_ ?_ ?_); rfl; rfl) | refine qaz ?_ | refine SX.exit ?_ | refine qax ?_ | refine qaO ?_ | refine qaD ?_ | refine qaK ?_)
    refine qaA rfl rfl (fun w' hl => ⟨by rw [treeOk_no hxk (hv)], hl.mod⟩)
  rw [decide_eq_true c1] at hup
  cases me
  · by_cases r0 : ru.length = 0
    · repeat (first | refine qan ?_ | refine qaj ?_ | refine qaf ?_ | refine qad ?_ | refine qaC ?_ | refine qat rfl ?_ | (refine qaS rfl rfl rfl ?_) | (refine qaw ?_; (refine qac (qav 0 rfl rfl rfl) rfl ?_ ?_ ?_); rfl; rfl) | (refine qai ?_; (refine qac (qae rfl) rfl ?_ ?_ ?_); rfl; rfl) | (refine qap ?_; (refine qac (qak rfl) rfl ?_ ?_ ?_); rfl; rfl) | (refine l_len ?_; (refine qac (OpW.len rfl) rfl ?_ ?_ ?_); rfl; rfl) | (refine l_add ?_; (refine qac (OpW.succ rfl rfl (by omega)) rfl ?_ ?_ ?_); rfl; rfl) | (refine l_gtr ?_; (refine qac (OpW.gtrF rfl rfl (by omega)) rfl ?_ ?_ ?_); rfl; rfl) | (refine l_lss ?_; (refine qac (OpW.lssF rfl rfl (by omega)) rfl ?_ ?_ ?_); rfl; rfl) | (refine l_neq ?_; (refine qac (OpW.neqF rfl rfl (by omega)) rfl ?_ ?_ ?_); rfl; rfl) | (refine l_not ?_; (refine qac (OpW.not rfl) rfl ?_ ?_ ?_); rfl; rfl) | (refine qaG ?_; (refine qac (qay rfl rfl rfl) rfl ?_ ?_ ?_); rfl; rfl) | refine SX.exit ?_ | refine qaO ?_ | refine qar ?_ | refine qaK ?_)
      refine SQ.roundi (k + 1) ⟨by omega, pto_succ hs hxk (nodeOk_y q1 q2 hka hup (by simp [tabOk, r0]))⟩ (by omega) ?_ (fun _ hl => hl.drop1)
      (repeat (first | exact subF_nil _ | (refine subF_cons rfl ?_) | (refine subF_consv rfl (by rfl) ?_)))
    · have hv := nodeOk_t (l := l) (i := k) (x := ⟨((ku + 1 : Nat) : Int), kids, st, false, ru⟩) (by simp [tabOk]; intro e; exact r0 (by rw [e]; rfl))
      repeat (first | refine qan ?_ | refine qaj ?_ | refine qaf ?_ | refine qad ?_ | refine qaC ?_ | refine qaq rfl ?_ | refine qat rfl ?_ | (refine qaS rfl rfl rfl ?_) | (refine qaw ?_; (refine qac (qav 0 rfl rfl rfl) rfl ?_ ?_ ?_); rfl; rfl) | (refine qai ?_; (refine qac (qae rfl) rfl ?_ ?_ ?_); rfl; rfl) | (refine qap ?_; (refine qac (qak rfl) rfl ?_ ?_ ?_); rfl; rfl) | (refine qam ?_; (refine qac (qah rfl) rfl ?_ ?_ ?_); rfl; rfl) | (refine l_len ?_; (refine qac (OpW.len rfl) rfl ?_ ?_ ?_); rfl; rfl) | (refine l_gtr ?_; (refine qac (OpW.gtrT rfl rfl (by omega)) rfl ?_ ?_ ?_); rfl; rfl) | (refine l_lss ?_; (refine qac (OpW.lssF rfl rfl (by omega)) rfl ?_ ?_ ?_); rfl; rfl) | (refine l_neq ?_; (refine qac (OpW.neqF rfl rfl (by omega)) rfl ?_ ?_ ?_); rfl; rfl) | (refine l_not ?_; (refine qac (OpW.not rfl) rfl ?_ ?_ ?_); rfl; rfl) | (refine qaG ?_; (refine qac (qay rfl rfl rfl) rfl ?_ ?_ ?_); rfl; rfl) | refine qaz ?_ | refine SX.exit ?_ | refine qax ?_ | refine qaO ?_ | refine qaD ?_ | refine qaK ?_)
      refine qaA rfl rfl (fun w' hl => ⟨by rw [treeOk_no hxk (hv)], hl.mod⟩)
  · cases tq : tableOk ru
    · have hv := nodeOk_t (l := l) (i := k) (x := ⟨((ku + 1 : Nat) : Int), kids, st, true, ru⟩) (by simp [tabOk, tq])
      repeat (first | refine qan ?_ | refine qaj ?_ | refine qaf ?_ | refine qad ?_ | refine qaC ?_ | refine qaq rfl ?_ | refine qat rfl ?_ | (refine qaS rfl rfl rfl ?_) | (refine qaw ?_; (first | refine qac (qaE (cells := nodeRow _ _ _ _ _ _ _ _ _) 0 rfl rfl rfl (nodeRow_tab _ _ _ _ _ _ _ _ _)) rfl ?_ ?_ ?_ | refine qac (qav 0 rfl rfl rfl) rfl ?_ ?_ ?_); rfl; rfl) | (refine qau ?_; (refine qac (qao rfl (fun w hl => tableOk_any ru ra rc R _ hf2 (ht1.flatKeep hl.mod))) rfl ?_ ?_ ?_); rfl; rfl) | (refine qai ?_; (refine qac (qae rfl) rfl ?_ ?_ ?_); rfl; rfl) | (refine qap ?_; (refine qac (qak rfl) rfl ?_ ?_ ?_); rfl; rfl) | (refine qam ?_; (refine qac (qah rfl) rfl ?_ ?_ ?_); rfl; rfl) | (refine l_lss ?_; (refine qac (OpW.lssF rfl rfl (by omega)) rfl ?_ ?_ ?_); rfl; rfl) | (refine l_neq ?_; (refine qac (OpW.neqF rfl rfl (by omega)) rfl ?_ ?_ ?_); rfl; rfl) | (refine l_not ?_; (refine qac (OpW.not rfl) rfl ?_ ?_ ?_); rfl; rfl) | (refine qaG ?_; (refine qac (qay rfl rfl rfl) rfl ?_ ?_ ?_); rfl; rfl) | (rw [tq]) | refine qaz ?_ | refine SX.exit ?_ | refine qax ?_ | refine qaO ?_ | refine qaD ?_ | refine qaK ?_)
      refine qaA rfl rfl (fun w' hl => ⟨by rw [treeOk_no hxk (hv)], hl.mod⟩)
    by_cases k0 : kids.length = 0
    · repeat (first | refine qan ?_ | refine qaj ?_ | refine qaf ?_ | refine qad ?_ | refine qaC ?_ | refine qat rfl ?_ | (refine qaS rfl rfl rfl ?_) | (refine qaw ?_; (first | refine qac (qaE (cells := nodeRow _ _ _ _ _ _ _ _ _) 0 rfl rfl rfl (nodeRow_tab _ _ _ _ _ _ _ _ _)) rfl ?_ ?_ ?_ | refine qac (qav 0 rfl rfl rfl) rfl ?_ ?_ ?_); rfl; rfl) | (refine qau ?_; (refine qac (qao rfl (fun w hl => tableOk_any ru ra rc R _ hf2 (ht1.flatKeep hl.mod))) rfl ?_ ?_ ?_); rfl; rfl) | (refine qai ?_; (refine qac (qae rfl) rfl ?_ ?_ ?_); rfl; rfl) | (refine qap ?_; (refine qac (qak rfl) rfl ?_ ?_ ?_); rfl; rfl) | (refine l_len ?_; (refine qac (OpW.len rfl) rfl ?_ ?_ ?_); rfl; rfl) | (refine l_add ?_; (refine qac (OpW.succ rfl rfl (by omega)) rfl ?_ ?_ ?_); rfl; rfl) | (refine l_gtr ?_; (refine qac (OpW.gtrF rfl rfl (by omega)) rfl ?_ ?_ ?_); rfl; rfl) | (refine l_lss ?_; (refine qac (OpW.lssF rfl rfl (by omega)) rfl ?_ ?_ ?_); rfl; rfl) | (refine l_neq ?_; (refine qac (OpW.neqF rfl rfl (by omega)) rfl ?_ ?_ ?_); rfl; rfl) | (refine l_not ?_; (refine qac (OpW.not rfl) rfl ?_ ?_ ?_); rfl; rfl) | (refine qaG ?_; (refine qac (qay rfl rfl rfl) rfl ?_ ?_ ?_); rfl; rfl) | (rw [tq]) | refine SX.exit ?_ | refine qaO ?_ | refine qar ?_ | refine qaK ?_)
      refine SQ.roundi (k + 1) ⟨by omega, pto_succ hs hxk (nodeOk_y q1 q2 hka hup (by simp [tabOk, tq, k0]))⟩ (by omega) ?_ (fun _ hl => hl.drop1)
      (repeat (first | exact subF_nil _ | (refine subF_cons rfl ?_) | (refine subF_consv rfl (by rfl) ?_)))
    · have hv := nodeOk_t (l := l) (i := k) (x := ⟨((ku + 1 : Nat) : Int), kids, st, true, ru⟩) (by simp [tabOk, tq]; intro e; exact k0 (by rw [e]; rfl))
      repeat (first | refine qan ?_ | refine qaj ?_ | refine qaf ?_ | refine qad ?_ | refine qaC ?_ | refine qaq rfl ?_ | refine qat rfl ?_ | (refine qaS rfl rfl rfl ?_) | (refine qaw ?_; (first | refine qac (qaE (cells := nodeRow _ _ _ _ _ _ _ _ _) 0 rfl rfl rfl (nodeRow_tab _ _ _ _ _ _ _ _ _)) rfl ?_ ?_ ?_ | refine qac (qav 0 rfl rfl rfl) rfl ?_ ?_ ?_); rfl; rfl) | (refine qau ?_; (refine qac (qao rfl (fun w hl => tableOk_any ru ra rc R _ hf2 (ht1.flatKeep hl.mod))) rfl ?_ ?_ ?_); rfl; rfl) | (refine qai ?_; (refine qac (qae rfl) rfl ?_ ?_ ?_); rfl; rfl) | (refine qap ?_; (refine qac (qak rfl) rfl ?_ ?_ ?_); rfl; rfl) | (refine qam ?_; (refine qac (qah rfl) rfl ?_ ?_ ?_); rfl; rfl) | (refine l_len ?_; (refine qac (OpW.len rfl) rfl ?_ ?_ ?_); rfl; rfl) | (refine l_gtr ?_; (refine qac (OpW.gtrT rfl rfl (by omega)) rfl ?_ ?_ ?_); rfl; rfl) | (refine l_lss ?_; (refine qac (OpW.lssF rfl rfl (by omega)) rfl ?_ ?_ ?_); rfl; rfl) | (refine l_neq ?_; (refine qac (OpW.neqF rfl rfl (by omega)) rfl ?_ ?_ ?_); rfl; rfl) | (refine l_not ?_; (refine qac (OpW.not rfl) rfl ?_ ?_ ?_); rfl; rfl) | (refine qaG ?_; (refine qac (qay rfl rfl rfl) rfl ?_ ?_ ?_); rfl; rfl) | (rw [tq]) | refine qaz ?_ | refine SX.exit ?_ | refine qax ?_ | refine qaO ?_ | refine qaD ?_ | refine qaK ?_)
      refine qaA rfl rfl (fun w' hl => ⟨by rw [treeOk_no hxk (hv)], hl.mod⟩)

end Go.Proofs.Ythffgbhphjkdeaa
namespace Go.Proofs.Ythffgbhphjkdeaa
open Go.RowKit
set_option linter.unusedVariables false
set_option linter.unusedSimpArgs false

def intsO (l : List Int) (q : Option Addr × Nat) : Own := ⟨.slice q.1 l.length q.2, 3, 1, l.length, (l.map icell).flatten⟩
def rulesOf (l : List Rule) (q : Option Addr × Nat) : Own := ⟨.slice q.1 l.length q.2, 152, 3, l.length, (l.map Rule.cells).flatten⟩
set_option maxRecDepth 100000 in
set_option maxHeartbeats 4000000 in
theorem copyInts_any (l : List Int) (a : Option Addr) (m c : Nat) (R : Nat → Prop) (w : World) (hm : m = l.length) (hl : l.length ≤ 1048576) (h : IntSlice R w a l) :
    Calls Try.prog 76 #[.slice a m c] w (NewO (Option Addr × Nat) (fun q => .slice q.1 l.length q.2) (fun q => [intsO l q]) (fun _ => True) w) := by
  refine calls_sx Try.func76 rfl rfl (fun a h1 h2 h3 => ((Fr.nil h1 h2).arg (h3 0 _ rfl))) ?_
  refine SX.ownNil 3 1 ?_
  repeat (first | refine qan ?_ | refine qaj ?_ | refine qaf ?_ | refine qad ?_ | (refine qap ?_; (refine qac (qak rfl) rfl ?_ ?_ ?_); rfl; rfl) | (refine qam ?_; (refine qac (qah rfl) rfl ?_ ?_ ?_); rfl; rfl))
  refine l_append ?_
  refine SXl.appendS (cs := icell) 0 l rfl rfl rfl rfl rfl hm (fun _ => rfl) icell_one1 (fun w hl => ⟨_, SliceAt.flatKeep h hl.mod⟩) (by omega) (by omega) (fun a1 c1 => ?_)
  simp only [List.set_cons_zero, Nat.zero_add, List.nil_append]
  repeat (first | refine qaj ?_ | refine qad ?_ | (refine qam ?_; (refine qac (qah rfl) rfl ?_ ?_ ?_); rfl; rfl) | refine qaz ?_)
  refine qaA rfl rfl (fun w' hl => ⟨(a1, c1), rfl, trivial, hl.owns, hl.mod⟩)
set_option maxRecDepth 100000 in
set_option maxHeartbeats 4000000 in
theorem copyTable_any (l : List Rule) (a : Option Addr) (c : Nat) (R : Nat → Prop) (w : World) (hl : l.length ≤ 1048576) (h : SliceAt (Flat Rule.cells) 3 R w a l) :
    Calls Try.prog 92 #[.agg #[.slice a l.length c]] w (NewO (Option Addr × Nat) (fun q => .agg [.slice q.1 l.length q.2].toArray) (fun q => [rulesOf l q]) (fun _ => True) w) := by
  refine calls_sx Try.func92 rfl rfl (fun a h1 h2 h3 => ((Fr.nil h1 h2).arg (h3 0 _ rfl))) ?_
  refine SX.ownNil 152 3 ?_
  repeat (first | refine qan ?_ | refine qaj ?_ | refine qaf ?_ | refine qad ?_ | (refine qaw ?_; (refine qac (qav 1 rfl rfl rfl) rfl ?_ ?_ ?_); rfl; rfl) | (refine qai ?_; (refine qac (qae rfl) rfl ?_ ?_ ?_); rfl; rfl) | (refine qaH ?_; refine SXl.alloc ?_ ?_ (fun g => ?_); rfl; rfl) | (refine l_box ?_; refine qaM ?_ ?_ rfl rfl (fun g => ?_); rfl; rfl))
  refine l_append ?_
  refine SXl.appendS (cs := Rule.cells) 0 l rfl rfl rfl rfl rfl rfl (fun _ => rfl) rule_one1 (fun w hl => ⟨_, SliceAt.flatKeep h hl.mod⟩) (by omega) (by omega) (fun a1 c1 => ?_)
  simp only [List.set_cons_zero, Nat.zero_add, List.nil_append]
  repeat (first | refine qaj ?_ | refine qad ?_ | (refine l_build ?_; (refine qac ((OpW.build (vals := [(0, .slice a1 l.length c1)]) (cells := [.slice a1 l.length c1]) rfl (by kernel_rfl))) rfl ?_ ?_ ?_); rfl; rfl) | (refine qas ?_; first | ((first | refine qaa 0 ?_ rfl rfl rfl rfl rfl rfl rfl ?_ | refine qaa 1 ?_ rfl rfl rfl rfl rfl rfl rfl ?_ | refine qaa 2 ?_ rfl rfl rfl rfl rfl rfl rfl ?_); rfl; simp only [List.set_cons_zero, List.set_cons_succ]) | ((first | refine qab 0 ?_ rfl rfl rfl rfl rfl rfl rfl ?_ | refine qab 1 ?_ rfl rfl rfl rfl rfl rfl rfl ?_ | refine qab 2 ?_ rfl rfl rfl rfl rfl rfl rfl ?_); rfl; simp only [over, List.set_cons_zero, List.set_cons_succ])) | refine qaz ?_)
  refine qaJ 0 rfl rfl rfl rfl (fun w' hl => ⟨(a1, c1), rfl, trivial, hl.owns, hl.mod⟩)

set_option maxRecDepth 100000 in
set_option maxHeartbeats 8000000 in
theorem copyTree_any (l : List Node) (o : Bool) (a : Option Addr) (c : Nat) (R : Nat → Prop) (w : World) (hlen : l.length ≤ 1048576) (hfit : ∀ x ∈ l, x.fits 1048576) (h : NodeSlice o R w a l) :
    Calls Try.prog 72 #[.agg #[.slice a l.length c]] w (NewTree l w) := by
  refine calls_sx Try.func72 rfl rfl (fun a h1 h2 h3 => ((Fr.nil h1 h2).arg (h3 0 _ rfl))) ?_
  repeat (first | refine qan ?_ | refine qaj ?_ | refine qaf ?_ | refine qad ?_ | refine SX.block ?_ | (refine qaw ?_; (refine qac (qav 2 rfl rfl rfl) rfl ?_ ?_ ?_); rfl; rfl) | (refine qai ?_; (refine qac (qae rfl) rfl ?_ ?_ ?_); rfl; rfl) | (refine qap ?_; (refine qac (qak rfl) rfl ?_ ?_ ?_); rfl; rfl) | (refine l_len ?_; (refine qac (OpW.len rfl) rfl ?_ ?_ ?_); rfl; rfl) | (refine qaH ?_; refine SXl.alloc ?_ ?_ (fun g => ?_); rfl; rfl) | (refine l_box ?_; refine qaM ?_ ?_ rfl rfl (fun g => ?_); rfl; rfl))
  rename_i g1 g2
  refine SX.ownNil 86 64 ?_
  refine SX.loop3 (fun (k : Nat) (q : TreeQ) (_ : Unit) => k ≤ l.length ∧ bare q.ps = l.take k) (fun k _ _ => l.length - k) (fun _ q _ => [⟨g, [.slice q.a q.ps.length q.c], 37⟩, ⟨g2, [.slice none 0 0], 37⟩, ⟨g1, [.slice a l.length c], 37⟩]) (fun _ q _ => q.os) (fun _ _ _ => []) (fun k _ _ => [(2, .pointer (some ⟨g2, 0, none⟩)), (3, .pointer (some ⟨g, 0, none⟩)), (7, .slice a l.length c), (8, .int .i64 l.length), (9, .int .i64 k)]) 0 ⟨[], none, 0⟩ () ⟨Nat.zero_le _, rfl⟩ ?_ (fun w hl => hl) ?_
  · (repeat (first | exact subF_nil _ | (refine subF_cons rfl ?_) | (refine subF_consv rfl (by rfl) ?_)))
  rintro k q _ ⟨hk, hq⟩
  have hql : q.ps.length = k := by rw [← bare_len, hq, List.length_take]; omega
  by_cases hlt : k < l.length
  rotate_left
  · have hk' : k = l.length := by omega
    repeat (first | refine qan ?_ | refine qaj ?_ | refine qaf ?_ | refine qad ?_ | refine qat rfl ?_ | (refine qaw ?_; (refine qac (qal 0 rfl rfl rfl) rfl ?_ ?_ ?_); rfl; rfl) | (refine l_lss ?_; (refine qac (OpW.lssF rfl rfl (by omega)) rfl ?_ ?_ ?_); rfl; rfl) | (refine qas ?_; first | ((first | refine qag 0 ?_ rfl rfl rfl rfl rfl rfl ?_ | refine qag 1 ?_ rfl rfl rfl rfl rfl rfl ?_ | refine qag 2 ?_ rfl rfl rfl rfl rfl rfl ?_); rfl; simp only [List.set_cons_zero, List.set_cons_succ]) | ((first | refine qaa 0 ?_ rfl rfl rfl rfl rfl rfl rfl ?_ | refine qaa 1 ?_ rfl rfl rfl rfl rfl rfl rfl ?_ | refine qaa 2 ?_ rfl rfl rfl rfl rfl rfl rfl ?_); rfl; simp only [List.set_cons_zero, List.set_cons_succ]) | ((first | refine qab 0 ?_ rfl rfl rfl rfl rfl rfl rfl ?_ | refine qab 1 ?_ rfl rfl rfl rfl rfl rfl rfl ?_ | refine qab 2 ?_ rfl rfl rfl rfl rfl rfl rfl ?_); rfl; simp only [over, List.set_cons_zero, List.set_cons_succ])) | refine qaz ?_ | refine SX.exit ?_ | refine qaO ?_ | refine qaK ?_)
    refine qaJ 1 rfl rfl rfl rfl (fun w' hl => ⟨q, rfl, (show bare q.ps = l by rw [hq, hk', List.take_length]), hl.owns, hl.mod⟩)
  obtain ⟨b1, o1, x, r1, rfl, hR1, hb1, hxk, hr1, hl1, hc1⟩ := h.get hlt
  obtain ⟨ka, kc, ra, rc, rfl, hk1, ht1, _⟩ := hr1
  have hf := hfit x (List.mem_of_getElem? hxk.out)
  obtain ⟨hf1, hf2⟩ := hf
  repeat (first | refine qan ?_ | refine qaj ?_ | refine qaf ?_ | refine qad ?_ | refine SX.block ?_ | refine qaC ?_ | refine qaq rfl ?_ | (refine qaw ?_; (first | refine qac (qaT rfl hc1 (nodeRow_len _ _ _ _ _ _ _ _ _) (Nat.succ_pos _) (fun h => h)) rfl ?_ ?_ ?_ | refine qac (qav 0 rfl rfl rfl) rfl ?_ ?_ ?_); rfl; rfl) | (refine qai ?_; (refine qac (qae rfl) rfl ?_ ?_ ?_); rfl; rfl) | (refine l_lss ?_; (refine qac (OpW.lssT rfl rfl (by omega)) rfl ?_ ?_ ?_); rfl; rfl) | (refine qaI ?_; (refine qac (qaF (by omega) rfl rfl) rfl ?_ ?_ ?_); rfl; rfl) | (refine qaH ?_; refine SXl.alloc ?_ ?_ (fun g => ?_); rfl; rfl) | (refine qas ?_; first | ((first | refine qag 0 ?_ rfl rfl rfl rfl rfl rfl ?_ | refine qag 1 ?_ rfl rfl rfl rfl rfl rfl ?_ | refine qag 2 ?_ rfl rfl rfl rfl rfl rfl ?_); rfl; simp only [List.set_cons_zero, List.set_cons_succ]) | ((first | refine qaa 0 ?_ rfl rfl rfl rfl rfl rfl rfl ?_ | refine qaa 1 ?_ rfl rfl rfl rfl rfl rfl rfl ?_ | refine qaa 2 ?_ rfl rfl rfl rfl rfl rfl rfl ?_); rfl; simp only [List.set_cons_zero, List.set_cons_succ]) | ((first | refine qab 0 ?_ rfl rfl rfl rfl rfl rfl rfl ?_ | refine qab 1 ?_ rfl rfl rfl rfl rfl rfl rfl ?_ | refine qab 2 ?_ rfl rfl rfl rfl rfl rfl rfl ?_); rfl; simp only [over, List.set_cons_zero, List.set_cons_succ])))
  refine qau ?_
  refine SXl.callO rfl rfl rfl (fun w' hl => copyInts_any x.kids ka _ kc _ w' rfl (by omega) (SliceAt.flatKeep hk1 hl.mod)) (fun q1 _ => ?_)
  repeat (first | refine qan ?_ | refine qaj ?_ | refine qaf ?_ | refine qad ?_ | (refine qaw ?_; (refine qac (qaE 0 rfl rfl rfl rfl) rfl ?_ ?_ ?_); rfl; rfl) | (refine qai ?_; (refine qac (qae rfl) rfl ?_ ?_ ?_); rfl; rfl) | (refine qas ?_; first | ((first | refine qag 0 ?_ rfl rfl rfl rfl rfl rfl ?_ | refine qag 1 ?_ rfl rfl rfl rfl rfl rfl ?_ | refine qag 2 ?_ rfl rfl rfl rfl rfl rfl ?_); rfl; simp only [List.set_cons_zero, List.set_cons_succ]) | ((first | refine qaa 0 ?_ rfl rfl rfl rfl rfl rfl rfl ?_ | refine qaa 1 ?_ rfl rfl rfl rfl rfl rfl rfl ?_ | refine qaa 2 ?_ rfl rfl rfl rfl rfl rfl rfl ?_); rfl; simp only [List.set_cons_zero, List.set_cons_succ]) | ((first | refine qab 0 ?_ rfl rfl rfl rfl rfl rfl rfl ?_ | refine qab 1 ?_ rfl rfl rfl rfl rfl rfl rfl ?_ | refine qab 2 ?_ rfl rfl rfl rfl rfl rfl rfl ?_); rfl; simp only [over, List.set_cons_zero, List.set_cons_succ])))
  refine qau ?_
  refine SXl.callO rfl rfl rfl (fun w' hl => copyTable_any x.rules ra rc _ w' (by omega) (SliceAt.flatKeep ht1 hl.mod)) (fun q2 _ => ?_)
  repeat (first | refine qaj ?_ | refine qaf ?_ | refine qad ?_ | (refine qaw ?_; (first | refine qac (qav 1 rfl rfl rfl) rfl ?_ ?_ ?_ | refine qac (qal 0 rfl rfl rfl) rfl ?_ ?_ ?_); rfl; rfl) | (refine qai ?_; (refine qac (qae rfl) rfl ?_ ?_ ?_); rfl; rfl) | (refine qas ?_; first | ((first | refine qag 0 ?_ rfl rfl rfl rfl rfl rfl ?_ | refine qag 1 ?_ rfl rfl rfl rfl rfl rfl ?_ | refine qag 2 ?_ rfl rfl rfl rfl rfl rfl ?_); rfl; simp only [List.set_cons_zero, List.set_cons_succ]) | ((first | refine qaa 0 ?_ rfl rfl rfl rfl rfl rfl rfl ?_ | refine qaa 1 ?_ rfl rfl rfl rfl rfl rfl rfl ?_ | refine qaa 2 ?_ rfl rfl rfl rfl rfl rfl rfl ?_); rfl; simp only [List.set_cons_zero, List.set_cons_succ]) | ((first | refine qab 0 ?_ rfl rfl rfl rfl rfl rfl rfl ?_ | refine qab 1 ?_ rfl rfl rfl rfl rfl rfl rfl ?_ | refine qab 2 ?_ rfl rfl rfl rfl rfl rfl rfl ?_); rfl; simp only [over, List.set_cons_zero, List.set_cons_succ])))
  refine qaR ?_
  refine SXl.litRow1 (sz := 64) (r := rowP (x, ⟨q1.1, q1.2, q2.1, q2.2⟩)) rfl rfl rfl rfl rfl (by decide) (by decide) (fun g5 => ?_)
  skip
  refine l_append ?_
  refine SXl.append 2 0 rfl rfl rfl rfl rfl rfl rfl (rowP_ones _) (by omega) (by omega) (fun a3 c3 => ?_)
  repeat (first | refine qaj ?_ | refine qaf ?_ | refine qad ?_ | (refine qai ?_; (refine qac (qae rfl) rfl ?_ ?_ ?_); rfl; rfl) | (refine qap ?_; (refine qac (qak rfl) rfl ?_ ?_ ?_); rfl; rfl) | (refine l_add ?_; (refine qac (OpW.succ rfl rfl (by omega)) rfl ?_ ?_ ?_); rfl; rfl) | (refine qas ?_; first | ((first | refine qag 0 ?_ rfl rfl rfl rfl rfl rfl ?_ | refine qag 1 ?_ rfl rfl rfl rfl rfl rfl ?_ | refine qag 2 ?_ rfl rfl rfl rfl rfl rfl ?_); rfl; simp only [List.set_cons_zero, List.set_cons_succ]) | ((first | refine qaa 0 ?_ rfl rfl rfl rfl rfl rfl rfl ?_ | refine qaa 1 ?_ rfl rfl rfl rfl rfl rfl rfl ?_ | refine qaa 2 ?_ rfl rfl rfl rfl rfl rfl rfl ?_); rfl; simp only [List.set_cons_zero, List.set_cons_succ]) | ((first | refine qab 0 ?_ rfl rfl rfl rfl rfl rfl rfl ?_ | refine qab 1 ?_ rfl rfl rfl rfl rfl rfl rfl ?_ | refine qab 2 ?_ rfl rfl rfl rfl rfl rfl rfl ?_); rfl; simp only [over, List.set_cons_zero, List.set_cons_succ])) | refine qar ?_)
  refine SQ.round3 (k + 1) ⟨q.ps ++ [(x, ⟨q1.1, q1.2, q2.1, q2.2⟩)], a3, c3⟩ () ⟨by omega, ?_⟩ (by omega) ?_ (fun w hl => by
    show Loc _ _ (⟨_, [.slice a3 (q.ps ++ [_]).length c3], _⟩ :: _) _ _ _
    rw [List.length_append]
    exact hl.drop2.treePush)
  · show bare (q.ps ++ [(x, _)]) = _
    rw [List.take_add_one, hxk.out, bare, List.map_append, ← hq]; rfl
  · (repeat (first | exact subF_nil _ | (refine subF_cons rfl ?_) | (refine subF_consv rfl (by rw [List.length_append]; rfl) ?_)))
end Go.Proofs.Ythffgbhphjkdeaa
namespace Go.Proofs.Ythffgbhphjkdeaa
open Go.RowKit
set_option linter.unusedVariables false
set_option linter.unusedSimpArgs false

end Go.Proofs.Ythffgbhphjkdeaa
namespace Go.Proofs.Ythffgbhphjkdeaa
open Go.RowKit
set_option linter.unusedVariables false
set_option linter.unusedSimpArgs false

set_option maxRecDepth 100000 in
set_option maxHeartbeats 8000000 in
theorem addNode_any (l : List Node) (s : Style) (o : Bool) (a : Option Addr) (c : Nat) (R : Nat → Prop) (w : World) (hlen : l.length ≤ 1048576) (hfit : ∀ x ∈ l, x.fits 1048576) (h : NodeSlice o R w a l) :
    Calls Try.prog 24 #[.agg #[.slice a l.length c], .agg s.cells.toArray] w (NewTreeC (addNode l s) w) := by
  have hT := fun w' (hm : Mod (fun _ => False) w w') => treeOk_any l o a c R w' hlen hfit (h.keep hm)
  have hS := fun w => styleC_any s w
  refine calls_sx Try.func24 rfl rfl (fun a h1 h2 h3 => ((Fr.nil h1 h2).arg (h3 1 _ rfl)).arg (h3 0 _ rfl)) ?_
  repeat (first | refine qan ?_ | refine qaj ?_ | refine qaf ?_ | refine qad ?_ | (refine qaw ?_; (refine qac (qal 2 rfl rfl rfl) rfl ?_ ?_ ?_); rfl; rfl) | (refine qam ?_; (refine qac (qah rfl) rfl ?_ ?_ ?_); rfl; rfl) | (refine qaH ?_; refine SXl.alloc ?_ ?_ (fun g => ?_); rfl; rfl) | (refine l_box ?_; refine qaM ?_ ?_ rfl rfl (fun g => ?_); rfl; rfl))
  refine qau ?_
  refine SXl.callO rfl rfl rfl (fun w' hl => copyTree_any l o a c R w' hlen hfit (h.keep hl.mod)) (fun q hq => ?_)
  have hql := TreeQ.len hq
  rw [List.append_nil]
  cases hv : treeOk l
  · have e : addNode l s = (l, 0) := by simp [addNode, hv]
    rw [e]
    rw [hv] at hT
    repeat (first | refine qan ?_ | refine qaj ?_ | refine qaf ?_ | refine qad ?_ | refine qaq rfl ?_ | (refine qaS rfl rfl rfl ?_) | (refine qau ?_; (refine qac (qao rfl (fun w hl => hT _ hl.mod)) rfl ?_ ?_ ?_); rfl; rfl) | (refine qaw ?_; (first | refine qac (qal 0 rfl rfl rfl) rfl ?_ ?_ ?_ | refine qac (qal 3 rfl rfl rfl) rfl ?_ ?_ ?_); rfl; rfl) | (refine qap ?_; (refine qac (qak rfl) rfl ?_ ?_ ?_); rfl; rfl) | (refine qam ?_; (refine qac (qah rfl) rfl ?_ ?_ ?_); rfl; rfl) | (refine l_not ?_; (refine qac (OpW.not rfl) rfl ?_ ?_ ?_); rfl; rfl) | (refine qaG ?_; (refine qac (qay rfl rfl rfl) rfl ?_ ?_ ?_); rfl; rfl) | (refine qaH ?_; refine SXl.alloc ?_ ?_ (fun g => ?_); rfl; rfl) | (refine qas ?_; first | ((first | refine qag 0 ?_ rfl rfl rfl rfl rfl rfl ?_ | refine qag 1 ?_ rfl rfl rfl rfl rfl rfl ?_ | refine qag 2 ?_ rfl rfl rfl rfl rfl rfl ?_); rfl; simp only [List.set_cons_zero, List.set_cons_succ]) | ((first | refine qaa 0 ?_ rfl rfl rfl rfl rfl rfl rfl ?_ | refine qaa 1 ?_ rfl rfl rfl rfl rfl rfl rfl ?_ | refine qaa 2 ?_ rfl rfl rfl rfl rfl rfl rfl ?_); rfl; simp only [List.set_cons_zero, List.set_cons_succ]) | ((first | refine qab 0 ?_ rfl rfl rfl rfl rfl rfl rfl ?_ | refine qab 1 ?_ rfl rfl rfl rfl rfl rfl rfl ?_ | refine qab 2 ?_ rfl rfl rfl rfl rfl rfl rfl ?_); rfl; simp only [over, List.set_cons_zero, List.set_cons_succ])) | refine qaz ?_ | refine qax ?_)
    refine qaL 1 rfl rfl rfl rfl rfl (fun w' hl => ⟨q, rfl, hq, hl.owns, hl.mod⟩)
  cases hs : styleOk s
  · have e : addNode l s = (l, 0) := by simp [addNode, hs]
    rw [e]
    rw [hv] at hT
    rw [hs] at hS
    repeat (first | refine qan ?_ | refine qaj ?_ | refine qaf ?_ | refine qad ?_ | refine qaq rfl ?_ | (refine qaS rfl rfl rfl ?_) | (refine qau ?_; (first | refine qac (qao rfl (fun w hl => hT _ hl.mod)) rfl ?_ ?_ ?_ | refine qac (qao rfl (fun w hl => hS _)) rfl ?_ ?_ ?_); rfl; rfl) | (refine qaw ?_; (first | refine qac (qal 0 rfl rfl rfl) rfl ?_ ?_ ?_ | refine qac (qal 2 rfl rfl rfl) rfl ?_ ?_ ?_ | refine qac (qal 3 rfl rfl rfl) rfl ?_ ?_ ?_); rfl; rfl) | (refine qap ?_; (refine qac (qak rfl) rfl ?_ ?_ ?_); rfl; rfl) | (refine qam ?_; (refine qac (qah rfl) rfl ?_ ?_ ?_); rfl; rfl) | (refine l_not ?_; (refine qac (OpW.not rfl) rfl ?_ ?_ ?_); rfl; rfl) | (refine qaG ?_; (refine qac (qay rfl rfl rfl) rfl ?_ ?_ ?_); rfl; rfl) | (refine qaH ?_; refine SXl.alloc ?_ ?_ (fun g => ?_); rfl; rfl) | (refine qas ?_; first | ((first | refine qag 0 ?_ rfl rfl rfl rfl rfl rfl ?_ | refine qag 1 ?_ rfl rfl rfl rfl rfl rfl ?_ | refine qag 2 ?_ rfl rfl rfl rfl rfl rfl ?_); rfl; simp only [List.set_cons_zero, List.set_cons_succ]) | ((first | refine qaa 0 ?_ rfl rfl rfl rfl rfl rfl rfl ?_ | refine qaa 1 ?_ rfl rfl rfl rfl rfl rfl rfl ?_ | refine qaa 2 ?_ rfl rfl rfl rfl rfl rfl rfl ?_); rfl; simp only [List.set_cons_zero, List.set_cons_succ]) | ((first | refine qab 0 ?_ rfl rfl rfl rfl rfl rfl rfl ?_ | refine qab 1 ?_ rfl rfl rfl rfl rfl rfl rfl ?_ | refine qab 2 ?_ rfl rfl rfl rfl rfl rfl rfl ?_); rfl; simp only [over, List.set_cons_zero, List.set_cons_succ])) | refine qaz ?_ | refine qax ?_)
    refine qaL 1 rfl rfl rfl rfl rfl (fun w' hl => ⟨q, rfl, hq, hl.owns, hl.mod⟩)
  rw [hv] at hT
  rw [hs] at hS
  by_cases hn : l.length < 12
  rotate_left
  · have e : addNode l s = (l, 0) := by simp [addNode, hn]
    rw [e]
    repeat (first | refine qan ?_ | refine qaj ?_ | refine qaf ?_ | refine qad ?_ | refine qaq rfl ?_ | (refine qau ?_; (first | refine qac (qao rfl (fun w hl => hT _ hl.mod)) rfl ?_ ?_ ?_ | refine qac (qao rfl (fun w hl => hS _)) rfl ?_ ?_ ?_); rfl; rfl) | (refine qaw ?_; (first | refine qac (qav 3 rfl rfl rfl) rfl ?_ ?_ ?_ | refine qac (qal 0 rfl rfl rfl) rfl ?_ ?_ ?_ | refine qac (qal 2 rfl rfl rfl) rfl ?_ ?_ ?_ | refine qac (qal 3 rfl rfl rfl) rfl ?_ ?_ ?_); rfl; rfl) | (refine qai ?_; (refine qac (qae rfl) rfl ?_ ?_ ?_); rfl; rfl) | (refine qap ?_; (refine qac (qak rfl) rfl ?_ ?_ ?_); rfl; rfl) | (refine qam ?_; (refine qac (qah rfl) rfl ?_ ?_ ?_); rfl; rfl) | (refine l_len ?_; (refine qac (OpW.len rfl) rfl ?_ ?_ ?_); rfl; rfl) | (refine l_geq ?_; (refine qac (OpW.geqT rfl rfl (by omega)) rfl ?_ ?_ ?_); rfl; rfl) | (refine l_not ?_; (refine qac (OpW.not rfl) rfl ?_ ?_ ?_); rfl; rfl) | (refine qaG ?_; (refine qac (qay rfl rfl rfl) rfl ?_ ?_ ?_); rfl; rfl) | (refine qaH ?_; refine SXl.alloc ?_ ?_ (fun g => ?_); rfl; rfl) | (refine qas ?_; first | ((first | refine qag 0 ?_ rfl rfl rfl rfl rfl rfl ?_ | refine qag 1 ?_ rfl rfl rfl rfl rfl rfl ?_ | refine qag 2 ?_ rfl rfl rfl rfl rfl rfl ?_); rfl; simp only [List.set_cons_zero, List.set_cons_succ]) | ((first | refine qaa 0 ?_ rfl rfl rfl rfl rfl rfl rfl ?_ | refine qaa 1 ?_ rfl rfl rfl rfl rfl rfl rfl ?_ | refine qaa 2 ?_ rfl rfl rfl rfl rfl rfl rfl ?_); rfl; simp only [List.set_cons_zero, List.set_cons_succ]) | ((first | refine qab 0 ?_ rfl rfl rfl rfl rfl rfl rfl ?_ | refine qab 1 ?_ rfl rfl rfl rfl rfl rfl rfl ?_ | refine qab 2 ?_ rfl rfl rfl rfl rfl rfl rfl ?_); rfl; simp only [over, List.set_cons_zero, List.set_cons_succ])) | refine qaz ?_ | refine qax ?_)
    refine qaL 1 rfl rfl rfl rfl rfl (fun w' hl => ⟨q, rfl, hq, hl.owns, hl.mod⟩)
  have e : addNode l s = (l ++ [⟨0, [], s, false, []⟩], (l.length : Int) + 1) := by simp [addNode, hv, hs, hn]
  rw [e]
  repeat (first | refine qan ?_ | refine qaj ?_ | refine qaf ?_ | refine qad ?_ | refine qaC ?_ | refine qat rfl ?_ | (refine qau ?_; (first | refine qac (qao rfl (fun w hl => hT _ hl.mod)) rfl ?_ ?_ ?_ | refine qac (qao rfl (fun w hl => hS _)) rfl ?_ ?_ ?_); rfl; rfl) | (refine l_build ?_; (refine qac ((OpW.build (vals := [(2, .agg s.cells.toArray)]) (cells := rowP (⟨0, [], s, false, []⟩, ⟨none, 0, none, 0⟩)) rfl (by kernel_rfl))) rfl ?_ ?_ ?_); rfl; rfl) | (refine qaw ?_; (first | refine qac (qav 0 rfl rfl rfl) rfl ?_ ?_ ?_ | refine qac (qav 3 rfl rfl rfl) rfl ?_ ?_ ?_ | refine qac (qal 2 rfl rfl rfl) rfl ?_ ?_ ?_ | refine qac (qal 3 rfl rfl rfl) rfl ?_ ?_ ?_); rfl; rfl) | (refine qai ?_; (refine qac (qae rfl) rfl ?_ ?_ ?_); rfl; rfl) | (refine qap ?_; (refine qac (qak rfl) rfl ?_ ?_ ?_); rfl; rfl) | (refine l_len ?_; (refine qac (OpW.len rfl) rfl ?_ ?_ ?_); rfl; rfl) | (refine l_geq ?_; (refine qac (OpW.geqF rfl rfl (by omega)) rfl ?_ ?_ ?_); rfl; rfl) | (refine l_not ?_; (refine qac (OpW.not rfl) rfl ?_ ?_ ?_); rfl; rfl) | (refine qaG ?_; (refine qac (qay rfl rfl rfl) rfl ?_ ?_ ?_); rfl; rfl) | (refine qaH ?_; refine SXl.alloc ?_ ?_ (fun g => ?_); rfl; rfl) | (refine qas ?_; first | ((first | refine qag 0 ?_ rfl rfl rfl rfl rfl rfl ?_ | refine qag 1 ?_ rfl rfl rfl rfl rfl rfl ?_ | refine qag 2 ?_ rfl rfl rfl rfl rfl rfl ?_); rfl; simp only [List.set_cons_zero, List.set_cons_succ]) | ((first | refine qaa 0 ?_ rfl rfl rfl rfl rfl rfl rfl ?_ | refine qaa 1 ?_ rfl rfl rfl rfl rfl rfl rfl ?_ | refine qaa 2 ?_ rfl rfl rfl rfl rfl rfl rfl ?_); rfl; simp only [List.set_cons_zero, List.set_cons_succ]) | ((first | refine qab 0 ?_ rfl rfl rfl rfl rfl rfl rfl ?_ | refine qab 1 ?_ rfl rfl rfl rfl rfl rfl rfl ?_ | refine qab 2 ?_ rfl rfl rfl rfl rfl rfl rfl ?_); rfl; simp only [over, List.set_cons_zero, List.set_cons_succ])))
  refine qaR ?_
  refine SXl.litRow1 (sz := 64) (r := rowP (⟨0, [], s, false, []⟩, ⟨none, 0, none, 0⟩)) rfl rfl rfl rfl rfl (by decide) (by decide) (fun g5 => ?_)
  skip
  refine l_append ?_
  refine SXl.append 0 0 rfl rfl rfl rfl rfl rfl rfl (rowP_ones _) (by omega) (by omega) (fun a3 c3 => ?_)
  repeat (first | refine qan ?_ | refine qaj ?_ | refine qad ?_ | (refine qai ?_; (refine qac (qae rfl) rfl ?_ ?_ ?_); rfl; rfl) | (refine qas ?_; first | ((first | refine qag 0 ?_ rfl rfl rfl rfl rfl rfl ?_ | refine qag 1 ?_ rfl rfl rfl rfl rfl rfl ?_ | refine qag 2 ?_ rfl rfl rfl rfl rfl rfl ?_); rfl; simp only [List.set_cons_zero, List.set_cons_succ]) | ((first | refine qaa 0 ?_ rfl rfl rfl rfl rfl rfl rfl ?_ | refine qaa 1 ?_ rfl rfl rfl rfl rfl rfl rfl ?_ | refine qaa 2 ?_ rfl rfl rfl rfl rfl rfl rfl ?_); rfl; simp only [List.set_cons_zero, List.set_cons_succ]) | ((first | refine qab 0 ?_ rfl rfl rfl rfl rfl rfl rfl ?_ | refine qab 1 ?_ rfl rfl rfl rfl rfl rfl rfl ?_ | refine qab 2 ?_ rfl rfl rfl rfl rfl rfl rfl ?_); rfl; simp only [over, List.set_cons_zero, List.set_cons_succ])))
  refine SX.drawnP 2 [.slice a3 (q.ps.length + 1) c3] rfl rfl (by kernel_rfl) (by kernel_rfl) (fun hf => ?_)
  repeat (first | (refine SXp.storeRow hf rfl rfl rfl rfl rfl rfl rfl ?_) | (refine SXp.v (qav 1 rfl rfl rfl) rfl rfl rfl ?_) | (refine SXp.v (qal 1 rfl rfl rfl) rfl rfl rfl ?_) | (refine SXp.v (qae rfl) rfl rfl rfl ?_) | (refine SXp.v (qah rfl) rfl rfl rfl ?_) | (refine SXp.v (OpW.len rfl) rfl rfl rfl ?_))
  refine SXp.nil 4 hf (.head _) ?_
  repeat (first | refine qad ?_ | refine qaz ?_)
  refine qaL 0 rfl rfl rfl rfl rfl (fun w' hl => ⟨⟨q.ps ++ [(⟨0, [], s, false, []⟩, ⟨none, 0, none, 0⟩)], a3, c3⟩, ?_, ?_, ?_, hl.mod⟩)
  · show _ = Ending.returned (.tuple #[.agg [.slice a3 (q.ps ++ [_]).length c3].toArray, _])
    rw [List.length_append, hql]; rfl
  · show bare (q.ps ++ [_]) = _
    rw [bare, List.map_append, ← hq]; rfl
  · exact (((hl.ownNil 3 1).ownNil 152 3).treePush (x := (⟨0, [], s, false, []⟩, ⟨none, 0, none, 0⟩))).owns
end Go.Proofs.Ythffgbhphjkdeaa
namespace Go.Proofs.Ythffgbhphjkdeaa
open Go.RowKit
set_option linter.unusedVariables false
set_option linter.unusedSimpArgs false

/-- The first j children, but one. -/
def restTo (kids : List Int) (kid : Int) (j : Nat) : List Int := (kids.take j).filter fun k => decide (k ≠ kid)
theorem restTo_succ {kids : List Int} {kid y : Int} {j : Nat} (h : kids[j]? = some y) : restTo kids kid (j + 1) = if y = kid then restTo kids kid j else restTo kids kid j ++ [y] := by
  unfold restTo
  rw [List.take_add_one, h, List.filter_append]
  by_cases e : y = kid
  · rw [if_pos e]; simp [e]
  · rw [if_neg e]; simp [e]
theorem restTo_len (kids : List Int) (kid : Int) (j : Nat) : (restTo kids kid j).length ≤ kids.length := Nat.le_trans (List.length_filter_le _ _) (by simp; omega)
theorem kids_push (l : List Int) (y : Int) (a : Option Addr) (c : Nat) : (⟨.slice a (l.length + 1) c, 3, 1, l.length + 1, (l.map icell).flatten ++ [.int .i64 y]⟩ : Own) = intsO (l ++ [y]) (a, c) := by
  unfold intsO
  rw [List.length_append, List.map_append, List.flatten_append]
  rfl
set_option maxRecDepth 100000 in
set_option maxHeartbeats 4000000 in
theorem hasKid_any (l : List Int) (n : Int) (a : Option Addr) (c : Nat) (R : Nat → Prop) (w : World) (hlen : l.length ≤ 1048576) (h : IntSlice R w a l) :
    Calls Try.prog 89 #[.slice a l.length c, .int .i64 n] w fun e w' => e = .returned (.bool (decide (n ∈ l))) ∧ Mod (fun _ => False) w w' := by
  refine calls_sx Try.func89 rfl rfl (fun a h1 h2 h3 => ((Fr.nil h1 h2).arg (h3 1 _ rfl)).arg (h3 0 _ rfl)) ?_
  repeat (first | refine qan ?_ | refine qaj ?_ | refine qaf ?_ | refine qad ?_ | refine SX.block ?_ | (refine qap ?_; (refine qac (qak rfl) rfl ?_ ?_ ?_); rfl; rfl) | (refine qam ?_; (refine qac (qah rfl) rfl ?_ ?_ ?_); rfl; rfl) | (refine l_len ?_; (refine qac (OpW.len rfl) rfl ?_ ?_ ?_); rfl; rfl))
  refine SX.loopi (fun k : Nat => k ≤ l.length ∧ n ∉ l.take k) (fun k => l.length - k) (fun _ => []) (fun _ => []) (fun _ => []) (fun k => [(1, .int .i64 n), (7, .slice a l.length c), (8, .int .i64 l.length), (9, .int .i64 k)]) 0 ⟨Nat.zero_le _, by simp⟩ ?_ (fun _ hl => hl) ?_
  · (repeat (first | exact subF_nil _ | (refine subF_cons rfl ?_) | (refine subF_consv rfl (by rfl) ?_)))
  rintro k ⟨hk, hn⟩
  by_cases hlt : k < l.length
  rotate_left
  · have hd : decide (n ∈ l) = false := by
      rw [List.take_of_length_le (by omega)] at hn
      exact decide_eq_false hn
    repeat (first | refine qan ?_ | refine qaj ?_ | refine qaf ?_ | refine qad ?_ | refine qat rfl ?_ | (refine qam ?_; (refine qac (qah rfl) rfl ?_ ?_ ?_); rfl; rfl) | (refine l_lss ?_; (refine qac (OpW.lssF rfl rfl (by omega)) rfl ?_ ?_ ?_); rfl; rfl) | refine qaz ?_ | refine SX.exit ?_ | refine qaO ?_ | refine qaK ?_)
    refine qaA rfl rfl (fun w' hl => ⟨by rw [hd], hl.mod⟩)
  obtain ⟨b1, o1, y, rfl, _, _, hyk, hc1⟩ := IntSlice.get h hlt
  replace hyk := hyk.out
  by_cases e : y = n
  · have hd : decide (n ∈ l) = true := decide_eq_true (e ▸ List.mem_of_getElem? hyk)
    repeat (first | refine qan ?_ | refine qaj ?_ | refine qaf ?_ | refine qad ?_ | refine SX.block ?_ | refine qaC ?_ | refine qaq rfl ?_ | (refine qaw ?_; (refine qac (OpW.loadOld rfl (by assumption) (fun h => h)) rfl ?_ ?_ ?_); rfl; rfl) | (refine qap ?_; (refine qac (qak rfl) rfl ?_ ?_ ?_); rfl; rfl) | (refine qam ?_; (refine qac (qah rfl) rfl ?_ ?_ ?_); rfl; rfl) | (refine l_eql ?_; (refine qac (qaQ rfl rfl (by omega)) rfl ?_ ?_ ?_); rfl; rfl) | (refine l_lss ?_; (refine qac (OpW.lssT rfl rfl (by omega)) rfl ?_ ?_ ?_); rfl; rfl) | (refine qaI ?_; (refine qac (OpW.indexAddr1 (by omega) rfl rfl) rfl ?_ ?_ ?_); rfl; rfl) | refine qaz ?_ | refine qax ?_ | refine qaD ?_)
    refine qaA rfl rfl (fun w' hl => ⟨by rw [hd], hl.mod⟩)
  · repeat (first | refine qan ?_ | refine qaj ?_ | refine qaf ?_ | refine qad ?_ | refine SX.block ?_ | refine qaC ?_ | refine qaq rfl ?_ | refine qat rfl ?_ | (refine qaw ?_; (refine qac (OpW.loadOld rfl (by assumption) (fun h => h)) rfl ?_ ?_ ?_); rfl; rfl) | (refine qap ?_; (refine qac (qak rfl) rfl ?_ ?_ ?_); rfl; rfl) | (refine qam ?_; (refine qac (qah rfl) rfl ?_ ?_ ?_); rfl; rfl) | (refine l_add ?_; (refine qac (OpW.succ rfl rfl (by omega)) rfl ?_ ?_ ?_); rfl; rfl) | (refine l_eql ?_; (refine qac (qaP rfl rfl (by omega)) rfl ?_ ?_ ?_); rfl; rfl) | (refine l_lss ?_; (refine qac (OpW.lssT rfl rfl (by omega)) rfl ?_ ?_ ?_); rfl; rfl) | (refine qaI ?_; (refine qac (OpW.indexAddr1 (by omega) rfl rfl) rfl ?_ ?_ ?_); rfl; rfl) | refine qar ?_)
    refine SQ.roundi (k + 1) ⟨by omega, ?_⟩ (by omega) ?_ (fun _ hl => hl)
    · rw [List.take_add_one, hyk]
      simp only [Option.toList, List.mem_append, List.mem_singleton, not_or]
      exact ⟨hn, fun h => e h.symm⟩
    · (repeat (first | exact subF_nil _ | (refine subF_cons rfl ?_) | (refine subF_consv rfl (by rfl) ?_)))

set_option maxRecDepth 100000 in
set_option maxHeartbeats 16000000 in
theorem removeKid_any (l : List Node) (n kid : Int) (o : Bool) (a : Option Addr) (c : Nat) (R : Nat → Prop) (w : World) (hlen : l.length ≤ 1048576) (hfit : ∀ x ∈ l, x.fits 1048576) (h : NodeSlice o R w a l) :
    Calls Try.prog 26 #[.agg #[.slice a l.length c], .int .i64 n, .int .i64 kid] w (NewTreeC (removeKid l n kid) w) := by
  have hT := fun w' (hm : Mod (fun _ => False) w w') => treeOk_any l o a c R w' hlen hfit (h.keep hm)
  refine calls_sx Try.func26 rfl rfl (fun a h1 h2 h3 => (((Fr.nil h1 h2).arg (h3 2 _ rfl)).arg (h3 1 _ rfl)).arg (h3 0 _ rfl)) ?_
  repeat (first | refine qan ?_ | refine qaj ?_ | refine qaf ?_ | refine qad ?_ | (refine qaw ?_; (refine qac (qal 1 rfl rfl rfl) rfl ?_ ?_ ?_); rfl; rfl) | (refine qam ?_; (refine qac (qah rfl) rfl ?_ ?_ ?_); rfl; rfl) | (refine qaH ?_; refine SXl.alloc ?_ ?_ (fun g => ?_); rfl; rfl) | (refine l_box ?_; refine qaM ?_ ?_ rfl rfl (fun g => ?_); rfl; rfl))
  rename_i g8
  revert g; intro g9
  refine qau ?_
  refine SXl.callO rfl rfl rfl (fun w' hl => copyTree_any l o a c R w' hlen hfit (h.keep hl.mod)) (fun q hq => ?_)
  have hql := TreeQ.len hq
  rw [List.append_nil]
  cases hv : treeOk l
  · have e : removeKid l n kid = (l, 1) := by simp [removeKid, hv]
    rw [e]
    rw [hv] at hT
    repeat (first | refine qan ?_ | refine qaj ?_ | refine qaf ?_ | refine qad ?_ | refine SX.block ?_ | refine qaq rfl ?_ | (refine qaS rfl rfl rfl ?_) | (refine qau ?_; (refine qac (qao rfl (fun w hl => hT _ hl.mod)) rfl ?_ ?_ ?_); rfl; rfl) | (refine qaw ?_; (first | refine qac (qal 0 rfl rfl rfl) rfl ?_ ?_ ?_ | refine qac (qal 2 rfl rfl rfl) rfl ?_ ?_ ?_); rfl; rfl) | (refine qap ?_; (refine qac (qak rfl) rfl ?_ ?_ ?_); rfl; rfl) | (refine qam ?_; (refine qac (qah rfl) rfl ?_ ?_ ?_); rfl; rfl) | (refine l_not ?_; (refine qac (OpW.not rfl) rfl ?_ ?_ ?_); rfl; rfl) | (refine qaG ?_; (refine qac (qay rfl rfl rfl) rfl ?_ ?_ ?_); rfl; rfl) | (refine qaH ?_; refine SXl.alloc ?_ ?_ (fun g => ?_); rfl; rfl) | (refine qas ?_; first | ((first | refine qag 0 ?_ rfl rfl rfl rfl rfl rfl ?_ | refine qag 1 ?_ rfl rfl rfl rfl rfl rfl ?_ | refine qag 2 ?_ rfl rfl rfl rfl rfl rfl ?_); rfl; simp only [List.set_cons_zero, List.set_cons_succ]) | ((first | refine qaa 0 ?_ rfl rfl rfl rfl rfl rfl rfl ?_ | refine qaa 1 ?_ rfl rfl rfl rfl rfl rfl rfl ?_ | refine qaa 2 ?_ rfl rfl rfl rfl rfl rfl rfl ?_); rfl; simp only [List.set_cons_zero, List.set_cons_succ]) | ((first | refine qab 0 ?_ rfl rfl rfl rfl rfl rfl rfl ?_ | refine qab 1 ?_ rfl rfl rfl rfl rfl rfl rfl ?_ | refine qab 2 ?_ rfl rfl rfl rfl rfl rfl rfl ?_); rfl; simp only [over, List.set_cons_zero, List.set_cons_succ])) | refine qaz ?_ | refine qax ?_ | refine qaD ?_)
    refine qaL 1 rfl rfl rfl rfl rfl (fun w' hl => ⟨q, rfl, hq, hl.owns, hl.mod⟩)
  rw [hv] at hT
  cases hn : inB n 1 l.length
  · have e : removeKid l n kid = (l, 1) := by simp [removeKid, hn]
    rw [e]
    repeat (first | refine qan ?_ | refine qaj ?_ | refine qaf ?_ | refine qad ?_ | refine SX.block ?_ | refine qaq rfl ?_ | (refine qaS rfl rfl rfl ?_) | (refine qau ?_; (first | refine qac (qao rfl (fun w hl => hT _ hl.mod)) rfl ?_ ?_ ?_ | refine qac (qao (args := [.agg #[.slice a l.length c], .int .i64 n]) rfl (fun w hl => isNode_any _ _ _ _ _)) rfl ?_ ?_ ?_); rfl; rfl) | (refine qaw ?_; (first | refine qac (qal 0 rfl rfl rfl) rfl ?_ ?_ ?_ | refine qac (qal 2 rfl rfl rfl) rfl ?_ ?_ ?_); rfl; rfl) | (refine qap ?_; (refine qac (qak rfl) rfl ?_ ?_ ?_); rfl; rfl) | (refine qam ?_; (refine qac (qah rfl) rfl ?_ ?_ ?_); rfl; rfl) | (refine l_not ?_; (refine qac (OpW.not rfl) rfl ?_ ?_ ?_); rfl; rfl) | (refine qaG ?_; (refine qac (qay rfl rfl rfl) rfl ?_ ?_ ?_); rfl; rfl) | (refine qaH ?_; refine SXl.alloc ?_ ?_ (fun g => ?_); rfl; rfl) | (refine qas ?_; first | ((first | refine qag 0 ?_ rfl rfl rfl rfl rfl rfl ?_ | refine qag 1 ?_ rfl rfl rfl rfl rfl rfl ?_ | refine qag 2 ?_ rfl rfl rfl rfl rfl rfl ?_); rfl; simp only [List.set_cons_zero, List.set_cons_succ]) | ((first | refine qaa 0 ?_ rfl rfl rfl rfl rfl rfl rfl ?_ | refine qaa 1 ?_ rfl rfl rfl rfl rfl rfl rfl ?_ | refine qaa 2 ?_ rfl rfl rfl rfl rfl rfl rfl ?_); rfl; simp only [List.set_cons_zero, List.set_cons_succ]) | ((first | refine qab 0 ?_ rfl rfl rfl rfl rfl rfl rfl ?_ | refine qab 1 ?_ rfl rfl rfl rfl rfl rfl rfl ?_ | refine qab 2 ?_ rfl rfl rfl rfl rfl rfl rfl ?_); rfl; simp only [over, List.set_cons_zero, List.set_cons_succ])) | (rw [hn]) | refine qaz ?_ | refine qax ?_ | refine qaD ?_)
    refine qaL 1 rfl rfl rfl rfl rfl (fun w' hl => ⟨q, rfl, hq, hl.owns, hl.mod⟩)
  cases hk : inB kid 1 l.length
  · have e : removeKid l n kid = (l, 1) := by simp [removeKid, hk]
    rw [e]
    repeat (first | refine qan ?_ | refine qaj ?_ | refine qaf ?_ | refine qad ?_ | refine SX.block ?_ | refine qaq rfl ?_ | (refine qau ?_; (first | refine qac (qao rfl (fun w hl => hT _ hl.mod)) rfl ?_ ?_ ?_ | refine qac (qao rfl (fun w hl => isNode_any _ _ _ _ _)) rfl ?_ ?_ ?_); rfl; rfl) | (refine qaw ?_; (first | refine qac (qal 0 rfl rfl rfl) rfl ?_ ?_ ?_ | refine qac (qal 2 rfl rfl rfl) rfl ?_ ?_ ?_); rfl; rfl) | (refine qap ?_; (refine qac (qak rfl) rfl ?_ ?_ ?_); rfl; rfl) | (refine qam ?_; (refine qac (qah rfl) rfl ?_ ?_ ?_); rfl; rfl) | (refine l_not ?_; (refine qac (OpW.not rfl) rfl ?_ ?_ ?_); rfl; rfl) | (refine qaG ?_; (refine qac (qay rfl rfl rfl) rfl ?_ ?_ ?_); rfl; rfl) | (refine qaH ?_; refine SXl.alloc ?_ ?_ (fun g => ?_); rfl; rfl) | (refine qas ?_; first | ((first | refine qag 0 ?_ rfl rfl rfl rfl rfl rfl ?_ | refine qag 1 ?_ rfl rfl rfl rfl rfl rfl ?_ | refine qag 2 ?_ rfl rfl rfl rfl rfl rfl ?_); rfl; simp only [List.set_cons_zero, List.set_cons_succ]) | ((first | refine qaa 0 ?_ rfl rfl rfl rfl rfl rfl rfl ?_ | refine qaa 1 ?_ rfl rfl rfl rfl rfl rfl rfl ?_ | refine qaa 2 ?_ rfl rfl rfl rfl rfl rfl rfl ?_); rfl; simp only [List.set_cons_zero, List.set_cons_succ]) | ((first | refine qab 0 ?_ rfl rfl rfl rfl rfl rfl rfl ?_ | refine qab 1 ?_ rfl rfl rfl rfl rfl rfl rfl ?_ | refine qab 2 ?_ rfl rfl rfl rfl rfl rfl rfl ?_); rfl; simp only [over, List.set_cons_zero, List.set_cons_succ])) | (rw [hn]) | (rw [hk]) | refine qaz ?_ | refine qax ?_ | refine qaD ?_)
    refine qaL 1 rfl rfl rfl rfl rfl (fun w' hl => ⟨q, rfl, hq, hl.owns, hl.mod⟩)
  have hmem := ok_mem hv hn hk
  obtain ⟨kn, x, rfl, hkn, hx, hnx⟩ := node_get hn
  obtain ⟨kk, y, rfl, hkk, hy, hny⟩ := node_get hk
  rw [hnx, hny] at hmem
  obtain ⟨p, hp⟩ := pnode_get hq hx
  obtain ⟨py, hpy⟩ := pnode_get hq hy
  obtain ⟨b1, o1, x1, r1, rfl, hR1, hb1, hxk, hr1, hl1, hc1⟩ := h.get hkn
  obtain rfl : x1 = x := Option.some.inj (hxk.out.symm.trans hx)
  obtain ⟨ka, kc, rra, rrc, rfl, hk1, ht1, _⟩ := hr1
  have hkl : x1.kids.length ≤ 12 := ok_kids_len hv hx
  have hH := fun w' (hm : Mod (fun _ => False) w w') => hasKid_any x1.kids ((kk + 1 : Nat) : Int) ka kc R w' (by omega) (SliceAt.flatKeep hk1 hm)
  by_cases hup : y.up = ((kn + 1 : Nat) : Int)
  rotate_left
  · have e : removeKid l ((kn + 1 : Nat) : Int) ((kk + 1 : Nat) : Int) = (l, 3) := by simp only [removeKid, hv, hn, hk, hny, decide_eq_true hup]; rfl
    rw [e]
    rw [decide_eq_false (fun h => hup (hmem.1 h))] at hH
    repeat (first | refine qan ?_ | refine qaj ?_ | refine qaf ?_ | refine qad ?_ | refine SX.block ?_ | refine qaq rfl ?_ | refine qat rfl ?_ | (refine qau ?_; (first | refine qac (qao rfl (fun w hl => hT _ hl.mod)) rfl ?_ ?_ ?_ | refine qac (qao rfl (fun w hl => isNode_any _ _ _ _ _)) rfl ?_ ?_ ?_ | refine qac (qao rfl (fun w hl => node_any _ _ _ _ kn _ _ _ _ _ _ _ _ _ w (by omega) hkn (fun j v hv => hl.old (hc1 j v hv) (fun h => h)))) rfl ?_ ?_ ?_ | refine qac (qao rfl (fun w hl => hH _ hl.mod)) rfl ?_ ?_ ?_); rfl; rfl) | (refine l_field ?_; (refine qac (OpW.field rfl (nodeRow_a1 _ _ _ _ _ _ _ _ _)) rfl ?_ ?_ ?_); rfl; rfl) | (refine qaw ?_; (first | refine qac (qal 0 rfl rfl rfl) rfl ?_ ?_ ?_ | refine qac (qal 2 rfl rfl rfl) rfl ?_ ?_ ?_); rfl; rfl) | (refine qap ?_; (refine qac (qak rfl) rfl ?_ ?_ ?_); rfl; rfl) | (refine qam ?_; (refine qac (qah rfl) rfl ?_ ?_ ?_); rfl; rfl) | (refine l_not ?_; (refine qac (OpW.not rfl) rfl ?_ ?_ ?_); rfl; rfl) | (refine qaG ?_; (refine qac (qay rfl rfl rfl) rfl ?_ ?_ ?_); rfl; rfl) | (refine qaH ?_; refine SXl.alloc ?_ ?_ (fun g => ?_); rfl; rfl) | (refine qas ?_; first | ((first | refine qag 0 ?_ rfl rfl rfl rfl rfl rfl ?_ | refine qag 1 ?_ rfl rfl rfl rfl rfl rfl ?_ | refine qag 2 ?_ rfl rfl rfl rfl rfl rfl ?_); rfl; simp only [List.set_cons_zero, List.set_cons_succ]) | ((first | refine qaa 0 ?_ rfl rfl rfl rfl rfl rfl rfl ?_ | refine qaa 1 ?_ rfl rfl rfl rfl rfl rfl rfl ?_ | refine qaa 2 ?_ rfl rfl rfl rfl rfl rfl rfl ?_); rfl; simp only [List.set_cons_zero, List.set_cons_succ]) | ((first | refine qab 0 ?_ rfl rfl rfl rfl rfl rfl rfl ?_ | refine qab 1 ?_ rfl rfl rfl rfl rfl rfl rfl ?_ | refine qab 2 ?_ rfl rfl rfl rfl rfl rfl rfl ?_); rfl; simp only [over, List.set_cons_zero, List.set_cons_succ])) | (rw [hn]) | (rw [hk]) | refine qaz ?_ | refine qax ?_ | refine qaD ?_)
    refine qaL 1 rfl rfl rfl rfl rfl (fun w' hl => ⟨q, rfl, hq, hl.owns, hl.mod⟩)
  have e : removeKid l ((kn + 1 : Nat) : Int) ((kk + 1 : Nat) : Int) = (takeKid l ((kn + 1 : Nat) : Int) ((kk + 1 : Nat) : Int), 0) := by simp only [removeKid, hv, hn, hk, hny, hup]; simp
  rw [e]
  rw [decide_eq_true (hmem.2 hup)] at hH
  obtain ⟨ps, qa, qc⟩ := q
  simp only at hq hql hp hpy
  refine SXl.know (fun w hl => tree_addr (l := ps) (a := qa) (c := qc) hl.owns (by omega)) (fun ⟨gt, hgt⟩ => ?_)
  subst hgt
  have hkp : kn < ps.length := by omega
  repeat (first | refine qan ?_ | refine qaj ?_ | refine qaf ?_ | refine qad ?_ | refine SX.block ?_ | refine qaC ?_ | refine qat rfl ?_ | (refine qau ?_; (first | refine qac (qao rfl (fun w hl => hT _ hl.mod)) rfl ?_ ?_ ?_ | refine qac (qao rfl (fun w hl => isNode_any _ _ _ _ _)) rfl ?_ ?_ ?_ | refine qac (qao rfl (fun w hl => node_any _ _ _ _ kn _ _ _ _ _ _ _ _ _ w (by omega) hkn (fun j v hv => hl.old (hc1 j v hv) (fun h => h)))) rfl ?_ ?_ ?_ | refine qac (qao rfl (fun w hl => hH _ hl.mod)) rfl ?_ ?_ ?_); rfl; rfl) | (refine l_field ?_; (refine qac (OpW.field rfl (nodeRow_a1 _ _ _ _ _ _ _ _ _)) rfl ?_ ?_ ?_); rfl; rfl) | (refine qaw ?_; (refine qac (qal 2 rfl rfl rfl) rfl ?_ ?_ ?_); rfl; rfl) | (refine qap ?_; (refine qac (qak rfl) rfl ?_ ?_ ?_); rfl; rfl) | (refine qam ?_; (refine qac (qah rfl) rfl ?_ ?_ ?_); rfl; rfl) | (refine l_len ?_; (refine qac (OpW.len rfl) rfl ?_ ?_ ?_); rfl; rfl) | (refine l_not ?_; (refine qac (OpW.not rfl) rfl ?_ ?_ ?_); rfl; rfl) | (refine qaG ?_; (refine qac (qay rfl rfl rfl) rfl ?_ ?_ ?_); rfl; rfl) | (refine qaH ?_; refine SXl.alloc ?_ ?_ (fun g => ?_); rfl; rfl) | (refine qas ?_; first | ((first | refine qag 0 ?_ rfl rfl rfl rfl rfl rfl ?_ | refine qag 1 ?_ rfl rfl rfl rfl rfl rfl ?_ | refine qag 2 ?_ rfl rfl rfl rfl rfl rfl ?_); rfl; simp only [List.set_cons_zero, List.set_cons_succ]) | ((first | refine qaa 0 ?_ rfl rfl rfl rfl rfl rfl rfl ?_ | refine qaa 1 ?_ rfl rfl rfl rfl rfl rfl rfl ?_ | refine qaa 2 ?_ rfl rfl rfl rfl rfl rfl rfl ?_); rfl; simp only [List.set_cons_zero, List.set_cons_succ]) | ((first | refine qab 0 ?_ rfl rfl rfl rfl rfl rfl rfl ?_ | refine qab 1 ?_ rfl rfl rfl rfl rfl rfl rfl ?_ | refine qab 2 ?_ rfl rfl rfl rfl rfl rfl rfl ?_); rfl; simp only [over, List.set_cons_zero, List.set_cons_succ])) | (rw [hn]) | (rw [hk]) | refine qar ?_)
  refine SX.ownNil 3 1 ?_
  refine SX.loop3 (fun (j : Nat) (_ : Option Addr × Nat) (_ : Unit) => j ≤ x1.kids.length) (fun j _ _ => x1.kids.length - j) (fun _ _ _ => [⟨g, [.slice (some ⟨gt, 0, none⟩) ps.length qc], 37⟩, ⟨g9, [.slice none 0 0], 37⟩, ⟨g8, [.slice (some ⟨b1, o1, none⟩) l.length c], 37⟩]) (fun j q _ => intsO (restTo x1.kids ((kk + 1 : Nat) : Int) j) q :: treeO ps (some ⟨gt, 0, none⟩) qc) (fun _ _ _ => []) (fun j q _ => [(1, .int .i64 ((kn + 1 : Nat) : Int)), (2, .int .i64 ((kk + 1 : Nat) : Int)), (6, .pointer (some ⟨g9, 0, none⟩)), (8, .pointer (some ⟨g, 0, none⟩)), (9, .slice q.1 (restTo x1.kids ((kk + 1 : Nat) : Int) j).length q.2), (43, .slice ka x1.kids.length kc), (44, .int .i64 x1.kids.length), (45, .int .i64 j)]) 0 (none, 0) () (Nat.zero_le _) ?_ (fun w hl => hl) ?_
  · (repeat (first | exact subF_nil _ | (refine subF_cons rfl ?_) | (refine subF_consv rfl (by rfl) ?_)))
  rintro j q _ hj
  have hrl := restTo_len x1.kids ((kk + 1 : Nat) : Int) j
  by_cases hjl : j < x1.kids.length
  rotate_left
  · skip
    have hall : restTo x1.kids ((kk + 1 : Nat) : Int) j = x1.kids.filter fun k => decide (k ≠ ((kk + 1 : Nat) : Int)) := by unfold restTo; rw [List.take_of_length_le (by omega)]
    generalize hRe : restTo x1.kids ((kk + 1 : Nat) : Int) j = Rk at *
    repeat (first | refine qan ?_ | refine qaj ?_ | refine qaf ?_ | refine qad ?_ | refine qat rfl ?_ | (refine qaI ?_; (refine qac ((qaF (i := kn) hkp rfl (congrArg (fun i : Int => some (Value.int .i64 i)) (by omega : ((kn + 1 : Nat) : Int) - 1 = (kn : Int))))) rfl ?_ ?_ ?_); rfl; rfl) | (refine qaw ?_; (refine qac (qav 0 rfl rfl rfl) rfl ?_ ?_ ?_); rfl; rfl) | (refine qai ?_; (refine qac (qae rfl) rfl ?_ ?_ ?_); rfl; rfl) | (refine qap ?_; (refine qac (qak rfl) rfl ?_ ?_ ?_); rfl; rfl) | (refine l_lss ?_; (refine qac (OpW.lssF rfl rfl (by omega)) rfl ?_ ?_ ?_); rfl; rfl) | (refine l_sub ?_; (refine qac (OpW.subi rfl rfl (by omega) (by omega)) rfl ?_ ?_ ?_); rfl; rfl) | refine SX.exit ?_ | refine qaO ?_ | refine qaK ?_)
    change SXl _ _ _ _ _ _ (kidsO (({ x1 with kids := Rk } : Node), ({ p with ka := q.1, kc := q.2 } : NodeP)) :: treeO ps (some ⟨gt, 0, none⟩) qc) _ _ _ _
    refine qas ?_
    refine SXl.treeKids0 (c := qc) (({ x1 with kids := Rk } : Node), ({ p with ka := q.1, kc := q.2 } : NodeP)) hp rfl rfl rfl rfl rfl rfl ?_
    have hkk2 : kk ≠ kn := fun e => by
      subst e
      have hc := ((ok_is hv hn).kids _ (by rw [hnx]; exact hmem.2 hup)).2
      have d1 := ok_dep hv hn
      have d2 := ((ok_deep hv).next _ hn (by rw [hny, hup]; omega)).2.1
      rw [hny, hup] at d2
      omega
    have hpy2 : (ps.set kn (({ x1 with kids := Rk } : Node), ({ p with ka := q.1, kc := q.2 } : NodeP)))[kk]? = some (y, py) := by rw [List.getElem?_set_ne (fun e => hkk2 e.symm)]; exact hpy
    have hkp2 : kk < ps.length := by omega
    repeat (first | refine qan ?_ | refine qaj ?_ | refine qaf ?_ | refine qad ?_ | (refine qaI ?_; (refine qac ((qaF (i := kk) hkp2 rfl (congrArg (fun i : Int => some (Value.int .i64 i)) (by omega : ((kk + 1 : Nat) : Int) - 1 = (kk : Int))))) rfl ?_ ?_ ?_); rfl; rfl) | (refine qaw ?_; (refine qac (qav 0 rfl rfl rfl) rfl ?_ ?_ ?_); rfl; rfl) | (refine qai ?_; (refine qac (qae rfl) rfl ?_ ?_ ?_); rfl; rfl) | (refine qap ?_; (refine qac (qak rfl) rfl ?_ ?_ ?_); rfl; rfl) | (refine l_sub ?_; (refine qac (OpW.subi rfl rfl (by omega) (by omega)) rfl ?_ ?_ ?_); rfl; rfl))
    refine qas ?_
    refine SXl.treeCell0 (c := qc) ({ y with up := 0 }, py) hpy2 rfl rfl rfl rfl (by decide) rfl rfl rfl ?_
    repeat (first | refine qan ?_ | refine qaj ?_ | refine qaf ?_ | refine qad ?_ | (refine qaw ?_; (refine qac (qal 0 rfl rfl rfl) rfl ?_ ?_ ?_); rfl; rfl) | (refine qam ?_; (refine qac (qah rfl) rfl ?_ ?_ ?_); rfl; rfl) | (refine qas ?_; first | ((first | refine qag 0 ?_ rfl rfl rfl rfl rfl rfl ?_ | refine qag 1 ?_ rfl rfl rfl rfl rfl rfl ?_ | refine qag 2 ?_ rfl rfl rfl rfl rfl rfl ?_); rfl; simp only [List.set_cons_zero, List.set_cons_succ]) | ((first | refine qaa 0 ?_ rfl rfl rfl rfl rfl rfl rfl ?_ | refine qaa 1 ?_ rfl rfl rfl rfl rfl rfl rfl ?_ | refine qaa 2 ?_ rfl rfl rfl rfl rfl rfl rfl ?_); rfl; simp only [List.set_cons_zero, List.set_cons_succ]) | ((first | refine qab 0 ?_ rfl rfl rfl rfl rfl rfl rfl ?_ | refine qab 1 ?_ rfl rfl rfl rfl rfl rfl rfl ?_ | refine qab 2 ?_ rfl rfl rfl rfl rfl rfl rfl ?_); rfl; simp only [over, List.set_cons_zero, List.set_cons_succ])) | refine qaz ?_)
    refine qaL 1 rfl rfl rfl rfl rfl (fun w' hl => ⟨⟨(ps.set kn (({ x1 with kids := Rk } : Node), ({ p with ka := q.1, kc := q.2 } : NodeP))).set kk ({ y with up := 0 }, py), some ⟨gt, 0, none⟩, qc⟩, by simp [TreeQ.v], ?_, hl.owns, hl.mod⟩)
    show bare _ = takeKid l _ _
    rw [bare_set, bare_set, hq]
    unfold takeKid
    rw [hnx, hny, ← hall, show (((kn + 1 : Nat) : Int) - 1).toNat = kn by omega, show (((kk + 1 : Nat) : Int) - 1).toNat = kk by omega]
  obtain ⟨b3, o3, z, e3, hR3, hb3, hzk, hc3⟩ := IntSlice.get hk1 hjl
  subst e3
  replace hzk := hzk.out
  have hs := restTo_succ (kid := ((kk + 1 : Nat) : Int)) hzk
  by_cases ez : z = ((kk + 1 : Nat) : Int)
  · rw [if_pos ez] at hs
    repeat (first | refine qan ?_ | refine qaj ?_ | refine qaf ?_ | refine qad ?_ | refine SX.block ?_ | refine qaC ?_ | refine qaq rfl ?_ | refine qat rfl ?_ | (refine qaw ?_; (refine qac (OpW.loadOld rfl (by assumption) (fun h => h)) rfl ?_ ?_ ?_); rfl; rfl) | (refine qap ?_; (refine qac (qak rfl) rfl ?_ ?_ ?_); rfl; rfl) | (refine qam ?_; (refine qac (qah rfl) rfl ?_ ?_ ?_); rfl; rfl) | (refine l_add ?_; (refine qac (OpW.succ rfl rfl (by omega)) rfl ?_ ?_ ?_); rfl; rfl) | (refine l_lss ?_; (refine qac (OpW.lssT rfl rfl (by omega)) rfl ?_ ?_ ?_); rfl; rfl) | (refine l_neq ?_; (refine qac (OpW.neqF rfl rfl (by omega)) rfl ?_ ?_ ?_); rfl; rfl) | (refine qaI ?_; (refine qac (OpW.indexAddr1 (by omega) rfl rfl) rfl ?_ ?_ ?_); rfl; rfl) | refine qar ?_)
    refine SQ.round3 (j + 1) q () (by omega) (by omega) ?_ (fun w hl => by rw [hs]; exact hl)
    (repeat (first | exact subF_nil _ | (refine subF_cons rfl ?_) | (refine subF_consv rfl (by rw [hs]) ?_)))
  · rw [if_neg ez] at hs
    repeat (first | refine qan ?_ | refine qaj ?_ | refine qaf ?_ | refine qad ?_ | refine SX.block ?_ | refine qaC ?_ | refine qaq rfl ?_ | (refine qaw ?_; (refine qac (OpW.loadOld rfl (by assumption) (fun h => h)) rfl ?_ ?_ ?_); rfl; rfl) | (refine qap ?_; (refine qac (qak rfl) rfl ?_ ?_ ?_); rfl; rfl) | (refine qam ?_; (refine qac (qah rfl) rfl ?_ ?_ ?_); rfl; rfl) | (refine l_add ?_; (refine qac (OpW.succ rfl rfl (by omega)) rfl ?_ ?_ ?_); rfl; rfl) | (refine l_lss ?_; (refine qac (OpW.lssT rfl rfl (by omega)) rfl ?_ ?_ ?_); rfl; rfl) | (refine l_neq ?_; (refine qac (OpW.neqT rfl rfl (by omega)) rfl ?_ ?_ ?_); rfl; rfl) | (refine qaI ?_; (refine qac (OpW.indexAddr1 (by omega) rfl rfl) rfl ?_ ?_ ?_); rfl; rfl) | (refine qaR ?_; first | (refine SXl.lit1 ?_ ?_ rfl rfl rfl (fun g => ?_); rfl; rfl) | (refine SXl.lit0 ?_ ?_ (fun _ h => h) rfl (fun g => ?_); rfl; rfl)) | (refine l_append ?_; first | (refine SXl.append 0 0 rfl rfl rfl rfl rfl rfl rfl rfl (by omega) (by omega) (fun a c => ?_); simp only [List.set_cons_zero, List.set_cons_succ]) | (refine SXl.append 1 0 rfl rfl rfl rfl rfl rfl rfl rfl (by omega) (by omega) (fun a c => ?_); simp only [List.set_cons_zero, List.set_cons_succ])) | refine qar ?_)
    refine SQ.round3 (j + 1) (a, c) () (by omega) (by omega) ?_ (fun w hl => by rw [hs, ← kids_push]; exact hl.drop1)
    (repeat (first | exact subF_nil _ | (refine subF_cons rfl ?_) | (refine subF_consv rfl (by rw [hs, List.length_append]; rfl) ?_)))
end Go.Proofs.Ythffgbhphjkdeaa
namespace Go.Proofs.Ythffgbhphjkdeaa
open Go.RowKit
set_option linter.unusedVariables false
set_option linter.unusedSimpArgs false

theorem removeKid_o {base : Nat} (q : TreeQ) (n kid : Int) (w : World) (h : Owns base w q.os) (hs : Drawn (bare q.ps)) : Calls Try.prog 26 #[q.v, .int .i64 n, .int .i64 kid] w (NewTreeC (removeKid (bare q.ps) n kid) w) := by
  rw [q.v_eq]
  exact removeKid_any _ n kid false q.a q.c _ w (by have := hs.len; omega) hs.fit (tree_in h)
theorem lsameTree_o {base base2 : Nat} (q q' : TreeQ) (w : World) (h : Owns base w q.os) (h' : Owns base2 w q'.os) (hs : Drawn (bare q.ps)) (hs' : Drawn (bare q'.ps)) (he : bare q.ps = bare q'.ps) : Calls Try.prog 21 #[q.v, q'.v] w (fun e w' => e = .returned (.bool true) ∧ Mod (fun _ => False) w w') := by
  rw [q.v_eq, q'.v_eq]
  have := lsameTree_any (bare q.ps) (bare q'.ps) false false q.a q'.a q.c q'.c _ _ w ⟨by have := hs.len; omega, hs.fit⟩ ⟨by have := hs'.len; omega, hs'.fit⟩ (tree_in h) (tree_in h')
  rwa [decide_eq_true he] at this
theorem streeOk_o {base : Nat} (q : TreeQ) (w : World) (h : Owns base w q.os) (hs : Drawn (bare q.ps)) : Calls Try.prog 23 #[q.v] w (fun e w' => e = .returned (.bool (treeOk (bare q.ps))) ∧ Mod (fun _ => False) w w') := by
  rw [q.v_eq]
  exact streeOk_any _ false q.a q.c _ w (by have := hs.len; omega) hs.fit (tree_in h)
theorem addNode_o {base : Nat} (q : TreeQ) (s : Style) (w : World) (h : Owns base w q.os) (hs : Drawn (bare q.ps)) : Calls Try.prog 24 #[q.v, .agg s.cells.toArray] w (NewTreeC (addNode (bare q.ps) s) w) := by
  rw [q.v_eq]
  exact addNode_any _ s false q.a q.c _ w (by have := hs.len; omega) hs.fit (tree_in h)
theorem saddNode_d {base : Nat} (q : TreeQ) (s : Style) (w : World) (h : Owns base w q.os) (hs : Drawn (bare q.ps)) : Calls Try.prog 38 #[q.v, .agg s.cells.toArray] w (NewTreeC (addNode (bare q.ps) s) w) := by
  rw [q.v_eq]
  exact saddNode_any _ s false q.a q.c _ w (by have := hs.len; omega) hs.fit (tree_in h)
end Go.Proofs.Ythffgbhphjkdeaa
